/- The walk of TrailingZeroBits. Conditions: the pointer leads to a bigInt, of at most 1000000 digits; the library's table holds its numbers. -/
import Derived.Test.YtbmjakaoniegfaaDoorBigD
import Derived.Test.YtbmjakaoniegfaaDoorShelf2
import Derived.Test.YtbmjakaoniegfaaDoorMathM
namespace Go.Proofs.YtbmjakaoniegfaaDoor.Big
open Go.RowKit Go.Proofs.YtbmjakaoniegfaaDoorW.PrintWords Go.Proofs.YtbmjakaoniegfaaDoorW.PrintLast Go.Proofs.YtbmjakaoniegfaaDoorW.PrintMore Go.Proofs.YtbmjakaoniegfaaDoor.Math
set_option linter.unusedVariables false
set_option linter.unusedSimpArgs false

/-- The library's table of trailing zeros, in memory. -/
abbrev Tab (w : World) : Prop := TabAt Shelf.tabNo Lib.deBruijn32tab w
theorem Tab.below {w w1 : World} (h : Tab w) (hb : Below w.heap.size w w1) : Tab w1 := fun j hj => pw_cell_below hb (h j hj)
theorem lib_tz {x : Nat} (h0 : x ≠ 0) (h : x < 4294967296) : IsTz x (Lib.ctz 32 x) ∧ Lib.ctz 32 x < 32 := by
  obtain ⟨m, h1, h2⟩ := Lib.ctzFrom_spec 32 x (by omega) (by omega)
  have e : Lib.ctz 32 x = Lib.ctzFrom 32 x := by simp [Lib.ctz, h0]
  rw [e]
  exact ⟨isTz_of h1, h2⟩
theorem val_all_zero {xs : List Int} (ox : Okd xs) (tx : Tight xs) (h : ∀ j, j < xs.length → xs.getD j 0 = 0) : xs = [] := by
  rw [← val_eq_zero ox tx]
  have := val_zero_take (Nat.le_refl _) h
  rwa [List.take_of_length_le (Nat.le_refl _)] at this
set_option maxHeartbeats 2000000 in
theorem tz_walk (x : Nat) (nx : Bool) (xs : List Int) (A : Option Addr) (c : Nat) (w : World) (hx : Opd w x nx xs A c) (hT : Tab w) :
    Calls Tryd.prog 71 #[.pointer (some ⟨x, 0, none⟩)] w fun e w' => e = .returned (.int .u64 (ctz (val xs).toNat : Nat)) ∧ w' = w := by
  have HX := Aside0.mk hx
  have HT := Aside0.mk hT
  obtain ⟨c0, c1, -, -, -, -, hlen⟩ := hx
  clear hT
  go_enter Tryd.func71, Tryd.ntmps71
  go_wp2
  go_loop [10] (fun i => ∃ (k : Nat), k ≤ xs.length ∧ i = .int .i64 k ∧ Aside0 (∀ j, j < k → xs.getD j 0 = 0)) (fun i => xs.length - (intOf i).toNat)
  case atStart => exact ⟨0, Nat.zero_le _, rfl, ⟨fun j hj => by omega⟩⟩
  case round =>
    obtain ⟨k, hk, rfl, hR⟩ := hrel
    by_cases hlt : k < xs.length
    · obtain ⟨g, c', he, hg⟩ := HX.out.d.form (by omega)
      obtain ⟨he1, he3⟩ : A = some ⟨g, 0, none⟩ ∧ c = c' := ⟨(Value.slice.inj he).1, (Value.slice.inj he).2.2⟩
      subst he1 he3
      have hcx := (HX.out.d.at_ hlt).1
      have hbx := getD_ok HX.out.ok k
      obtain ⟨n0, hxe⟩ : ∃ n0 : Nat, xs.getD k 0 = n0 := ⟨(xs.getD k 0).toNat, by omega⟩
      rw [hxe] at hcx hbx
      have HXE := Aside0.mk hxe
      clear hxe he
      by_cases h0 : n0 = 0
      · subst h0
        go_wp2
        go_round
        case rel =>
          refine ⟨k + 1, by omega, by go_num, ⟨fun j hj => ?_⟩⟩
          rcases (show j < k ∨ j = k from by omega) with h | rfl
          · exact hR.out j h
          · exact HXE.out
        case measure => simp [intOf]; omega
      · have H0 := Aside0.mk h0
        have HL := Aside0.mk (lib_tz h0 (show n0 < 4294967296 from by omega))
        have hq : ((n0 : Int) != 0) = true := by simp; omega
        have hq2 : ((n0 : Int) == 0) = false := by simp; omega
        have hl32 := HL.out.2
        clear h0
        go_wp2_with fail
        refine (Shelf.bits_TrailingZeros32 n0 (by omega) _ (fun _ => HT.out)).mono ?_
        rintro e w1 ⟨rfl, hw⟩
        subst w1
        go_wp2
        go_ret
        refine ⟨?_, rfl⟩
        have hd := digits_tz HX.out.ok hlt hR.out (k := Lib.ctz 32 n0) (by rw [HXE.out, Int.toNat_natCast]; exact HL.out.1) HL.out.2
        rw [ctz_of hd]
        congr 2
        try omega
    · obtain rfl : k = xs.length := by omega
      have hn := val_all_zero HX.out.ok HX.out.ti hR.out
      have HN := Aside0.mk hn
      clear hn
      go_wp2
      go_ret
      refine ⟨?_, rfl⟩
      rw [HN.out]
      simp [val, ctz_zero]
/-- How many zeros stand at the end of a number. -/
theorem tz_calls (x : Nat) (n : Int) (m : Nat) (w : World) (hx : Big w x n m) (hm : m ≤ 1000000) (hT : Tab w) :
    Calls Tryd.prog 71 #[.pointer (some ⟨x, 0, none⟩)] w fun e w' => e = .returned (.int .u64 (tz n : Nat)) ∧ w' = w := by
  obtain ⟨nx, xs, A, c, hxo, rfl, hlx⟩ := hx.opd hm
  have h0 := val_nonneg hxo.ok
  have e : (bval nx xs).natAbs = (val xs).toNat := by cases nx <;> simp [bval] <;> omega
  rw [tz, e]
  exact tz_walk x nx xs A c w hxo hT
end Go.Proofs.YtbmjakaoniegfaaDoor.Big
