/- The library's TrailingZeros32, by the kit's proved contract, at this translation's numbers. Conditions: the table of the library holds its numbers. -/
import Derived.Shelf.Spec.TrailingZeros
import Derived.Test.YtdbdhgimokaooaaDoorProg
import Derived.Test.YtdbdhgimokaooaaDoorG6
import Derived.Test.YtdbdhgimokaooaaDoorMathM
/- The walk of TrailingZeroBits. Conditions: the pointer leads to a bigInt, of at most 1000000 digits; the library's table holds its numbers. -/
/- The walk of Rsh for every number: divided by a power of 2, rounded down. Conditions: the pointers lead to bigInts, of at most 1000000 digits; the library's table holds its numbers. -/
namespace Go.Proofs.YtdbdhgimokaooaaDoor.Shelf
open Go.Shelf
def lays28_ren : Go.Shelf.Ren := ⟨fun | 28 => 93 | n => n, fun | 0 => 0 | 3 => 3 | 4 => 4 | 5 => 5 | 25 => 84 | 27 => 103 | 53 => 113 | n => n, fun | 0 => 1 | n => n⟩
theorem lays28 : Go.Proofs.Lays7.n28 Tryd.prog lays28_ren := {
 mixed := by kernel_rfl
 f28 := Tryd.func93.trans (congrArg some (by kernel_rfl))
 t0 := Tryd.underlying0
 a0 := Tryd.isAgg0
 z0 := Tryd.sizeOf0
 v0 := Tryd.zeroValue0
 i0 := by kernel_rfl
 t3 := Tryd.underlying3
 a3 := Tryd.isAgg3
 z3 := Tryd.sizeOf3
 v3 := Tryd.zeroValue3
 i3 := by kernel_rfl
 t4 := Tryd.underlying4
 a4 := Tryd.isAgg4
 z4 := Tryd.sizeOf4
 v4 := Tryd.zeroValue4
 i4 := by kernel_rfl
 t5 := Tryd.underlying5
 a5 := Tryd.isAgg5
 z5 := Tryd.sizeOf5
 v5 := Tryd.zeroValue5
 i5 := by kernel_rfl
 t25 := Tryd.underlying84
 a25 := Tryd.isAgg84
 z25 := Tryd.sizeOf84
 v25 := Tryd.zeroValue84
 i25 := by kernel_rfl
 t27 := Tryd.underlying103
 a27 := Tryd.isAgg103
 z27 := Tryd.sizeOf103
 v27 := Tryd.zeroValue103
 i27 := by kernel_rfl
 t53 := Tryd.underlying113
 a53 := Tryd.isAgg113
 z53 := Tryd.sizeOf113
 v53 := Tryd.zeroValue113
 i53 := by kernel_rfl
 g0 := by kernel_rfl }
abbrev tabNo : Nat := 1
theorem bits_TrailingZeros32 (x : Nat) (hx : x < 4294967296) (w : World) (hT : x ≠ 0 → TabAt tabNo Lib.deBruijn32tab w) :
  Calls Tryd.prog 93 #[.int .u32 x] w fun e w' => e = .returned (.int .i64 (Lib.ctz 32 x)) ∧ w' = w := Any7.bits_TrailingZeros32 lays28 x hx w hT
end Go.Proofs.YtdbdhgimokaooaaDoor.Shelf
namespace Go.Proofs.YtdbdhgimokaooaaDoor.Big
open Go.RowKit Go.Proofs.YtdbdhgimokaooaaDoorW.PrintWords Go.Proofs.YtdbdhgimokaooaaDoorW.PrintLast Go.Proofs.YtdbdhgimokaooaaDoorW.PrintMore Go.Proofs.YtdbdhgimokaooaaDoor.Math
set_option linter.unusedVariables false
set_option linter.unusedSimpArgs false
abbrev Tab (w : World) : Prop := TabAt Shelf.tabNo Lib.deBruijn32tab w
theorem Tab.below {w w1 : World} (h : Tab w) (hb : Below w.heap.size w w1) : Tab w1 := fun j hj => pw_cell_below hb (h j hj)
theorem lib_tz {x : Nat} (h0 : x ≠ 0) (h : x < 4294967296) : IsTz x (Lib.ctz 32 x) ∧ Lib.ctz 32 x < 32 := by
 obtain ⟨m, h1, h2⟩ := Lib.ctzFrom_spec 32 x (by omega) (by omega)
 have e : Lib.ctz 32 x = Lib.ctzFrom 32 x := by simp [Lib.ctz, h0]
 rw [e]
 exact ⟨isTz_of h1, h2⟩
theorem val_all_zero {xs : List Int} (ox : Okd xs) (tx : Tight xs) (h : ∀ j, j < xs.length → xs.getD j 0 = 0) : xs = [] := by
 rw [← val_eq_zero ox tx]
 have := val_zero_take (Nat.le_refl _) h
 rwa [List.take_of_length_le (Nat.le_refl _)] at this
set_option maxHeartbeats 2000000 in
theorem tz_walk (x : Nat) (nx : Bool) (xs : List Int) (A : Option Addr) (c : Nat) (w : World) (hx : Opd w x nx xs A c) (hT : Tab w) :
  Calls Tryd.prog 72 #[.pointer (some ⟨x, 0, none⟩)] w fun e w' => e = .returned (.int .u64 (ctz (val xs).toNat : Nat)) ∧ w' = w := by
 have HX := Aside0.mk hx
 have HT := Aside0.mk hT
 obtain ⟨c0, c1, -, -, -, -, hlen⟩ := hx
 clear hT
 go_enter Tryd.func72, Tryd.ntmps72
 go_wp2
 go_loop [10] (fun i => ∃ (k : Nat), k ≤ xs.length ∧ i = .int .i64 k ∧ Aside0 (∀ j, j < k → xs.getD j 0 = 0)) (fun i => xs.length - (intOf i).toNat)
 case atStart => exact ⟨0, Nat.zero_le _, rfl, ⟨fun j hj => by omega⟩⟩
 case round =>
  obtain ⟨k, hk, rfl, hR⟩ := hrel
  by_cases hlt : k < xs.length
  ·obtain ⟨g, c', he, hg⟩ := HX.out.d.form (by omega)
   obtain ⟨he1, he3⟩ : A = some ⟨g, 0, none⟩ ∧ c = c' := ⟨(Value.slice.inj he).1, (Value.slice.inj he).2.2⟩
   subst he1 he3
   have hcx := (HX.out.d.at_ hlt).1
   have hbx := getD_ok HX.out.ok k
   obtain ⟨n0, hxe⟩ : ∃ n0 : Nat, xs.getD k 0 = n0 := ⟨(xs.getD k 0).toNat, by omega⟩
   rw [hxe] at hcx hbx
   have HXE := Aside0.mk hxe
   clear hxe he
   by_cases h0 : n0 = 0
   ·subst h0
    go_wp2
    go_round
    case rel =>
     refine ⟨k + 1, by omega, by go_num, ⟨fun j hj => ?_⟩⟩
     rcases (show j < k ∨ j = k from by omega) with h | rfl
     ·exact hR.out j h
     ·exact HXE.out
    case measure => simp [intOf]; omega
   ·have H0 := Aside0.mk h0
    have HL := Aside0.mk (lib_tz h0 (show n0 < 4294967296 from by omega))
    have hq : ((n0 : Int) != 0) = true := by simp; omega
    have hq2 : ((n0 : Int) == 0) = false := by simp; omega
    have hl32 := HL.out.2
    clear h0
    go_wp2_with fail
    refine (Shelf.bits_TrailingZeros32 n0 (by omega) _ (fun _ => HT.out)).mono ?_
    rintro e w1 ⟨rfl, hw⟩
    subst w1
    go_wp2
    go_ret
    refine ⟨?_, rfl⟩
    have hd := digits_tz HX.out.ok hlt hR.out (k := Lib.ctz 32 n0) (by rw [HXE.out, Int.toNat_natCast]; exact HL.out.1) HL.out.2
    rw [ctz_of hd]
    congr 2
    try omega
  ·obtain rfl : k = xs.length := by omega
   have hn := val_all_zero HX.out.ok HX.out.ti hR.out
   have HN := Aside0.mk hn
   clear hn
   go_wp2
   go_ret
   refine ⟨?_, rfl⟩
   rw [HN.out]
   simp [val, ctz_zero]
theorem tz_calls (x : Nat) (n : Int) (m : Nat) (w : World) (hx : Big w x n m) (hm : m ≤ 1000000) (hT : Tab w) :
  Calls Tryd.prog 72 #[.pointer (some ⟨x, 0, none⟩)] w fun e w' => e = .returned (.int .u64 (tz n : Nat)) ∧ w' = w := by
 obtain ⟨nx, xs, A, c, hxo, rfl, hlx⟩ := hx.opd hm
 have h0 := val_nonneg hxo.ok
 have e : (bval nx xs).natAbs = (val xs).toNat := by cases nx <;> simp [bval] <;> omega
 rw [tz, e]
 exact tz_walk x nx xs A c w hxo hT
end Go.Proofs.YtdbdhgimokaooaaDoor.Big
namespace Go.Proofs.YtdbdhgimokaooaaDoor.Big
open Go.RowKit Go.Proofs.YtdbdhgimokaooaaDoorW.PrintWords Go.Proofs.YtdbdhgimokaooaaDoorW.PrintLast Go.Proofs.YtdbdhgimokaooaaDoorW.PrintMore Go.Proofs.YtdbdhgimokaooaaDoor.Math
set_option linter.unusedVariables false
set_option linter.unusedSimpArgs false
theorem neg_shift_val {v : Int} (h0 : 0 ≤ v) (n : Nat) : (-v) / 2 ^ n = -(v / 2 ^ n) - (if v.toNat % 2 ^ n = 0 then 0 else 1) := by
 obtain ⟨m, rfl⟩ := Int.eq_ofNat_of_zero_le h0
 rw [neg_shift m n, Int.natCast_ediv, Int.natCast_pow, Int.toNat_natCast]
 rfl
theorem lost_iff {m n : Nat} (h : m ≠ 0) : m % 2 ^ n = 0 ↔ n ≤ ctz m := ⟨fun g => (ctz_spec h).le g, fun g => mod_pow_dvd (ctz_spec h).z g⟩
theorem Digs.one (w : World) (a : Int) : Digs (w.alloc (.cells #[.int .u32 a] 103)) (.slice (some ⟨w.heap.size, 0, none⟩) 1 1) [a] :=
 (Own.digs (own_lit w w.heap.size 103 .u32 [a] (Nat.le_refl _) (by simp)))
set_option maxRecDepth 100000 in
set_option maxHeartbeats 4000000 in
theorem rsh_keep (z x n : Nat) (xs : List Int) (A : Option Addr) (c : Nat) (w : World) (hz : IsBig w z) (hx : Opd w x true xs A c) (hn : n ≤ 1000000) (hT : Tab w) (hlost : ¬ ctz (val xs).toNat < n) :
  Calls Tryd.prog 74 #[.pointer (some ⟨z, 0, none⟩), .pointer (some ⟨x, 0, none⟩), .int .u64 n] w fun e w' => e = .returned (.pointer (some ⟨z, 0, none⟩)) ∧ Big w' z (-(val xs / 2 ^ n)) (xs.length + 2) ∧ w.grownBy w' (some z) := by
 have HZ := Aside0.mk hz
 have HX := Aside0.mk hx
 have HT := Aside0.mk hT
 obtain ⟨c0, c1, -, -, -, -, hlen⟩ := hx
 clear hz hT
 have c1' := fun o => pw_cell_below (below_alloc (Below.refl w.heap.size w) o) c1
 have D0 := Aside0.mk (Own.empty w (Nat.le_refl _))
 go_enter Tryd.func74, Tryd.ntmps74
 go_wp2_with fail
 refine (tz_walk x true xs A c _ HX.out HT.out).mono ?_
 rintro e w1 ⟨rfl, hw⟩
 subst w1
 generalize ctz (val xs).toNat = tzn at hlost ⊢
 have hlo : ¬ (tzn : Int) < (n : Int) := by omega
 go_wp2
 have hr : n % 32 ≤ 31 := by omega
 go_loopw [8, 10] (fun out i wr => ∃ (k : Nat), n / 32 ≤ k ∧ i = .int .i64 k ∧ k ≤ 2000000 ∧
   Aside0 (∃ ds, RshRel xs (n % 32) (n / 32) k ds ∧ Own wr w.heap.size out ds ∧ Below w.heap.size w wr ∧ k - n / 32 ≤ xs.length)) (fun _ i _ => xs.length - (intOf i).toNat)
 case atStart => exact ⟨n / 32, Nat.le_refl _, by go_num, by omega, ⟨[], RshRel.start _ _ _, D0.out, (Below.refl _ _).alloc (Nat.le_refl _) _, by omega⟩⟩
 case round =>
  obtain ⟨k, hk, rfl, hk2, ⟨ds, hrl, hdg, hbl, hm⟩⟩ := hrel
  have hdl := hrl.len
  have HR := Aside0.mk hrl
  have HD := Aside0.mk hdg
  have HB := Aside0.mk hbl
  have k0 := pw_cell_below hbl c0
  have k1 := pw_cell_below hbl c1
  have HDL := Aside0.mk hdl
  clear hrl hdg hbl hdl
  by_cases hlt : k < xs.length
  ·obtain ⟨g, c', he, hg⟩ := HX.out.d.form (by omega)
   obtain ⟨he1, he3⟩ : A = some ⟨g, 0, none⟩ ∧ c = c' := ⟨(Value.slice.inj he).1, (Value.slice.inj he).2.2⟩
   subst he1 he3
   have hcx := ((HX.out.d.below HB.out).at_ hlt).1
   have hbx := getD_ok HX.out.ok k
   obtain ⟨x0, hxe⟩ : ∃ x0, x0 = xs.getD k 0 := ⟨_, rfl⟩
   rw [← hxe] at hcx hbx
   have HXE := Aside0.mk hxe
   clear hxe he
   by_cases hlt2 : k + 1 < xs.length
   ·have hcy := ((HX.out.d.below HB.out).at_ hlt2).1
    have hby := getD_ok HX.out.ok (k + 1)
    obtain ⟨y0, hye⟩ : ∃ y0, y0 = xs.getD (k + 1) 0 := ⟨_, rfl⟩
    rw [← hye] at hcy hby
    have HYE := Aside0.mk hye
    clear hye
    go_wp2_with (((with_reducible refine gate_builtin (b := .append) (xs := #[.tmp 65, .tmp 71]) rfl ?_); at_builtin; refine print_append_num (w0 := w) w.heap.size rfl (.tmp 65) (.tmp 71) 80 103 .u32 4 rfl Tryd.underlying80 info32 (by decide) u8 ds (bits BinOp.or IntKind.u64 x0 (y0 * 4294967296) / 2 ^ (n % 32) % 4294967296) rfl rfl ?aO ?aB ?aS ?aL ?_; (case aO => exact HD.out); (case aB => exact HB.out); (case aS => exact HB.out.size); (case aL => have := HDL.out; omega); intro v1 w1 ho hb hg hat; have HO := Aside0.mk ho; have HB1 := Aside0.mk hb; clear ho hb hg hat))
    go_roundw
    case rel => exact ⟨k + 1, by omega, by go_num, by omega, ⟨_, HR.out.step HX.out.ok hr hk hlt (by rw [or_two _ _ hbx hby, HXE.out, HYE.out]), HO.out, HB1.out, by omega⟩⟩
    case measure => simp [intOf]; omega
   ·have hge := Aside0.mk (show xs.getD (k + 1) 0 = 0 from by rw [List.getD_eq_getElem?_getD, List.getElem?_eq_none (by omega)]; rfl)
    go_wp2_with (((with_reducible refine gate_builtin (b := .append) (xs := #[.tmp 65, .tmp 71]) rfl ?_); at_builtin; refine print_append_num (w0 := w) w.heap.size rfl (.tmp 65) (.tmp 71) 80 103 .u32 4 rfl Tryd.underlying80 info32 (by decide) u8 ds (x0 / 2 ^ (n % 32) % 4294967296) rfl rfl ?aO ?aB ?aS ?aL ?_; (case aO => exact HD.out); (case aB => exact HB.out); (case aS => exact HB.out.size); (case aL => have := HDL.out; omega); intro v1 w1 ho hb hg hat; have HO := Aside0.mk ho; have HB1 := Aside0.mk hb; clear ho hb hg hat))
    go_roundw
    case rel => exact ⟨k + 1, by omega, by go_num, by omega, ⟨_, HR.out.step HX.out.ok hr hk hlt (by rw [hge.out, ← HXE.out, Int.mul_zero, Int.add_zero]), HO.out, HB1.out, by omega⟩⟩
    case measure => simp [intOf]; omega
  ·clear c0 c1 c1'
   go_wp2_with fail
   refine (put_big z true _ _ _ (HZ.out.below HB.out) HD.out.digs HR.out.ok).mono ?_
   rintro e w' ⟨rfl, hb, hg⟩
   have HB2 := Aside0.mk hb
   have HG := Aside0.mk (below_z HB.out hg)
   clear hb hg
   go_wp2
   go_ret
   refine ⟨rfl, ?_, HG.out⟩
   have h := HB2.out
   have hv := HR.out.done HX.out.ok (by omega)
   rw [show 32 * (n / 32) + n % 32 = n from by omega] at hv
   rw [show bval true ds = -(val xs / 2 ^ n) from by rw [← hv]; rfl] at h
   exact h.more (by rw [HDL.out]; omega)
set_option maxRecDepth 100000 in
set_option maxHeartbeats 4000000 in
theorem rsh_lost (z x n : Nat) (xs : List Int) (A : Option Addr) (c : Nat) (w : World) (hz : IsBig w z) (hx : Opd w x true xs A c) (hn : n ≤ 1000000) (hT : Tab w) (hlost : ctz (val xs).toNat < n) :
  Calls Tryd.prog 74 #[.pointer (some ⟨z, 0, none⟩), .pointer (some ⟨x, 0, none⟩), .int .u64 n] w fun e w' => e = .returned (.pointer (some ⟨z, 0, none⟩)) ∧ Big w' z (-(val xs / 2 ^ n + 1)) (xs.length + 2) ∧ w.grownBy w' (some z) := by
 have HZ := Aside0.mk hz
 have HX := Aside0.mk hx
 have HT := Aside0.mk hT
 obtain ⟨c0, c1, -, -, -, -, hlen⟩ := hx
 clear hz hT
 have c1' := fun o => pw_cell_below (below_alloc (Below.refl w.heap.size w) o) c1
 have D0 := Aside0.mk (Own.empty w (Nat.le_refl _))
 go_enter Tryd.func74, Tryd.ntmps74
 go_wp2_with fail
 refine (tz_walk x true xs A c _ HX.out HT.out).mono ?_
 rintro e w1 ⟨rfl, hw⟩
 subst w1
 generalize ctz (val xs).toNat = tzn at hlost ⊢
 have hlo : (tzn : Int) < (n : Int) := by omega
 go_wp2
 have hr : n % 32 ≤ 31 := by omega
 go_loopw [8, 10] (fun out i wr => ∃ (k : Nat), n / 32 ≤ k ∧ i = .int .i64 k ∧ k ≤ 2000000 ∧
   Aside0 (∃ ds, RshRel xs (n % 32) (n / 32) k ds ∧ Own wr w.heap.size out ds ∧ Below w.heap.size w wr ∧ k - n / 32 ≤ xs.length)) (fun _ i _ => xs.length - (intOf i).toNat)
 case atStart => exact ⟨n / 32, Nat.le_refl _, by go_num, by omega, ⟨[], RshRel.start _ _ _, D0.out, (Below.refl _ _).alloc (Nat.le_refl _) _, by omega⟩⟩
 case round =>
  obtain ⟨k, hk, rfl, hk2, ⟨ds, hrl, hdg, hbl, hm⟩⟩ := hrel
  have hdl := hrl.len
  have HR := Aside0.mk hrl
  have HD := Aside0.mk hdg
  have HB := Aside0.mk hbl
  have k0 := pw_cell_below hbl c0
  have k1 := pw_cell_below hbl c1
  have HDL := Aside0.mk hdl
  clear hrl hdg hbl hdl
  by_cases hlt : k < xs.length
  ·obtain ⟨g, c', he, hg⟩ := HX.out.d.form (by omega)
   obtain ⟨he1, he3⟩ : A = some ⟨g, 0, none⟩ ∧ c = c' := ⟨(Value.slice.inj he).1, (Value.slice.inj he).2.2⟩
   subst he1 he3
   have hcx := ((HX.out.d.below HB.out).at_ hlt).1
   have hbx := getD_ok HX.out.ok k
   obtain ⟨x0, hxe⟩ : ∃ x0, x0 = xs.getD k 0 := ⟨_, rfl⟩
   rw [← hxe] at hcx hbx
   have HXE := Aside0.mk hxe
   clear hxe he
   by_cases hlt2 : k + 1 < xs.length
   ·have hcy := ((HX.out.d.below HB.out).at_ hlt2).1
    have hby := getD_ok HX.out.ok (k + 1)
    obtain ⟨y0, hye⟩ : ∃ y0, y0 = xs.getD (k + 1) 0 := ⟨_, rfl⟩
    rw [← hye] at hcy hby
    have HYE := Aside0.mk hye
    clear hye
    go_wp2_with (((with_reducible refine gate_builtin (b := .append) (xs := #[.tmp 65, .tmp 71]) rfl ?_); at_builtin; refine print_append_num (w0 := w) w.heap.size rfl (.tmp 65) (.tmp 71) 80 103 .u32 4 rfl Tryd.underlying80 info32 (by decide) u8 ds (bits BinOp.or IntKind.u64 x0 (y0 * 4294967296) / 2 ^ (n % 32) % 4294967296) rfl rfl ?aO ?aB ?aS ?aL ?_; (case aO => exact HD.out); (case aB => exact HB.out); (case aS => exact HB.out.size); (case aL => have := HDL.out; omega); intro v1 w1 ho hb hg hat; have HO := Aside0.mk ho; have HB1 := Aside0.mk hb; clear ho hb hg hat))
    go_roundw
    case rel => exact ⟨k + 1, by omega, by go_num, by omega, ⟨_, HR.out.step HX.out.ok hr hk hlt (by rw [or_two _ _ hbx hby, HXE.out, HYE.out]), HO.out, HB1.out, by omega⟩⟩
    case measure => simp [intOf]; omega
   ·have hge := Aside0.mk (show xs.getD (k + 1) 0 = 0 from by rw [List.getD_eq_getElem?_getD, List.getElem?_eq_none (by omega)]; rfl)
    go_wp2_with (((with_reducible refine gate_builtin (b := .append) (xs := #[.tmp 65, .tmp 71]) rfl ?_); at_builtin; refine print_append_num (w0 := w) w.heap.size rfl (.tmp 65) (.tmp 71) 80 103 .u32 4 rfl Tryd.underlying80 info32 (by decide) u8 ds (x0 / 2 ^ (n % 32) % 4294967296) rfl rfl ?aO ?aB ?aS ?aL ?_; (case aO => exact HD.out); (case aB => exact HB.out); (case aS => exact HB.out.size); (case aL => have := HDL.out; omega); intro v1 w1 ho hb hg hat; have HO := Aside0.mk ho; have HB1 := Aside0.mk hb; clear ho hb hg hat))
    go_roundw
    case rel => exact ⟨k + 1, by omega, by go_num, by omega, ⟨_, HR.out.step HX.out.ok hr hk hlt (by rw [hge.out, ← HXE.out, Int.mul_zero, Int.add_zero]), HO.out, HB1.out, by omega⟩⟩
    case measure => simp [intOf]; omega
  ·clear c0 c1 c1'
   have HO1 := Aside0.mk (Digs.one wr 1)
   have HD1 := Aside0.mk (HD.out.digs.below (below_alloc (Below.refl _ _) (.cells #[.int .u32 1] 103)))
   have HB1 := Aside0.mk (HB.out.alloc HB.out.size (.cells #[.int .u32 1] 103))
   go_wp2_with fail
   refine (addDigits_calls ds [1] _ _ _ HD1.out HO1.out HR.out.ok (okd_single (by omega)) (by rw [HDL.out]; omega) (by simp)).mono ?_
   rintro e w2 ⟨v2, zs, rfl, hd2, hok2, hl2, hv2, hb2⟩
   have HZS := Aside0.mk (And.intro hok2 (And.intro hl2 hv2))
   have HD2 := Aside0.mk hd2
   have HB2 := Aside0.mk (HB1.out.trans (hb2.mono HB1.out.size))
   clear hd2 hok2 hl2 hv2 hb2
   go_wp2_with fail
   refine (put_big z true _ _ _ (HZ.out.below HB2.out) HD2.out HZS.out.1).mono ?_
   rintro e w' ⟨rfl, hb, hg⟩
   have HB3 := Aside0.mk hb
   have HG := Aside0.mk (below_z HB2.out hg)
   clear hb hg
   go_wp2
   go_ret
   refine ⟨rfl, ?_, HG.out⟩
   have h := HB3.out
   have hv := HR.out.done HX.out.ok (by omega)
   rw [show 32 * (n / 32) + n % 32 = n from by omega] at hv
   have hv2 := HZS.out.2.2
   rw [hv, show val [1] = 1 from by simp [val]] at hv2
   rw [show bval true zs = -(val xs / 2 ^ n + 1) from by rw [← hv2]; rfl] at h
   refine h.more ?_
   rw [HZS.out.2.1, HDL.out]
   simp
   omega
theorem rsh_any (z x n : Nat) (k : Int) (m : Nat) (w : World) (hz : IsBig w z) (hx : Big w x k m) (hm : m ≤ 1000000) (hn : n ≤ 1000000) (hT : Tab w) :
  Calls Tryd.prog 74 #[.pointer (some ⟨z, 0, none⟩), .pointer (some ⟨x, 0, none⟩), .int .u64 n] w fun e w' => e = .returned (.pointer (some ⟨z, 0, none⟩)) ∧ Big w' z (k / 2 ^ n) (m + 2) ∧ w.grownBy w' (some z) := by
 obtain ⟨nx, xs, A, c, hxo, rfl, hlx⟩ := hx.opd hm
 cases nx
 ·refine (rsh_pos z x n xs A c w hz hxo hn).mono ?_
  rintro e w' ⟨h1, h2, h3⟩
  exact ⟨h1, h2.more (by omega), h3⟩
 ·have h0 := val_nonneg hxo.ok
  have hne : (val xs).toNat ≠ 0 := by
   have h1 := hxo.ne rfl
   have h2 := val_ge hxo.ok hxo.ti h1
   have h3 := pow_pos' (xs.length - 1)
   omega
  have hb : bval true xs = -val xs := rfl
  have hs := neg_shift_val h0 n
  rw [hb]
  by_cases hl : ctz (val xs).toNat < n
  ·rw [if_neg (fun g => by have := (lost_iff hne).1 g; omega)] at hs
   refine (rsh_lost z x n xs A c w hz hxo hn hT hl).mono ?_
   rintro e w' ⟨h1, h2, h3⟩
   rw [show -(val xs / 2 ^ n + 1) = -val xs / 2 ^ n from by rw [hs]; omega] at h2
   exact ⟨h1, h2.more (by omega), h3⟩
  ·rw [if_pos ((lost_iff hne).2 (by omega)), Int.sub_zero] at hs
   refine (rsh_keep z x n xs A c w hz hxo hn hT hl).mono ?_
   rintro e w' ⟨h1, h2, h3⟩
   rw [← hs] at h2
   exact ⟨h1, h2.more (by omega), h3⟩
end Go.Proofs.YtdbdhgimokaooaaDoor.Big
