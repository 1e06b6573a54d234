/- The walk of Lsh: a number times a power of 2. Conditions: the pointers lead to bigInts, of at most 900000 digits, the shift is at most 1000000. -/
import Derived.Test.YtbmjakaoniegfaaBig6
import Derived.Test.YtbmjakaoniegfaaMath1
namespace Go.Proofs.Ytbmjakaoniegfaa.Big
open Go.RowKit Go.Proofs.YtbmjakaoniegfaaW.PrintWords Go.Proofs.YtbmjakaoniegfaaW.PrintLast Go.Proofs.YtbmjakaoniegfaaW.PrintMore Go.Proofs.Ytbmjakaoniegfaa.Math
set_option linter.unusedVariables false
set_option linter.unusedSimpArgs false

set_option maxHeartbeats 2000000 in
theorem lsh_walk (z x n : Nat) (nx : Bool) (xs : List Int) (A : Option Addr) (c : Nat) (w : World) (hz : IsBig w z) (hx : Opd w x nx xs A c) (hn : n ≤ 1000000) :
    Calls Try.prog 40 #[.pointer (some ⟨z, 0, none⟩), .pointer (some ⟨x, 0, none⟩), .int .u64 n] w fun e w' => e = .returned (.pointer (some ⟨z, 0, none⟩)) ∧ Big w' z (bval nx xs * 2 ^ n) (xs.length + n / 32 + 1) ∧ w.grownBy w' (some z) := by
  have HZ := Aside0.mk hz
  have HX := Aside0.mk hx
  obtain ⟨c0, c1, -, -, -, -, hlen⟩ := hx
  have c1' := fun o => pw_cell_below (below_alloc (Below.refl w.heap.size w) o) c1
  clear hz
  have hmk := fun W => run_make_row' (P := Try.prog) 57 66 (.int .u32 0) 4 Try.underlying57 info32 rfl .i64 .i64 (xs.length + n / 32 + 1) (by omega) (by omega) W
  have ec : ((xs.length + n / 32 + 1 : Nat) : Int) = (xs.length : Int) + (n : Int) / 32 + 1 := by omega
  rw [ec] at hmk
  clear ec
  have D0 := Aside0.mk (Digs.made w (xs.length + n / 32 + 1) (by omega))
  go_enter Try.func40, Try.ntmps40
  go_wp2
  have hr : n % 32 ≤ 31 := by omega
  go_loopw [27] (fun i wr => ∃ (k : Nat), k ≤ xs.length ∧ i = .int .i64 k ∧
      Aside0 (∃ (top : Int) (ds : List Int), LshRel xs (n % 32) k top ds ∧ Digs wr (.slice (some ⟨w.heap.size, 0, none⟩) (xs.length + n / 32 + 1) (xs.length + n / 32 + 1)) (List.replicate (n / 32) 0 ++ ds ++ [top] ++ List.replicate (xs.length - k) 0) ∧ Below w.heap.size w wr)) (fun i _ => xs.length - (intOf i).toNat)
  case atStart =>
    refine ⟨0, Nat.zero_le _, rfl, ⟨0, [], LshRel.start _ _, ?_, (Below.refl _ _).alloc (Nat.le_refl _) _⟩⟩
    have h := D0.out
    rw [show List.replicate (xs.length + n / 32 + 1) (0 : Int) = List.replicate (n / 32) 0 ++ [] ++ [0] ++ List.replicate (xs.length - 0) 0 from by
      rw [List.append_nil, Nat.sub_zero, show ([0] : List Int) = List.replicate 1 0 from rfl, List.replicate_append_replicate, List.replicate_append_replicate]
      congr 1
      omega] at h
    exact h
  case round =>
    obtain ⟨k, hk, rfl, ⟨top, ds, hrl, hdg, hbl⟩⟩ := hrel
    have hl := hrl.len
    have hpl : (List.replicate (n / 32) (0 : Int) ++ ds).length = k + n / 32 := by simp [hl]; omega
    have HPL := Aside0.mk hpl
    have HR := Aside0.mk hrl
    have HD := Aside0.mk hdg
    have HB := Aside0.mk hbl
    clear hrl hdg hbl hl hpl
    by_cases hlt : k < xs.length
    · obtain ⟨g, c', he, hg⟩ := HX.out.d.form (by omega)
      obtain ⟨he1, he3⟩ : A = some ⟨g, 0, none⟩ ∧ c = c' := ⟨(Value.slice.inj he).1, (Value.slice.inj he).2.2⟩
      subst he1 he3
      have hgw : g ≠ w.heap.size := by omega
      have hcx := ((HX.out.d.below HB.out).at_ hlt).1
      have hbx := getD_ok HX.out.ok k
      have hst := HR.out.step HX.out.ok hr hlt
      obtain ⟨x0, hxe⟩ : ∃ x0, x0 = xs.getD k 0 := ⟨_, rfl⟩
      rw [← hxe] at hcx hbx hst
      have HST := Aside0.mk hst
      clear hxe he hst
      have ho : (wr.cell? ⟨w.heap.size, k + n / 32, none⟩ = some (.int .u32 top) ∧ wr.frozen? ⟨w.heap.size, k + n / 32, none⟩ = false) ∧ wr.cell? ⟨w.heap.size, k + n / 32 + 1, none⟩ = some (.int .u32 0) ∧ wr.frozen? ⟨w.heap.size, k + n / 32 + 1, none⟩ = false := by
        have hd := HD.out
        have hg := getD_two (List.replicate (n / 32) (0 : Int) ++ ds) top (xs.length - (k + 1))
        rw [show xs.length - k = xs.length - (k + 1) + 1 from by omega] at hd
        rw [HPL.out] at hg
        have h1 := hd.at_ (k := k + n / 32) (by rw [List.length_append, List.length_append, HPL.out]; simp; omega)
        have h2 := hd.at_ (k := k + n / 32 + 1) (by rw [List.length_append, List.length_append, HPL.out]; simp)
        rw [hg.1] at h1
        rw [hg.2] at h2
        exact ⟨h1, h2⟩
      obtain ⟨⟨o1, o1f⟩, o2, o2f⟩ := ho
      have fin : Digs ((wr.setCell ⟨w.heap.size, k + n / 32, none⟩ (.int .u32 (bits BinOp.or IntKind.u32 top (IntKind.u64.wrap (x0 * 2 ^ (n % 32)) % 4294967296)))).setCell ⟨w.heap.size, k + n / 32 + 1, none⟩ (.int .u32 (IntKind.u64.wrap (x0 * 2 ^ (n % 32)) / 4294967296 % 4294967296)))
          (.slice (some ⟨w.heap.size, 0, none⟩) (xs.length + n / 32 + 1) (xs.length + n / 32 + 1)) (List.replicate (n / 32) 0 ++ (ds ++ [top + (x0 * 2 ^ (n % 32)) % 4294967296]) ++ [x0 * 2 ^ (n % 32) / 4294967296] ++ List.replicate (xs.length - (k + 1)) 0) := by
        obtain ⟨q1, q2, q3, q4⟩ := lsh_wide hr hbx.1 hbx.2
        have hs := HR.out.small hr
        rw [q1, or_low hr HR.out.c.1 HR.out.c.2 hbx.1, Int.emod_eq_of_lt (a := x0 * 2 ^ (n % 32) / 4294967296) (by omega) (by omega)]
        have hd := HD.out
        rw [show xs.length - k = xs.length - (k + 1) + 1 from by omega] at hd
        have hd1 := (hd.put (by rw [List.length_append, List.length_append, HPL.out]; simp; omega) (k + n / 32) (top + (x0 * 2 ^ (n % 32)) % 4294967296)).1
        have hd2 := (hd1.put (by rw [List.length_set, List.length_append, List.length_append, HPL.out]; simp; omega) (k + n / 32 + 1) (x0 * 2 ^ (n % 32) / 4294967296)).1
        have hse := set_two (List.replicate (n / 32) (0 : Int) ++ ds) top (top + (x0 * 2 ^ (n % 32)) % 4294967296) (x0 * 2 ^ (n % 32) / 4294967296) (xs.length - (k + 1))
        rw [HPL.out] at hse
        rw [hse, List.append_assoc (List.replicate (n / 32) (0 : Int)) ds] at hd2
        exact hd2
      have FIN := Aside0.mk fin
      have hts := HR.out.small hr
      clear fin
      go_wp2
      go_roundw
      case rel => exact ⟨k + 1, by omega, by go_num, ⟨_, _, HST.out.1, FIN.out, (HB.out.setCell (Nat.le_refl _) _).setCell (Nat.le_refl _) _⟩⟩
      case measure => simp [intOf]; omega
    · obtain rfl : k = xs.length := by omega
      have k0 := pw_cell_below HB.out c0
      have hd := HD.out
      rw [Nat.sub_self, List.replicate_zero, List.append_nil] at hd
      have HD2 := Aside0.mk hd
      clear hd c0 c1 c1'
      go_wp2_with fail
      refine (put_big z nx _ _ _ (HZ.out.below HB.out) HD2.out (HR.out.done hr (n / 32)).1).mono ?_
      rintro e w' ⟨rfl, hb, hg⟩
      have HB2 := Aside0.mk hb
      have HG := Aside0.mk (below_z HB.out hg)
      clear hb hg
      go_wp2
      go_ret
      refine ⟨rfl, ?_, HG.out⟩
      have h := HB2.out
      have hv := (HR.out.done hr (n / 32)).2
      rw [show 32 * (n / 32) + n % 32 = n from by omega] at hv
      have he : bval nx (List.replicate (n / 32) 0 ++ ds ++ [top]) = bval nx xs * 2 ^ n := by
        cases nx <;> simp only [bval, Bool.false_eq_true, if_false, if_true, hv, Int.neg_mul]
      rw [he] at h
      refine h.more ?_
      rw [List.length_append, HPL.out]
      simp

theorem lsh_calls (z x n : Nat) (k : Int) (m : Nat) (w : World) (hz : IsBig w z) (hx : Big w x k m) (hm : m ≤ 1000000) (hn : n ≤ 1000000) :
    Calls Try.prog 40 #[.pointer (some ⟨z, 0, none⟩), .pointer (some ⟨x, 0, none⟩), .int .u64 n] w fun e w' => e = .returned (.pointer (some ⟨z, 0, none⟩)) ∧ Big w' z (k * 2 ^ n) (m + n / 32 + 1) ∧ w.grownBy w' (some z) := by
  obtain ⟨nx, xs, A, c, hxo, rfl, hlx⟩ := hx.opd hm
  refine (lsh_walk z x n nx xs A c w hz hxo hn).mono ?_
  rintro e w' ⟨h1, h2, h3⟩
  exact ⟨h1, h2.more (by omega), h3⟩
end Go.Proofs.Ytbmjakaoniegfaa.Big
