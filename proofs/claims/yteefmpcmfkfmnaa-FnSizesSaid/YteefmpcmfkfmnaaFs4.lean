/- Rows of wide numbers that are read: all finite, sums and products, on both sides. No conditions beyond those of each theorem. -/
import Derived.Test.YteefmpcmfkfmnaaFs3
namespace Go.Proofs.Yteefmpcmfkfmnaa
open Go Ieee Go.RowKit Go.Proofs.Yteefmpcmfkfmnaa.Fl Go.Proofs.Yteefmpcmfkfmnaa.Fx Go.Proofs.Yteefmpcmfkfmnaa.P Go.Proofs.YteefmpcmfkfmnaaW.PrintWords Go.Proofs.YteefmpcmfkfmnaaW.PrintLast Go.Proofs.YteefmpcmfkfmnaaW.PrintMore
set_option linter.unusedVariables false
set_option linter.unusedSimpArgs false
attribute [local go_sem] run_add run_sub run_mul run_quo run_cadd run_csub run_neg run_cneg

def cxv (p : Nat × Nat) : Value := .complex .f64 p.1 p.2
/-- Wide numbers in a row. -/
def cxk : Kd (Nat × Nat) := Kd.scalar cxv (fun _ => rfl)
theorem cx_at {w : World} {A : Option Addr} {n : Nat} {xs : List (Nat × Nat)} (h : cxk.C w A n xs) (i : Int) (h0 : 0 ≤ i) (h1 : i < n) : ∃ ad, A = some ad ∧ w.cell? (ad.add i.toNat) = some (.complex .f64 (rdOf (0, 0) xs i).1 (rdOf (0, 0) xs i).2) :=
  ReadsOf.at_ (Kd.reads_of_C (enc := cxv) (d := ((0, 0) : Nat × Nat)) (h1 := fun _ => rfl) h) i h0 h1
theorem rdOf_mid {α : Type} (d : α) (pre : List α) (z : α) (zs : List α) : rdOf d (pre ++ z :: zs) (pre.length : Int) = z := by
  unfold rdOf
  rw [Int.toNat_natCast, List.getD_eq_getElem?_getD, List.getElem?_append_right (Nat.le_refl _), Nat.sub_self]
  rfl
/-- Where a walk over a row stands: j elements are behind, g ahead (zs). -/
structure Stand (xs : List (Nat × Nat)) (g : Nat) (j : Int) (zs : List (Nat × Nat)) : Prop where
  at_ : ∃ pre, xs = pre ++ zs ∧ j = (pre.length : Int)
  len : zs.length = g
theorem Stand.start (xs : List (Nat × Nat)) : Stand xs xs.length 0 xs := ⟨⟨[], rfl, rfl⟩, rfl⟩
theorem Stand.next {xs : List (Nat × Nat)} {g : Nat} {j : Int} {zs : List (Nat × Nat)} (h : Stand xs (g + 1) j zs) : ∃ z zs', zs = z :: zs' ∧ 0 ≤ j ∧ j < (xs.length : Int) ∧ rdOf (0, 0) xs j = z ∧ Stand xs g (j + 1) zs' := by
  obtain ⟨⟨pre, h1, h2⟩, h3⟩ := h
  cases zs with
  | nil => cases h3
  | cons z zs' =>
    have h4 : zs'.length = g := by simpa using h3
    refine ⟨z, zs', rfl, by omega, ?_, ?_, ⟨pre ++ [z], ?_, ?_⟩, h4⟩
    · rw [h1, List.length_append, List.length_cons, h2]; omega
    · rw [h1, h2]; exact rdOf_mid _ _ _ _
    · rw [h1, List.append_assoc]; rfl
    · rw [List.length_append, List.length_singleton, h2]; omega
theorem Stand.done {xs : List (Nat × Nat)} {j : Int} {zs : List (Nat × Nat)} (h : Stand xs 0 j zs) : zs = [] ∧ j = (xs.length : Int) := by
  obtain ⟨⟨pre, h1, h2⟩, h3⟩ := h
  have : zs = [] := List.eq_nil_of_length_eq_zero h3
  subst this
  exact ⟨rfl, by rw [h1, List.append_nil]; exact h2⟩
set_option maxRecDepth 100000 in
set_option maxHeartbeats 1000000 in
theorem areFinite_calls (A : Option Addr) (c : Nat) (xs : List (Nat × Nat)) (w : World) (hr : cxk.C w A xs.length xs) (hl : xs.length ≤ 1000000000) : Calls Try.prog 56 #[.slice A xs.length c] w fun e w' => e = .returned (.bool (finL xs)) ∧ ∃ n, w' = w.drewN n := by
  have HR := Aside0.mk hr; have HL := Aside0.mk hl; clear hr hl
  obtain ⟨R, hR⟩ : ∃ R, finL xs = R := ⟨_, rfl⟩
  rw [hR]
  have HQ := Aside0.mk hR; clear hR
  obtain ⟨N, hN⟩ : ∃ N : Int, (xs.length : Int) = N := ⟨_, rfl⟩
  have HN := Aside0.mk hN
  go_enter Try.func56, Try.ntmps56
  go_wp2_with fail
  go_loopg [7] xs.length (fun g u w' => ∃ (m : Nat) (j : Int) (zs : List (Nat × Nat)), u = .int .i64 j ∧ Aside0 (Stand xs g j zs ∧ finL zs = R) ∧ w' = w.drewN m)
  case atStart => exact ⟨0, 0, xs, rfl, ⟨Stand.start xs, HQ.out⟩, rfl⟩
  case round =>
    obtain ⟨m, j, zs, rfl, hj, rfl⟩ := hrel
    cases gk with
    | succ d =>
      obtain ⟨z, zs', e1, j0, j1, e2, st⟩ := hj.out.1.next
      have hfz := hj.out.2
      rw [e1] at hfz
      have HZ := Aside0.mk (show (isFin z.1 && isFin z.2 && finL zs') = R from hfz)
      obtain ⟨ad, rfl, hx⟩ := cx_at HR.out j j0 j1
      rw [e2] at hx
      rw [hN] at j1
      have ST := Aside0.mk st
      have J0 := Aside0.mk (And.intro j0 j1)
      have hl' : decide (j < N) = true := decide_eq_true j1
      have q0 := eq_true j0
      have q1 := eq_true j1
      clear hfz e1 e2 st hj j0 j1
      obtain ⟨z1, z2⟩ := z
      cases hg : (isFin z1 && isFin z2)
      · go_wp2_with fail
        refine (isFinite_calls z1 z2 _).mono ?_
        rintro e w1 ⟨rfl, n', rfl⟩
        rw [hg]
        have hz := HZ.out
        simp only [hg, Bool.false_and] at hz
        have HZ2 := Aside0.mk hz
        clear hz
        go_wp2
        go_ret
        exact ⟨by rw [← HZ2.out]; rfl, _, rfl⟩
      · go_wp2_with fail
        refine (isFinite_calls z1 z2 _).mono ?_
        rintro e w1 ⟨rfl, n', rfl⟩
        rw [hg]
        have hz := HZ.out
        simp only [hg, Bool.true_and] at hz
        have HZ2 := Aside0.mk hz
        clear hz
        go_wp2_with fail
        go_roundg d
        case measure => omega
        case rel =>
          have h0 := J0.out
          have h1 := HN.out
          have h2 := HL.out
          have e : wrap64 (j + 1) = j + 1 := w64 (by omega) (by omega)
          exact ⟨_, j + 1, zs', by rw [e], ⟨ST.out, HZ2.out⟩, rfl⟩
    | zero =>
      obtain ⟨e1, e2⟩ := hj.out.1.done
      have hz := hj.out.2
      rw [e1] at hz
      rw [hN] at e2
      have HZ := Aside0.mk (show true = R from hz)
      have hl' : decide (j < N) = false := decide_eq_false (by omega)
      clear e1 hz hj e2
      go_wp2
      go_ret
      exact ⟨by rw [← HZ.out]; rfl, _, rfl⟩
end Go.Proofs.Yteefmpcmfkfmnaa
