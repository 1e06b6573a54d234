/- The contract of slices.Reverse on bytes: the row is turned around. -/
import Derived.Test.YtghhphndbbefjaaDoorBigA
import Derived.Test.YtghhphndbbefjaaDoorSq
import Derived.Test.YtghhphndbbefjaaDoorMath15
import Derived.Deep.RegionHeld3
import Derived.Deep.DeepCutAuto
import Derived.Deep.CutBlock
import Derived.BigRegion
namespace Go.Proofs.YtghhphndbbefjaaDoor.Big
open Go.RowKit Go.Proofs.YtghhphndbbefjaaDoorW.PrintWords Go.Proofs.YtghhphndbbefjaaDoorW.PrintLast Go.Proofs.YtghhphndbbefjaaDoorW.PrintMore Go.Proofs.YtghhphndbbefjaaDoor.Math Go.Proofs.YtghhphndbbefjaaDoor.Sq
set_option linter.unusedVariables false
set_option linter.unusedSimpArgs false

/-- A row of bytes that is owned from base on. -/
def Byt (w : World) (base : Nat) (v : Value) (xs : List Int) : Prop := w.ownsRow base 5 1 v xs.length (nums .u8 xs)
theorem Byt.below {w w1 : World} {base : Nat} {v : Value} {xs : List Int} (h : Byt w base v xs) (hb : Below w.heap.size w w1) : Byt w1 base v xs := pw_own_below h hb
theorem Byt.at_ {w : World} {base g c n : Nat} {xs : List Int} (h : Byt w base (.slice (some ⟨g, 0, none⟩) n c) xs) (hn : n = xs.length) {k : Nat} (hk : k < xs.length) :
    w.cell? ⟨g, k, none⟩ = some (.int .u8 (xs.getD k 0)) ∧ w.frozen? ⟨g, k, none⟩ = false := by
  subst hn
  have h' : w.ownsRow base 5 1 (.slice (some ⟨g, 0, none⟩) xs.length c) xs.length (nums .u8 xs) := h
  have := own_at h' (k : Int) (by omega) (by omega)
  simpa [rd] using this
theorem Byt.put {w : World} {base g c n : Nat} {xs : List Int} (h : Byt w base (.slice (some ⟨g, 0, none⟩) n c) xs) (hn : n = xs.length) (k : Nat) (x : Int) :
    Byt (w.setCell ⟨g, k, none⟩ (.int .u8 x)) base (.slice (some ⟨g, 0, none⟩) n c) (xs.set k x) := by
  subst hn
  have h' : w.ownsRow base 5 1 (.slice (some ⟨g, 0, none⟩) xs.length c) xs.length (nums .u8 xs) := h
  have hs := h'.stored k (.int .u8 x)
  have h2 := hs.1
  unfold Byt
  rw [List.length_set, show nums .u8 (xs.set k x) = (nums .u8 xs).set k (.int .u8 x) from by simp [nums, List.map_set]]
  exact h2
theorem cell_drew1 {w : World} {q : Addr} {v : Value} (h : w.cell? q = some v) : w.drew.cell? q = some v := h
set_option maxRecDepth 100000 in
set_option maxHeartbeats 4000000 in
theorem reverse_calls (base g c n : Nat) (xs : List Int) (w w0 : World) (hv : Byt w base (.slice (some ⟨g, 0, none⟩) n c) xs) (hn : n = xs.length) (hb : xs.length ≤ 1000000) (hlo : Below base w0 w) (hg : base ≤ g) (hp : 0 < xs.length) :
    Calls Tryd.prog 103 #[.slice (some ⟨g, 0, none⟩) n c] w fun e w' => e = .returned (.tuple #[]) ∧ Byt w' base (.slice (some ⟨g, 0, none⟩) n c) xs.reverse ∧ Below base w0 w' := by
  have HV := Aside0.mk hv
  have HLO := Aside0.mk hlo
  clear hv hlo
  have HW := Aside0.mk (show wrap64 ((n : Int) - 1) = ((n - 1 : Nat) : Int) from by rw [w64s (by omega) (by omega)]; omega)
  go_enter Tryd.func103, Tryd.ntmps103
  go_wp2
  go_loopw [2, 3] (fun a b wr => ∃ i : Nat, i + i ≤ n ∧ a = .int .i64 (i : Int) ∧ b = .int .i64 ((n : Int) - 1 - i) ∧ Aside0 (∃ ys, RevRel xs ys i ∧ Byt wr base (.slice (some ⟨g, 0, none⟩) n c) ys ∧ Below base w0 wr)) (fun a _ _ => n - (intOf a).toNat)
  case atStart => exact ⟨0, by omega, rfl, by first | rfl | (go_num; done) | (simp; omega), ⟨_, RevRel.start xs, HV.out, HLO.out⟩⟩
  case round =>
    obtain ⟨i, hi, rfl, rfl, ⟨ys, hR, hD, hB⟩⟩ := hrel
    have RR := Aside0.mk hR
    have DD := Aside0.mk hD
    have BB := Aside0.mk hB
    clear hR hD hB
    by_cases hlt : i < xs.length - 1 - i
    · have hl := RR.out.len
      have hj : (n : Int) - 1 - i = ((xs.length - 1 - i : Nat) : Int) := by omega
      rw [hj]
      clear hj
      generalize hje : xs.length - 1 - i = j at *
      have hij : (i : Int) < (j : Int) := by omega
      have hin : i < n := by omega
      have hjn : j < n := by omega
      obtain ⟨c1, f1⟩ := DD.out.at_ (by omega) (k := i) (by omega)
      obtain ⟨c2, f2⟩ := DD.out.at_ (by omega) (k := j) (by omega)
      obtain ⟨x0, hx0⟩ : ∃ x, x = ys.getD i 0 := ⟨_, rfl⟩
      obtain ⟨y0, hy0⟩ : ∃ x, x = ys.getD j 0 := ⟨_, rfl⟩
      rw [← hx0] at c1
      rw [← hy0] at c2
      have X0 := Aside0.mk hx0
      have Y0 := Aside0.mk hy0
      have g1 : (i : Int) < (n : Int) := by omega
      have g2 : (j : Int) < (n : Int) := by omega
      clear hx0 hy0
      go_wp2_with fail
      go_region
      have D1 := Aside0.mk ((DD.out.put (by omega) i y0).put (by simp; omega) j x0)
      have B1 := Aside0.mk (((BB.out.setCell (show base ≤ (⟨g, i, none⟩ : Addr).block from hg) (.int .u8 y0)).setCell (show base ≤ (⟨g, j, none⟩ : Addr).block from hg) (.int .u8 x0)).drew)
      have R1 := RR.out.step (by omega)
      rw [hje, ← X0.out, ← Y0.out] at R1
      have R2 := Aside0.mk R1
      clear R1
      go_wp2
      go_roundw
      case rel => exact ⟨i + 1, by omega, by first | rfl | (go_num; done) | (simp; done), by first | rfl | (simp; omega), ⟨_, R2.out, D1.out, B1.out⟩⟩
      case measure => simp [intOf]; omega
    · have hge : ¬ ((i : Int) < (n : Int) - 1 - i) := by omega
      go_wp2
      go_end0
      rw [RR.out.done hlt] at DD
      subst hn
      exact ⟨rfl, DD.out, BB.out⟩
end Go.Proofs.YtghhphndbbefjaaDoor.Big
