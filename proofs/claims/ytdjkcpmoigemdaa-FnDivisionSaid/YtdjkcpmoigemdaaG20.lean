/- Divisions of polynomials, plain. No conditions beyond those of each theorem. -/
import Derived.Test.YtdjkcpmoigemdaaG19
import Derived.Test.YtdjkcpmoigemdaaG9
namespace Go.Proofs.Ytdjkcpmoigemdaa
open Go Ieee Go.RowKit Go.Proofs.Ytdjkcpmoigemdaa.Fl Go.Proofs.Ytdjkcpmoigemdaa.Fx Go.Proofs.Ytdjkcpmoigemdaa.P Go.Proofs.YtdjkcpmoigemdaaW.PrintWords Go.Proofs.YtdjkcpmoigemdaaW.PrintLast Go.Proofs.YtdjkcpmoigemdaaW.PrintMore
set_option linter.unusedVariables false
set_option linter.unusedSimpArgs false
def subAt (t : Nat × Nat) (q : Cs) (base : Int) : Nat → Int → Cs → Option Cs
 | 0, _, xs => some xs
 | k + 1, i, xs => (subE (at_ xs (base + i)) t (at_ q i)).bind fun z => subAt t q base k (i + 1) (xs.set (base + i).toNat z)
def topQ (xs q : Cs) : Option (Nat × Nat) := stp quoO (at_ xs ((xs.length : Int) - 1)).1 (at_ xs ((xs.length : Int) - 1)).2 (at_ q ((q.length : Int) - 1)).1 (at_ q ((q.length : Int) - 1)).2
def divS (q : Cs) : Nat → Cs → Cs → Option (Cs × Cs)
 | 0, xs, quo => some (quo, xs)
 | k + 1, xs, quo => (topQ xs q).bind fun t => (subAt t q ((xs.length : Int) - q.length) (q.length - 1) 0 xs).bind fun ys => divS q k (ys.take (ys.length - 1)) (t :: quo)
def divP (p q : Cs) : Option (Cs × Cs) := divS q (p.length + 1 - q.length) p []
def Good (xs : Cs) : Prop := finL xs = true ∧ Wo xs
theorem Good.set {xs : Cs} (h : Good xs) (n : Nat) {z : Nat × Nat} (hz : (isFin z.1 && isFin z.2) = true) (hw : z.1 < 2 ^ 64 ∧ z.2 < 2 ^ 64) : Good (xs.set n z) := by
 refine ⟨?_, fun p hp => ?_⟩
 ·have h1 := h.1
  unfold finL at h1 ⊢
  rw [List.all_eq_true] at h1 ⊢
  intro p hp
  rcases List.mem_or_eq_of_mem_set hp with hp | rfl
  ·exact h1 p hp
  ·exact hz
 ·rcases List.mem_or_eq_of_mem_set hp with hp | rfl
  ·exact h.2 p hp
  ·exact hw
theorem Good.take {xs : Cs} (h : Good xs) (m : Nat) : Good (xs.take m) := by
 refine ⟨?_, fun p hp => h.2 p (List.mem_of_mem_take hp)⟩
 have h1 := h.1
 unfold finL at h1 ⊢
 rw [List.all_eq_true] at h1 ⊢
 exact fun p hp => h1 p (List.mem_of_mem_take hp)
theorem Good.at_ {xs : Cs} (h : Good xs) (i : Int) (h0 : 0 ≤ i) (h1 : i < xs.length) : (isFin (rdOf (0, 0) xs i).1 = true ∧ isFin (rdOf (0, 0) xs i).2 = true) ∧ (rdOf (0, 0) xs i).1 < 2 ^ 64 ∧ (rdOf (0, 0) xs i).2 < 2 ^ 64 := by
 have h2 := fin_at h.1 i h0 h1
 rw [Bool.and_eq_true] at h2
 exact ⟨h2, h.2 _ (rdOf_mem xs i h0 h1)⟩
theorem Good.cons {z : Nat × Nat} {xs : Cs} (hz : (isFin z.1 && isFin z.2) = true) (hw : z.1 < 2 ^ 64 ∧ z.2 < 2 ^ 64) (h : Good xs) : Good (z :: xs) := by
 refine ⟨?_, fun p hp => ?_⟩
 ·have h1 := h.1
  unfold finL at h1 ⊢
  rw [List.all_cons, hz, h1]; rfl
 ·rcases List.mem_cons.1 hp with rfl | hp
  ·exact hw
  ·exact h.2 p hp
theorem Good.nil : Good [] := ⟨rfl, fun p hp => by cases hp⟩
theorem subAt_len (t : Nat × Nat) (q : Cs) (base : Int) : ∀ (k : Nat) (i : Int) (xs ys : Cs), subAt t q base k i xs = some ys → ys.length = xs.length
 | 0, i, xs, ys, h => by cases h; rfl
 | k + 1, i, xs, ys, h => by
  unfold subAt at h
  obtain ⟨z, _, h2⟩ := Option.bind_eq_some_iff.1 h
  rw [subAt_len t q base k (i + 1) _ ys h2, List.length_set]
theorem subAt_good (t : Nat × Nat) (q : Cs) (base : Int) : ∀ (k : Nat) (i : Int) (xs ys : Cs), Good xs → subAt t q base k i xs = some ys → Good ys
 | 0, i, xs, ys, hg, h => by cases h; exact hg
 | k + 1, i, xs, ys, hg, h => by
  unfold subAt at h
  obtain ⟨z, h1, h2⟩ := Option.bind_eq_some_iff.1 h
  exact subAt_good t q base k (i + 1) _ ys (hg.set _ (subE_fin h1) (subE_wo h1)) h2
theorem topQ_ok {xs q : Cs} {t : Nat × Nat} (h : topQ xs q = some t) : (isFin t.1 && isFin t.2) = true := by
 unfold topQ stp at h
 split at h
 ·split at h
  ·rename_i hf
   cases h
   exact hf
  ·cases h
 ·cases h
theorem topQ_of {xs q : Cs} {r i : Nat} (hr : can r = (quoO (at_ xs ((xs.length : Int) - 1)).1 (at_ xs ((xs.length : Int) - 1)).2 (at_ q ((q.length : Int) - 1)).1 (at_ q ((q.length : Int) - 1)).2).1) (hi : can i = (quoO (at_ xs ((xs.length : Int) - 1)).1 (at_ xs ((xs.length : Int) - 1)).2 (at_ q ((q.length : Int) - 1)).1 (at_ q ((q.length : Int) - 1)).2).2) : topQ xs q = if isFin r && isFin i then some (r, i) else none := stp_of hr hi
theorem Own.take {w w' : World} {A : Option Addr} {n c m : Nat} {xs : Cs} (h : Own w w' (.slice A n c) xs) (hm : m ≤ xs.length) : Own w w' (.slice A m c) (xs.take m) := ⟨Kd.R_take h.row hm, h.low⟩
structure Two (w w1 w' : World) (v u : Value) (rs qs : Cs) : Prop where
 rest : cxk.R 34 w' w.heap.size (fun k => k < w1.heap.size) v rs
 quo : cxk.R 34 w' w1.heap.size (fun _ => True) u qs
 low : Below w.heap.size w w'
 sz : w1.heap.size ≤ w'.heap.size
 sz0 : w.heap.size ≤ w1.heap.size
theorem Two.drewN {w w1 w' : World} {v u : Value} {rs qs : Cs} (h : Two w w1 w' v u rs qs) (n : Nat) : Two w w1 (w'.drewN n) v u rs qs := ⟨Kd.R_drewN h.rest n, Kd.R_drewN h.quo n, pw_below_drewN h.low n, h.sz, h.sz0⟩
theorem Two.below {w w1 w' w2 : World} {v u : Value} {rs qs : Cs} (h : Two w w1 w' v u rs qs) (hb : Below w'.heap.size w' w2) : Two w w1 w2 v u rs qs := ⟨Kd.R_below h.rest hb, Kd.R_below h.quo hb, h.low.trans (hb.mono h.low.size), Nat.le_trans h.sz hb.size, h.sz0⟩
theorem Two.put {w w1 w' : World} {g n cap : Nat} {u : Value} {rs qs : Cs} (h : Two w w1 w' (.slice (some ⟨g, 0, none⟩) n cap) u rs qs) (i : Int) (z : Nat × Nat) : Two w w1 (w'.setCell ⟨g, i.toNat, none⟩ (.complex .f64 z.1 z.2)) (.slice (some ⟨g, 0, none⟩) n cap) u (rs.set i.toNat z) qs := by
 obtain ⟨h1, h2⟩ := Kd.R_putg (enc := cxv) (h1 := fun _ => rfl) h.rest i z
 have hg : g < w1.heap.size := h.rest.1 g rfl
 refine ⟨h1, ?_, pw_below_grown h.low (some g) h.low.size h2 (fun k hk => by cases hk; exact Kd.R_base h.rest g rfl), Nat.le_trans h.sz h2.size, h.sz0⟩
 refine Kd.R_step (Kd.R_bound h.quo) (fun k hk hlt => ?_) |> fun h3 => Kd.R_mono h3 (fun k hk => hk.1)
 exact h2.block k hlt (by intro e; injection e with e; have := hk.2.1; omega)
theorem Two.next {w w1 w' w2 : World} {v u u2 : Value} {rs qs qs2 : Cs} (h : Two w w1 w' v u rs qs) (hr : cxk.R 34 w2 w1.heap.size (fun _ => True) u2 qs2) (hb : Below w1.heap.size w' w2) : Two w w1 w2 v u2 rs qs2 :=
 ⟨Kd.R_step h.rest (fun k hk _ => hb.block k hk), hr, h.low.trans (hb.mono h.sz0), Nat.le_trans h.sz hb.size, h.sz0⟩
theorem Two.take {w w1 w' : World} {A : Option Addr} {n c m : Nat} {u : Value} {rs qs : Cs} (h : Two w w1 w' (.slice A n c) u rs qs) (hm : m ≤ rs.length) : Two w w1 w' (.slice A m c) u (rs.take m) qs := ⟨Kd.R_take h.rest hm, h.quo, h.low, h.sz, h.sz0⟩
def ResD (w : World) (o : Option (Cs × Cs)) : Ending → World → Prop := fun e w' => match o with
 | none => e = .returned (.tuple #[.slice none 0 0, .slice none 0 0, .int .i64 3]) ∧ Below w.heap.size w w'
 | some p => ∃ (A : Option Addr) (c : Nat) (B : Option Addr) (d : Nat), e = .returned (.tuple #[.slice A (trimL p.1).length c, .slice B (trimL p.2).length d, .int .i64 0]) ∧ cxk.C w' A (trimL p.1).length (trimL p.1) ∧ (trimL p.1).length ≤ c ∧ cxk.C w' B (trimL p.2).length (trimL p.2) ∧ (trimL p.2).length ≤ d ∧ Below w.heap.size w w'
end Go.Proofs.Ytdjkcpmoigemdaa
namespace Go.Proofs.Ytdjkcpmoigemdaa
open Go Ieee Go.RowKit Go.Proofs.Ytdjkcpmoigemdaa.Fl Go.Proofs.Ytdjkcpmoigemdaa.Fx Go.Proofs.Ytdjkcpmoigemdaa.P Go.Proofs.YtdjkcpmoigemdaaW.PrintWords Go.Proofs.YtdjkcpmoigemdaaW.PrintLast Go.Proofs.YtdjkcpmoigemdaaW.PrintMore
set_option linter.unusedVariables false
set_option linter.unusedSimpArgs false
attribute [local go_sem] run_add run_sub run_mul run_quo run_cadd run_csub run_neg run_cneg run_store_cx
structure RevC (xs ys : Cs) (i : Nat) : Prop where
 len : ys.length = xs.length
 at_ : ∀ k, k < xs.length → ys.getD k (0, 0) = if k < i ∨ xs.length - i ≤ k then xs.getD (xs.length - 1 - k) (0, 0) else xs.getD k (0, 0)
theorem RevC.start (xs : Cs) : RevC xs xs 0 := ⟨rfl, fun k hk => by rw [if_neg (by omega)]⟩
theorem getD_setC (l : Cs) (i k : Nat) (x : Nat × Nat) (hi : i < l.length) : (l.set i x).getD k (0, 0) = if k = i then x else l.getD k (0, 0) := by
 rw [List.getD_eq_getElem?_getD, List.getElem?_set]
 by_cases e : i = k
 ·subst e
  rw [if_pos rfl, if_pos rfl, if_pos hi]
  rfl
 ·rw [if_neg e, if_neg (fun h => e h.symm), List.getD_eq_getElem?_getD]
theorem RevC.step {xs ys : Cs} {i : Nat} (h : RevC xs ys i) (hi : i < xs.length - 1 - i) :
  RevC xs ((ys.set i (ys.getD (xs.length - 1 - i) (0, 0))).set (xs.length - 1 - i) (ys.getD i (0, 0))) (i + 1) := by
 have hl := h.len
 refine ⟨by simp [hl], fun k hk => ?_⟩
 have h1 := h.at_ (xs.length - 1 - i) (by omega)
 have h2 := h.at_ i (by omega)
 have h3 := h.at_ k hk
 rw [if_neg (by omega)] at h1 h2
 rw [getD_setC _ _ _ _ (by simp; omega), getD_setC _ _ _ _ (by omega)]
 by_cases e1 : k = xs.length - 1 - i
 ·subst e1
  rw [if_pos rfl, if_pos (by omega), h2]
  congr 1
  omega
 ·by_cases e2 : k = i
  ·subst e2
   rw [if_neg e1, if_pos rfl, if_pos (by omega), h1]
  ·rw [if_neg e1, if_neg e2, h3]
   by_cases e3 : k < i ∨ xs.length - i ≤ k
   ·rw [if_pos e3, if_pos (by omega)]
   ·rw [if_neg e3, if_neg (by omega)]
theorem RevC.done {xs ys : Cs} {i : Nat} (h : RevC xs ys i) (hi : ¬ i < xs.length - 1 - i) : ys = xs.reverse := by
 have hl := h.len
 refine List.ext_getElem (by simp [hl]) (fun k h1 h2 => ?_)
 have h3 := h.at_ k (by omega)
 rw [List.getElem_reverse]
 have e1 : ys.getD k (0, 0) = ys[k] := by rw [List.getD_eq_getElem?_getD, List.getElem?_eq_getElem h1]; rfl
 have e2 : xs.getD (xs.length - 1 - k) (0, 0) = xs[xs.length - 1 - k]'(by omega) := by rw [List.getD_eq_getElem?_getD, List.getElem?_eq_getElem (by omega)]; rfl
 rw [e1] at h3
 rw [h3]
 split
 ·rw [e2]
 ·have e4 : k = xs.length - 1 - k := by omega
  have e5 : xs.getD k (0, 0) = xs.getD (xs.length - 1 - k) (0, 0) := congrArg (fun z => xs.getD z (0, 0)) e4
  rw [e5, e2]
set_option maxRecDepth 100000 in
set_option maxHeartbeats 4000000 in
theorem reverse_calls (base : Nat) (v : Value) (xs : Cs) (w : World) (hr : cxk.R 34 w base (fun _ => True) v xs) (hl : xs.length ≤ 1000) (hs : base ≤ w.heap.size) :
  Calls Try.prog 68 #[v] w fun e w' => e = .returned (.tuple #[]) ∧ cxk.R 34 w' base (fun _ => True) v xs.reverse ∧ Below base w w' := by
 obtain ⟨A, c, rfl, hc, -⟩ := Kd.R_reads hr
 have HR := Aside0.mk hr
 have HL := Aside0.mk (And.intro hl hs)
 obtain ⟨N, hN⟩ : ∃ N : Int, (xs.length : Int) = N := ⟨_, rfl⟩
 have HN := Aside0.mk hN
 have hw : wrap64 (N - 1) = N - 1 := by have := HL.out; exact w64 (by omega) (by omega)
 clear hr hl hs hc
 go_enter Try.func68, Try.ntmps68
 go_wp2_with fail
 simp only [hw]
 go_loopg [2, 3] (xs.length / 2) (fun g a b wr => ∃ i : Int, a = .int .i64 i ∧ b = .int .i64 (N - 1 - i) ∧ Aside0 (∃ ys, RevC xs ys i.toNat ∧ 0 ≤ i ∧ i + g = (xs.length / 2 : Nat) ∧ cxk.R 34 wr base (fun _ => True) (.slice A xs.length c) ys ∧ Below base w wr))
 case atStart => exact ⟨0, rfl, by first | rfl | simp, ⟨xs, RevC.start xs, by omega, by omega, HR.out, Below.refl _ _⟩⟩
 case round =>
  clear HR
  obtain ⟨i, rfl, rfl, hj⟩ := hrel
  obtain ⟨ys, h1, h2, h3, h4, h5⟩ := hj.out
  clear hj
  have RR := Aside0.mk h1
  have DD := Aside0.mk h4
  have BB := Aside0.mk h5
  have HJ := Aside0.mk (And.intro h2 h3)
  clear h1 h2 h3 h4 h5
  cases gk with
  | succ d =>
   have hl' : decide (i < N - 1 - i) = true := decide_eq_true (by have := HJ.out; omega)
   have hlen := RR.out.len
   obtain ⟨gb, cap, e0, -, -, -⟩ := Kd.R_form DD.out (by have := HJ.out; omega)
   injection e0 with e1 e2 e3
   subst e1
   obtain ⟨j, hj⟩ : ∃ j, N - 1 - i = j := ⟨_, rfl⟩
   rw [hj]
   have HJ2 := Aside0.mk (show N - 1 - i = j ∧ i < j ∧ j < N ∧ 0 ≤ i by have := HJ.out; omega)
   rw [hj] at hl'
   clear hj e2 e3 hlen
   obtain ⟨c1, f1⟩ := Kd.R_celln (enc := cxv) (h1 := fun _ => rfl) (0, 0) DD.out i HJ.out.1 (by have := HJ2.out; omega)
   obtain ⟨c2, f2⟩ := Kd.R_celln (enc := cxv) (h1 := fun _ => rfl) (0, 0) DD.out j (by have := HJ2.out; omega) (by have := HJ2.out; omega)
   obtain ⟨⟨x1, x2⟩, hx⟩ : ∃ z, rdOf (0, 0) ys i = z := ⟨_, rfl⟩
   obtain ⟨⟨y1, y2⟩, hy⟩ : ∃ z, rdOf (0, 0) ys j = z := ⟨_, rfl⟩
   rw [hx] at c1
   rw [hy] at c2
   simp only [cxv] at c1 c2
   have HX := Aside0.mk (And.intro hx hy)
   have g1 := eq_true (show i < N by have := HJ2.out; omega)
   have g2 := eq_true (show j < N by have := HJ2.out; omega)
   have g3 := eq_true HJ2.out.2.2.2
   have g4 := eq_true (show 0 ≤ j by have := HJ2.out; omega)
   clear hx hy
   obtain ⟨c3, f3⟩ := Kd.R_celln (enc := cxv) (h1 := fun _ => rfl) (0, 0) (Kd.R_putn (enc := cxv) (h1 := fun _ => rfl) DD.out i (y1, y2)) j (by have := HJ2.out; omega) (by have := HJ2.out; omega)
   rw [show cxv (y1, y2) = .complex .f64 y1 y2 from rfl] at c3 f3
   go_wp2_with fail
   go_region
   obtain ⟨k1, k2⟩ := Kd.R_putg (enc := cxv) (h1 := fun _ => rfl) DD.out i (y1, y2)
   obtain ⟨k3, k4⟩ := Kd.R_putg (enc := cxv) (h1 := fun _ => rfl) k1 j (x1, x2)
   have hbg : base ≤ gb := Kd.R_base DD.out gb rfl
   have R1 := RR.out.step (show i.toNat < xs.length - 1 - i.toNat by have := HJ2.out; have := HN.out; omega)
   rw [show xs.length - 1 - i.toNat = j.toNat by have := HJ2.out; have := HN.out; omega, show ys.getD j.toNat (0, 0) = (y1, y2) from HX.out.2, show ys.getD i.toNat (0, 0) = (x1, x2) from HX.out.1] at R1
   have R2 := Aside0.mk R1
   have D1 := Aside0.mk k3
   have B1 := Aside0.mk (show Below base w _ from pw_below_grown (pw_below_grown BB.out (some gb) (Nat.le_trans HL.out.2 BB.out.size) k2 (fun k hk => by cases hk; exact hbg)) (some gb) (Nat.le_trans (Nat.le_trans HL.out.2 BB.out.size) k2.size) k4 (fun k hk => by cases hk; exact hbg))
   clear k1 k2 k3 k4 R1 c1 c2 c3 f1 f2 f3 g1 g2 g3 g4
   go_wp2_with fail
   go_roundg d
   case measure => omega
   case rel =>
    have e1 : wrap64 (i + 1) = i + 1 := by have := HJ2.out; have := HL.out; have := HN.out; exact w64 (by omega) (by omega)
    have e2 : wrap64 (j - 1) = j - 1 := by have := HJ2.out; have := HL.out; have := HN.out; exact w64 (by omega) (by omega)
    exact ⟨i + 1, by first | rfl | rw [e1], by rw [e2]; congr 1; have := HJ2.out; omega, ⟨_, by rw [show (i + 1).toNat = i.toNat + 1 by have := HJ2.out; omega]; exact R2.out, by have := HJ2.out; omega, by have := HJ.out; omega, by first | exact D1.out | exact Kd.R_drew D1.out, by first | exact B1.out | exact B1.out.drew⟩⟩
  | zero =>
   have hl' : decide (i < N - 1 - i) = false := decide_eq_false (by have := HJ.out; omega)
   have hd := RR.out.done (by have := HJ.out; omega)
   subst hd
   go_wp2
   go_end0
   exact ⟨rfl, DD.out, BB.out⟩
end Go.Proofs.Ytdjkcpmoigemdaa
namespace Go.Proofs.Ytdjkcpmoigemdaa
open Go Ieee Go.RowKit Go.Proofs.Ytdjkcpmoigemdaa.Fl Go.Proofs.Ytdjkcpmoigemdaa.Fx Go.Proofs.Ytdjkcpmoigemdaa.P Go.Proofs.YtdjkcpmoigemdaaW.PrintWords Go.Proofs.YtdjkcpmoigemdaaW.PrintLast Go.Proofs.YtdjkcpmoigemdaaW.PrintMore
set_option linter.unusedVariables false
set_option linter.unusedSimpArgs false
attribute [local go_sem] run_add run_sub run_mul run_quo run_cadd run_csub run_neg run_cneg conv_f run_store_cx
theorem quoO_lt1 {a b c d r : Nat} (h : (quoO a b c d).1 = some r) : r < 2 ^ 64 := by
 unfold quoO at h
 split at h <;> exact fop_lt h
theorem quoO_lt2 {a b c d r : Nat} (h : (quoO a b c d).2 = some r) : r < 2 ^ 64 := by
 unfold quoO at h
 split at h <;> exact fop_lt h
theorem topQ_wo {xs q : Cs} {t : Nat × Nat} (h : topQ xs q = some t) : t.1 < 2 ^ 64 ∧ t.2 < 2 ^ 64 := by
 unfold topQ stp at h
 split at h
 ·rename_i a b h1 h2
  split at h
  ·cases h
   exact ⟨quoO_lt1 h1, quoO_lt2 h2⟩
  ·cases h
 ·cases h
theorem rdOf_set (xs : Cs) (i : Int) (z : Nat × Nat) (h0 : 0 ≤ i) (h1 : i < xs.length) : rdOf (0, 0) (xs.set i.toNat z) i = z := by
 show (xs.set i.toNat z).getD i.toNat (0, 0) = z
 rw [List.getD_eq_getElem?_getD, List.getElem?_set_self (by omega)]
 rfl
structure DivAt (X : Option (Cs × Cs)) (qs : Cs) (w w1 w' : World) (v u : Value) (g : Nat) : Prop where
 at_ : ∃ rs quo, Two w w1 w' v u rs quo.reverse ∧ divS qs g rs quo = X ∧ Good rs ∧ Good quo ∧ g = rs.length + 1 - qs.length ∧ rs.length ≤ 30 ∧ quo.length + g ≤ 31
structure SubsAt (Y : Option Cs) (t : Nat × Nat) (qs us : Cs) (base : Int) (n : Nat) (w w1 w' : World) (v u : Value) (g : Nat) (i : Int) : Prop where
 at_ : ∃ rs, Two w w1 w' v u rs us ∧ Good rs ∧ rs.length = n ∧ 0 ≤ i ∧ i + g + 1 = qs.length ∧ subAt t qs base g i rs = Y
theorem ResD.none_ {w w' : World} (h : Below w.heap.size w w') : ResD w none (.returned (.tuple #[.slice none 0 0, .slice none 0 0, .int .i64 3])) w' := ⟨rfl, h⟩
set_option maxRecDepth 100000 in
set_option maxHeartbeats 8000000 in
theorem division_calls (A B : Option Addr) (c d : Nat) (xs qs : Cs) (w : World) (hr : cxk.C w A xs.length xs) (hr2 : cxk.C w B qs.length qs) (hl : xs.length ≤ 30) (h1 : 1 ≤ qs.length) (hl2 : qs.length ≤ 30) (hd : qs.length ≤ d) (hg : Good xs) (hq : Good qs) : Calls Try.prog 32 #[.slice A xs.length c, .slice B qs.length d] w fun e w' => ResD w (divP xs qs) e w' := by
 have HR := Aside0.mk hr; have HR2 := Aside0.mk hr2; have HG := Aside0.mk hg; have HQ := Aside0.mk hq
 have HL := Aside0.mk (And.intro hl (And.intro h1 (And.intro hl2 hd)))
 obtain ⟨X, hX⟩ : ∃ X, divP xs qs = X := ⟨_, rfl⟩
 rw [hX]
 have HX := Aside0.mk hX
 obtain ⟨L, hL⟩ : ∃ L : Int, (qs.length : Int) = L := ⟨_, rfl⟩
 have HLL := Aside0.mk (show (qs.length : Int) = L ∧ 1 ≤ L ∧ L ≤ 30 by omega)
 obtain ⟨bd, rfl, hy0⟩ := cx_last hr2 hL (by omega) (by omega)
 obtain ⟨⟨y1, y2⟩, hyy⟩ : ∃ z, at_ qs ((qs.length : Int) - 1) = z := ⟨_, rfl⟩
 have HYW := Aside0.mk (show y1 < 2 ^ 64 ∧ y2 < 2 ^ 64 by
  have h := (hq.at_ ((qs.length : Int) - 1) (by omega) (by omega)).2
  rw [show rdOf (0, 0) qs ((qs.length : Int) - 1) = (y1, y2) from hyy] at h
  exact h)
 have HYY := Aside0.mk hyy
 rw [hyy] at hy0
 have HY0 := Aside0.mk hy0
 clear hr hr2 hl h1 hl2 hd hg hq hX hy0 hyy
 go_enter Try.func32, Try.ntmps32
 go_wp2_with fail
 refine (Clone_calls A c xs w HR.out (by have := HL.out; omega)).mono ?_
 rintro e w1 ⟨v, rfl, ho⟩
 have TT := Aside0.mk (show Two w w1 (w1.alloc (.cells #[] 34)) v (.slice (some ⟨w1.heap.size, 0, none⟩) 0 0) xs [] from
  ⟨Kd.R_alloc (Kd.R_mono (Kd.R_bound ho.row) (fun k hk => hk.2.2.1)) _, cx_empty w1 _ _ (Nat.le_refl _) trivial, below_alloc ho.low _, (below_alloc (Below.refl w1.heap.size w1) _).size, ho.low.size⟩)
 clear ho
 go_wp2_with fail
 go_loopg [7, 8] (xs.length + 1 - qs.length) (fun g v u w' => Aside0 (DivAt X qs w w1 w' v u g))
 case atStart => exact ⟨⟨xs, [], TT.out, HX.out, HG.out, Good.nil, rfl, HL.out.1, by simp; have := HL.out; omega⟩⟩
 case round =>
  clear TT
  obtain ⟨rs, quo, ht, hx, hgr, hgq, hg, hl, hlq⟩ := hrel.out.at_
  clear hrel
  obtain ⟨N, hN⟩ : ∃ N : Int, (rs.length : Int) = N := ⟨_, rfl⟩
  have HN := Aside0.mk (show (rs.length : Int) = N ∧ N ≤ 30 by omega)
  have TT := Aside0.mk ht
  have GR := Aside0.mk hgr; have GQ := Aside0.mk hgq
  have HS := Aside0.mk hx
  have HLQ := Aside0.mk hlq
  clear ht hgr hgq hx hlq hl
  cases gk with
  | succ m =>
   have hl' : decide (N ≥ L) = true := decide_eq_true (by have := HLL.out; omega)
   have HGM := Aside0.mk (show N = L + m by have := HLL.out; have := HN.out; omega)
   clear hg
   obtain ⟨gb, cap, rfl, -, -, -⟩ := Kd.R_form TT.out.rest (by have := HLL.out; have := HN.out; have := HGM.out; omega)
   obtain ⟨n, hn⟩ : ∃ n, N - 1 = n := ⟨_, rfl⟩
   have HNN := Aside0.mk (show N - 1 = n ∧ 0 ≤ n ∧ n + 1 = N ∧ L ≤ N by have := HGM.out; have := HLL.out; omega)
   have hw : wrap64 (N - 1) = n := by have := HNN.out; have := HN.out; rw [hn]; exact w64 (by omega) (by omega)
   clear hn
   obtain ⟨hx, hfz⟩ := Kd.R_celln (enc := cxv) (h1 := fun _ => rfl) (0, 0) TT.out.rest n HNN.out.2.1 (by have := HNN.out; have := HN.out; omega)
   obtain ⟨⟨x1, x2⟩, hxx⟩ : ∃ z, rdOf (0, 0) rs n = z := ⟨_, rfl⟩
   rw [hxx] at hx
   simp only [cxv] at hx
   have HXX := Aside0.mk (show at_ rs ((rs.length : Int) - 1) = (x1, x2) by rw [show (rs.length : Int) - 1 = n by have := HNN.out; have := HN.out; omega]; exact hxx)
   have hy := pw_cell_below TT.out.low HY0.out
   have p0 : 0 < L := by have := HLL.out; omega
   have p1 : L ≤ 30 := HLL.out.2.2
   have q0 := eq_true HNN.out.2.1
   have q1 := eq_true (show n < N by have := HNN.out; omega)
   have q2 := eq_true (show 1 ≤ L by omega)
   have q3 := eq_true (show L - 1 < L by omega)
   clear hxx hfz
   go_wp2_with fail
   simp only [hw]
   clear hw
   have hwl : wrap64 (L - 1) = L - 1 := by have := HLL.out; exact w64 (by omega) (by omega)
   go_wp2_with fail
   refine start_ (n := 12) (S := fun w' => w'.cell? ⟨gb, n.toNat, none⟩ = some (.complex .f64 x1 x2) ∧ w'.cell? (bd.add (L.toNat - 1)) = some (.complex .f64 y1 y2)) (ds := [10, 11]) #[false, false, false, false, false, false, false, false, false, false, false, false] (by kernel_rfl) rfl rfl ⟨hx, hy⟩ (fun hHeld => ?_)
   have DW := Aside0.mk ((Below.refl wr.heap.size wr).drew)
   generalize wr.drew = W at hHeld DW ⊢
   refine pure_ (i := 0) (N := some 26) (v := ?_) (a' := ?_) #[true, false, false, false, false, false, false, false, false, false, false, false] rfl rfl (by kernel_rfl) (fun _ _ _ h => h) (Or.inl ⟨by rfl, ?_⟩) ?_ ?_
   rotate_left
   ·intro w'
    go_simp
    with_reducible rfl
   rotate_left
   ·simp only [Act.put, List.setIfInBounds_toArray, List.set_cons_zero, List.set_cons_succ, i64_w, i32_w]
    rfl
   refine pure_ (i := 1) (N := some 27) (v := ?_) (a' := ?_) #[true, true, false, false, false, false, false, false, false, false, false, false] rfl rfl (by kernel_rfl) (fun _ _ _ h => h) (Or.inl ⟨by rfl, ?_⟩) ?_ ?_
   rotate_left
   ·intro w'
    go_simp
    with_reducible rfl
   rotate_left
   ·simp only [Act.put, List.setIfInBounds_toArray, List.set_cons_zero, List.set_cons_succ, i64_w, i32_w]
    rfl
   refine pure_ (i := 2) (N := some 28) (v := ?_) (a' := ?_) #[true, true, true, false, false, false, false, false, false, false, false, false] rfl rfl (by kernel_rfl) (fun _ _ _ h => h) (Or.inl ⟨by rfl, ?_⟩) ?_ ?_
   rotate_left
   ·intro w'
    go_simp
    with_reducible rfl
   rotate_left
   ·simp only [Act.put, List.setIfInBounds_toArray, List.set_cons_zero, List.set_cons_succ, i64_w, i32_w]
    rfl
   refine pure_ (i := 4) (N := some 30) (v := ?_) (a' := ?_) #[true, true, true, false, true, false, false, false, false, false, false, false] rfl rfl (by kernel_rfl) (fun _ _ _ h => h) (Or.inl ⟨by rfl, ?_⟩) ?_ ?_
   rotate_left
   ·intro w'
    go_simp
    with_reducible rfl
   rotate_left
   ·simp only [Act.put, List.setIfInBounds_toArray, List.set_cons_zero, List.set_cons_succ, i64_w, i32_w]
    rfl
   refine pure_ (i := 5) (N := some 31) (v := ?_) (a' := ?_) #[true, true, true, false, true, true, false, false, false, false, false, false] rfl rfl (by kernel_rfl) (fun _ _ _ h => h) (Or.inl ⟨by rfl, ?_⟩) ?_ ?_
   rotate_left
   ·intro w'
    go_simp
    with_reducible rfl
   rotate_left
   ·simp only [Act.put, List.setIfInBounds_toArray, List.set_cons_zero, List.set_cons_succ, i64_w, i32_w]
    rfl
   refine pure_ (i := 6) (N := some 32) (v := ?_) (a' := ?_) #[true, true, true, false, true, true, true, false, false, false, false, false] rfl rfl (by kernel_rfl) (fun _ _ _ h => h) (Or.inl ⟨by rfl, ?_⟩) ?_ ?_
   rotate_left
   ·intro w'
    go_simp
    with_reducible rfl
   rotate_left
   ·simp only [Act.put, List.setIfInBounds_toArray, List.set_cons_zero, List.set_cons_succ, i64_w, i32_w]
    rfl
   refine pure_ (i := 7) (N := some 33) (v := ?_) (a' := ?_) #[true, true, true, false, true, true, true, true, false, false, false, false] rfl rfl (by kernel_rfl) (fun _ _ _ h => h) (Or.inl ⟨by rfl, ?_⟩) ?_ ?_
   rotate_left
   ·intro w'
    go_simp
    with_reducible rfl
   rotate_left
   ·simp only [Act.put, List.setIfInBounds_toArray, List.set_cons_zero, List.set_cons_succ, i64_w, i32_w]
    rfl
   refine pure_ (i := 8) (N := some 34) (v := ?_) (a' := ?_) #[true, true, true, false, true, true, true, true, true, false, false, false] rfl rfl (by kernel_rfl) (fun _ _ _ h => h) (Or.inl ⟨by rfl, ?_⟩) ?_ ?_
   rotate_left
   ·intro w'
    go_simp
    with_reducible rfl
   rotate_left
   ·simp only [Act.put, List.setIfInBounds_toArray, List.set_cons_zero, List.set_cons_succ, i64_w, i32_w]
    rfl
   refine take_ (i := 3) (N := some 29) (v := ?_) (a' := ?_) #[true, true, true, true, true, true, true, true, true, false, false, false] rfl rfl (by kernel_rfl) (fun _ _ _ h => h) (Or.inl ⟨by rfl, ?_⟩) hHeld ?_ ?_
   rotate_left
   ·rintro w' ⟨s0, s1⟩
    go_simp
    with_reducible rfl
   rotate_left
   ·simp only [Act.put, List.setIfInBounds_toArray, List.set_cons_zero, List.set_cons_succ, i64_w, i32_w]
    rfl
   refine take_ (i := 9) (N := some 35) (v := ?_) (a' := ?_) #[true, true, true, true, true, true, true, true, true, true, false, false] rfl rfl (by kernel_rfl) (fun _ _ _ h => h) (Or.inl ⟨by rfl, ?_⟩) hHeld ?_ ?_
   rotate_left
   ·rintro w' ⟨s0, s1⟩
    go_simp
    with_reducible rfl
   rotate_left
   ·simp only [Act.put, List.setIfInBounds_toArray, List.set_cons_zero, List.set_cons_succ, i64_w, i32_w]
    rfl
   refine last_ (i := 10) (N := some 36) #[true, true, true, true, true, true, true, true, true, true, true, false] rfl rfl (by kernel_rfl) (by decide) (fun K hK => ?_)
   refine goes_ Try.func67 (by kernel_rfl) rfl #[.complex .f64 x1 x2, .complex .f64 y1 y2] (by rfl) rfl rfl (by simp only [List.map_toArray, List.map_cons, List.map_nil]; rfl) ?_
   with_reducible refine (divide_calls x1 x2 y1 y2 HYW.out.1 HYW.out.2 _).mono ?_
   rintro e w2 ⟨⟨v2, rfl, r, ri, rfl, hra, hrb⟩, n3, rfl⟩
   refine ⟨_, rfl, ?_⟩
   refine hK.out _ _ ?_
   clear hK K
   refine norm_ (a' := ?_) ?_ ?_
   rotate_left
   ·show Act.put _ (some 36) _ = _
    simp only [Act.put, List.setIfInBounds_toArray, List.set_cons_zero, List.set_cons_succ, i64_w, i32_w]
    rfl
   refine last_ (i := 11) (N := some 10) #[true, true, true, true, true, true, true, true, true, true, true, true] rfl rfl (by kernel_rfl) (by decide) (fun K hK => ?_)
   refine value_ (w1 := ?_) (v := ?_) (by rfl) rfl ?_ ?_
   rotate_left 2
   ·go_simp
    constructor
    ·rfl
    ·rfl
   refine hK.out _ _ ?_
   clear hK K
   refine norm_ (a' := ?_) ?_ ?_
   rotate_left
   ·show Act.put _ (some 10) _ = _
    simp only [Act.put, List.setIfInBounds_toArray, List.set_cons_zero, List.set_cons_succ, i64_w, i32_w]
    rfl
   refine done_ (by kernel_rfl) ?_
   have HT := Aside0.mk (show topQ rs qs = if isFin r && isFin ri then some (r, ri) else none from topQ_of (by rw [hra, HXX.out, HYY.out]) (by rw [hrb, HXX.out, HYY.out]))
   replace TT := Aside0.mk (TT.out.below DW.out)
   clear hra hrb hx hy q0 q1 q2 q3 p0 p1
   have KEY := Aside0.mk (show ((topQ rs qs).bind fun t => (subAt t qs ((rs.length : Int) - qs.length) (qs.length - 1) 0 rs).bind fun ys => divS qs m (ys.take (ys.length - 1)) (t :: quo)) = X from HS.out)
   clear HS
   go_wp2_with fail
   refine (isFinite_calls r ri _).mono ?_
   rintro e w4 ⟨rfl, n4, rfl⟩
   cases hf : (isFin r && isFin ri)
   ·have HXN := Aside0.mk (show X = none by have h := KEY.out; rw [HT.out, hf] at h; exact h.symm)
    go_wp2
    go_ret3
    rw [HXN.out]
    exact ResD.none_ (by repeat (first | exact TT.out.low | refine pw_below_drewN ?_ _))
   ·obtain ⟨Y, hY⟩ : ∃ Y, subAt (r, ri) qs ((rs.length : Int) - qs.length) (qs.length - 1) 0 rs = Y := ⟨_, rfl⟩
    have HY := Aside0.mk hY
    have KEY2 := Aside0.mk (show (Y.bind fun ys => divS qs m (ys.take (ys.length - 1)) ((r, ri) :: quo)) = X by have h := KEY.out; rw [HT.out, hf, if_pos rfl] at h; rw [← hY]; exact h)
    have HFT := Aside0.mk hf
    have HTW := Aside0.mk (show r < 2 ^ 64 ∧ ri < 2 ^ 64 from topQ_wo (HT.out.trans (by rw [hf]; rfl)))
    clear hY KEY hf
    obtain ⟨K, hK⟩ : ∃ K : Nat, (L - 1).toNat = K := ⟨_, rfl⟩
    obtain ⟨KI, hKI⟩ : ∃ KI : Int, (K : Int) = KI := ⟨_, rfl⟩
    have HKK := Aside0.mk (show (K : Int) = KI ∧ KI + 1 = L by have := HLL.out; omega)
    obtain ⟨i0, hi0, -, -, -⟩ := info_parts info_cx
    have hsl := cut_to (P := Try.prog) 24 34 .i64 Try.underlying24 hi0 (some bd) qs.length d (L - 1) (by have := HLL.out; omega) (by have := HLL.out; omega) HL.out.2.2.2
    rw [hK] at hsl
    clear hK hi0
    go_wp2_with (first | ((with_reducible refine gate_builtin (b := .append) (xs := #[.tmp 40, .tmp 42]) rfl ?_); at_builtin; refine Kd.R_append cxk (w0 := W) w1.heap.size rfl (.tmp 40) (.tmp 42) 24 34 (.complex .f64 0 0) 16 rfl Try.underlying24 info_cx rfl (by decide) (by omega) _ quo.reverse (r, ri) [.complex .f64 _ _] (fun _ => True) (fun _ => False) rfl rfl ?aP (fun _ hk => hk.elim) ?aF ?aO ?aB ?aS ?aL ?_; (case aP => exact rfl); (case aF => exact (fun _ _ => trivial)); (case aB => repeat (first | exact Below.refl _ _ | (with_reducible refine pw_below_drewN ?_ _))); (case aO => repeat (first | exact TT.out.quo | (with_reducible refine Kd.R_drewN ?_ _))); (case aS => exact TT.out.sz); (case aL => rw [List.length_reverse]; have h1 := HLQ.out; omega); intro v1 w4 ho hb hg hat))
    have T2 := Aside0.mk (TT.out.next ho hb)
    clear ho hb hg hat TT
    go_wp2_with fail
    try simp only [hKI]
    clear hsl hwl
    go_loopg [50] K (fun g u w' => ∃ (i : Int), u = .int .i64 i ∧ Aside0 (SubsAt Y (r, ri) qs (quo.reverse ++ [(r, ri)]) (N - L) rs.length w w1 w' (.slice (some ⟨gb, 0, none⟩) rs.length cap) v1 g i))
    case atStart => exact ⟨0, rfl, ⟨⟨rs, by repeat (first | exact T2.out | refine Two.drewN ?_ _), GR.out, rfl, by omega, by have := HKK.out; have := HLL.out; omega, by rw [← HY.out, show K = qs.length - 1 by have := HKK.out; have := HLL.out; omega, HN.out.1, HLL.out.1]⟩⟩⟩
    case round =>
     clear T2 HY
     obtain ⟨i, rfl, hj⟩ := hrel
     obtain ⟨zs, ht, hgz, hzl, hi0, hig, hsub⟩ := hj.out.at_
     clear hj
     cases gk with
     | succ q =>
      have HJ := Aside0.mk (show 0 ≤ i ∧ i < KI ∧ i + q + 1 = KI by have := HKK.out; have := HLL.out; omega)
      have hl2 : decide (i < KI) = true := decide_eq_true HJ.out.2.1
      obtain ⟨p, hp⟩ : ∃ p, N - L + i = p := ⟨_, rfl⟩
      have HP := Aside0.mk (show N - L + i = p ∧ 0 ≤ p ∧ p < N by have := HJ.out; have := HKK.out; have := HGM.out; omega)
      have a1 : wrap64 (n - L) = n - L := by have := HNN.out; have := HLL.out; have := HN.out; exact w64 (by omega) (by omega)
      have a2 : wrap64 (n - L + 1) = n - L + 1 := by have := HNN.out; have := HLL.out; have := HN.out; exact w64 (by omega) (by omega)
      have a3 : wrap64 (n - L + 1 + i) = p := by have := HNN.out; have := HLL.out; have := HN.out; have := HP.out; rw [show n - L + 1 + i = p by omega]; exact w64 (by omega) (by omega)
      obtain ⟨bd', eb, hy⟩ := cx_at (Kd.C_below HR2.out ht.low) i HJ.out.1 (by have := HJ.out; have := HKK.out; have := HLL.out; omega)
      cases eb
      obtain ⟨⟨b1, b2⟩, hbb⟩ : ∃ z, rdOf (0, 0) qs i = z := ⟨_, rfl⟩
      rw [hbb] at hy
      have HBB := Aside0.mk hbb
      obtain ⟨hx, hfz0⟩ := Kd.R_celln (enc := cxv) (h1 := fun _ => rfl) (0, 0) ht.rest p HP.out.2.1 (by have := HP.out; have := HN.out; omega)
      obtain ⟨⟨z1, z2⟩, hzz⟩ : ∃ z, rdOf (0, 0) zs p = z := ⟨_, rfl⟩
      rw [hzz] at hx
      simp only [cxv] at hx
      have HSUB := Aside0.mk (show ((subE (z1, z2) (r, ri) (b1, b2)).bind fun z => subAt (r, ri) qs (N - L) q (i + 1) (zs.set p.toNat z)) = Y by
       have h := hsub
       unfold subAt at h
       rw [hp, show at_ zs p = (z1, z2) from hzz, show at_ qs i = (b1, b2) from hbb] at h
       exact h)
      have TT := Aside0.mk ht
      have GZ := Aside0.mk (And.intro hgz hzl)
      have q0 := eq_true HJ.out.1
      have q1 := eq_true HJ.out.2.1
      have q2 := eq_true HP.out.2.1
      have q3 := eq_true (show p < N from HP.out.2.2)
      clear hp hbb hzz ht hgz hzl hi0 hig hsub hfz0
      go_wp2_with fail
      try simp only [a1, a2, a3]
      clear a1 a2 a3
      refine (multiply_calls r ri b1 b2 _).mono ?_
      rintro e w2 ⟨⟨v2, rfl, pr, pi, rfl, hr, hi⟩, n5, rfl⟩
      go_wp2_with fail
      refine (subtract_calls z1 z2 pr pi _).mono ?_
      rintro e w2 ⟨⟨v2, rfl, s, si, rfl, kr, ki⟩, n6, rfl⟩
      have HF := Aside0.mk (show (isFin s && isFin si) = true → (isFin pr && isFin pi) = true from fun h => by
       rw [Bool.and_eq_true] at h ⊢
       exact ⟨fop_fin_sub kr h.1, fop_fin_sub ki h.2⟩)
      have HST := Aside0.mk (show subE (z1, z2) (r, ri) (b1, b2) = if isFin s && isFin si then some (s, si) else none from subE_of (by rw [kr]; show fop .sub (can z1) (can pr) = _; rw [hr]) (by rw [ki]; show fop .sub (can z2) (can pi) = _; rw [hi]))
      clear hr hi kr ki
      obtain ⟨hx2, hfz⟩ := Kd.R_celln (enc := cxv) (h1 := fun _ => rfl) (0, 0) (TT.out.drewN (n5 + n6)).rest p HP.out.2.1 (by have := HP.out; have := HN.out; have := GZ.out; omega)
      have ho := (TT.out.drewN (n5 + n6)).put p (s, si)
      have T3 := Aside0.mk ho
      clear ho
      go_wp2_with fail
      refine (isFinite_calls pr pi _).mono ?_
      rintro e w4 ⟨rfl, n7, rfl⟩
      obtain ⟨hx3, -⟩ := Kd.R_celln (enc := cxv) (h1 := fun _ => rfl) (0, 0) (T3.out.drewN n7).rest p HP.out.2.1 (by have := HP.out; have := HN.out; omega)
      rw [rdOf_set zs p (s, si) HP.out.2.1 (by have := HP.out; have := HN.out; have := GZ.out; omega)] at hx3
      simp only [cxv] at hx3
      clear hx hx2 hfz hy
      cases hg' : (isFin s && isFin si)
      ·have HXN := Aside0.mk (show X = none by have h := HSUB.out; rw [HST.out, hg'] at h; have h2 := KEY2.out; rw [← h] at h2; exact h2.symm)
       cases hgp : (isFin pr && isFin pi)
       ·go_wp2
        go_ret3
        rw [HXN.out]
        exact ResD.none_ (by repeat (first | exact T3.out.low | refine pw_below_drewN ?_ _))
       ·go_wp2_with fail
        refine (isFinite_calls s si _).mono ?_
        rintro e w5 ⟨rfl, n8, rfl⟩
        rw [hg']
        go_wp2
        go_ret3
        rw [HXN.out]
        exact ResD.none_ (by repeat (first | exact T3.out.low | refine pw_below_drewN ?_ _))
      ·have HSUB2 := Aside0.mk (show subAt (r, ri) qs (N - L) q (i + 1) (zs.set p.toNat (s, si)) = Y by have h := HSUB.out; rw [HST.out, hg', if_pos rfl] at h; exact h)
       have GZ2 := Aside0.mk (GZ.out.1.set p.toNat (z := (s, si)) hg' (subE_wo (HST.out.trans (by rw [hg']; rfl))))
       rw [HF.out hg']
       go_wp2_with fail
       refine (isFinite_calls s si _).mono ?_
       rintro e w5 ⟨rfl, n8, rfl⟩
       rw [hg']
       go_wp2_with fail
       go_roundg q
       case measure => omega
       case rel =>
        have e : wrap64 (i + 1) = i + 1 := by have := HJ.out; have := HKK.out; have := HLL.out; exact w64 (by omega) (by omega)
        exact ⟨i + 1, by first | rfl | rw [e], ⟨⟨_, by repeat (first | exact T3.out | refine Two.drewN ?_ _), GZ2.out, by rw [List.length_set]; exact GZ.out.2, by have := HJ.out; omega, by have := HJ.out; have := HKK.out; have := HLL.out; omega, HSUB2.out⟩⟩⟩
     | zero =>
      have hl2 : decide (i < KI) = false := decide_eq_false (by have := HKK.out; have := HLL.out; omega)
      have hY : some zs = Y := hsub
      have KEY3 := Aside0.mk (show divS qs m (zs.take (zs.length - 1)) ((r, ri) :: quo) = X by have h := KEY2.out; rw [← hY] at h; exact h)
      have hnn : n.toNat = zs.length - 1 := by have := HNN.out; have := HN.out; omega
      have hzp : n.toNat ≤ zs.length := by omega
      have hlt : (zs.take (zs.length - 1)).length = n.toNat := by rw [List.length_take]; omega
      have T3 := Aside0.mk (ht.take hzp)
      have HE := Aside0.mk (And.intro hnn hlt)
      have GZ2 := Aside0.mk (hgz.take (zs.length - 1))
      obtain ⟨i0, hi1, -, -, -⟩ := info_parts info_cx
      have hcap : rs.length ≤ cap := by obtain ⟨A', c', e, h, _⟩ := Kd.R_reads ht.rest; injection e with _ e2 e3; omega
      have hsl := cut_to (P := Try.prog) 24 34 .i64 Try.underlying24 hi1 (some ⟨gb, 0, none⟩) rs.length cap n HNN.out.2.1 (by have := HNN.out; have := HN.out; omega) hcap
      clear hi1 hcap hlt hzp hnn hsub hY ht hgz hi0 hig hzl
      go_wp2_with fail
      clear hsl
      go_roundg m
      case measure => omega
      case rel =>
       have ht := T3.out
       rw [HE.out.1] at ht
       exact ⟨⟨zs.take (zs.length - 1), (r, ri) :: quo, by rw [List.reverse_cons, HE.out.1]; exact ht, KEY3.out, GZ2.out, GQ.out.cons HFT.out HTW.out, by rw [HE.out.2]; have := HNN.out; have := HGM.out; have := HLL.out; omega, by rw [HE.out.2]; have := HNN.out; have := HN.out; omega, by rw [List.length_cons]; have := HLQ.out; omega⟩⟩
  | zero =>
   have hl' : decide (N ≥ L) = false := decide_eq_false (by have := HLL.out; have := HN.out; omega)
   have HXE := Aside0.mk (show X = some (quo, rs) from HS.out.symm)
   obtain ⟨A1, c1, rfl, hc1, hC1⟩ := Kd.R_reads TT.out.rest
   clear hc1 hC1 hg HS
   go_wp2_with fail
   refine (reverse_calls w1.heap.size _ quo.reverse _ TT.out.quo (by rw [List.length_reverse]; have := HLQ.out; omega) TT.out.sz).mono ?_
   rintro e w3 ⟨rfl, k1, k2⟩
   rw [List.reverse_reverse] at k1
   replace TT := Aside0.mk (TT.out.next k1 k2)
   clear k1 k2
   obtain ⟨A2, c2, rfl, hc2, hC2⟩ := Kd.R_reads TT.out.quo
   obtain ⟨A1', c1', e1, hc1, hC1⟩ := Kd.R_reads TT.out.rest
   injection e1 with e2 e3 e4
   subst e2 e4
   have HC := Aside0.mk (And.intro hc2 (And.intro hC2 (And.intro hc1 hC1)))
   clear hc2 hC2 hc1 hC1 e3
   go_wp2_with fail
   refine (trim_calls A2 c2 quo _ HC.out.2.1 (by have := HLQ.out; omega) HC.out.1).mono ?_
   rintro e w4 ⟨rfl, n4, rfl⟩
   go_wp2_with fail
   refine (trim_calls A1 c1 rs _ (Kd.C_drewN HC.out.2.2.2 _) (by have := HN.out; omega) HC.out.2.2.1).mono ?_
   rintro e w4 ⟨rfl, n5, rfl⟩
   go_wp2
   go_ret3
   rw [HXE.out]
   exact ⟨A2, c2, A1, c1, rfl, by repeat (first | exact C_trim HC.out.2.1 | refine Kd.C_drewN ?_ _), Nat.le_trans (by rw [trimL_len]; exact trimN_le _ _) HC.out.1, by repeat (first | exact C_trim HC.out.2.2.2 | refine Kd.C_drewN ?_ _), Nat.le_trans (by rw [trimL_len]; exact trimN_le _ _) HC.out.2.2.1, by repeat (first | exact TT.out.low | refine pw_below_drewN ?_ _)⟩
end Go.Proofs.Ytdjkcpmoigemdaa
namespace Go.Proofs.Ytdjkcpmoigemdaa
open Go Ieee Go.RowKit Go.Proofs.Ytdjkcpmoigemdaa.Fl Go.Proofs.Ytdjkcpmoigemdaa.Fx Go.Proofs.Ytdjkcpmoigemdaa.P Go.Proofs.YtdjkcpmoigemdaaW.PrintWords Go.Proofs.YtdjkcpmoigemdaaW.PrintLast Go.Proofs.YtdjkcpmoigemdaaW.PrintMore
set_option linter.unusedVariables false
set_option linter.unusedSimpArgs false
attribute [local go_sem] run_add run_sub run_mul run_quo run_cadd run_csub run_neg run_cneg conv_f run_store_cx
structure DivSt (X : Option (Cs × Cs)) (qs : Cs) (w w1 w' : World) (v u : Value) (g : Nat) : Prop where
 at_ : ∃ rs quo, Two w w1 w' v u rs quo ∧ divS qs g rs quo = X ∧ Good rs ∧ Good quo ∧ g = rs.length + 1 - qs.length ∧ rs.length ≤ 30 ∧ quo.length + g ≤ 31
def ResT (w : World) (o : Option (Cs × Cs)) : Ending → World → Prop := fun e w' => match o with
 | none => e = .returned (.tuple #[.slice none 0 0, .slice none 0 0, .bool false]) ∧ Below w.heap.size w w'
 | some p => ∃ (A : Option Addr) (c : Nat) (B : Option Addr) (d : Nat), e = .returned (.tuple #[.slice A p.1.length c, .slice B p.2.length d, .bool true]) ∧ cxk.C w' A p.1.length p.1 ∧ p.1.length ≤ c ∧ cxk.C w' B p.2.length p.2 ∧ p.2.length ≤ d ∧ Below w.heap.size w w' ∧ Good p.2 ∧ p.2.length ≤ 30
theorem ResT.none_ {w w' : World} (h : Below w.heap.size w w') : ResT w none (.returned (.tuple #[.slice none 0 0, .slice none 0 0, .bool false])) w' := ⟨rfl, h⟩
theorem R_one {w' : World} {base : Nat} (h : base ≤ w'.heap.size) (z : Nat × Nat) : cxk.R 34 (w'.alloc (.cells #[.complex .f64 z.1 z.2] 34)) base (fun _ => True) (.slice (some ⟨w'.heap.size, 0, none⟩) 1 1) [z] := by
 have k := World.ownsRow_lit (base := base) (e := 34) (size := 1) w' #[.complex .f64 z.1 z.2] 1 h (by unfold maxLen; omega) (by simp)
 exact Kd.R_of_own (by simpa [encs, cxv] using k) (fun k hk => trivial)
set_option maxRecDepth 100000 in
set_option maxHeartbeats 8000000 in
theorem l04Divide_calls (A B : Option Addr) (c d : Nat) (xs qs : Cs) (w : World) (hr : cxk.C w A xs.length xs) (hr2 : cxk.C w B qs.length qs) (hl : xs.length ≤ 30) (h1 : 1 ≤ qs.length) (hl2 : qs.length ≤ 30) (hd : qs.length ≤ d) (hg : Good xs) (hq : Good qs) (hz : lastZ qs = false) : Calls Try.prog 39 #[.slice A xs.length c, .slice B qs.length d] w fun e w' => ResT w (divP xs qs) e w' := by
 have HR := Aside0.mk hr; have HR2 := Aside0.mk hr2; have HG := Aside0.mk hg; have HQ := Aside0.mk hq
 have HL := Aside0.mk (And.intro hl (And.intro h1 (And.intro hl2 hd)))
 obtain ⟨X, hX⟩ : ∃ X, divP xs qs = X := ⟨_, rfl⟩
 rw [hX]
 have HX := Aside0.mk hX
 obtain ⟨L, hL⟩ : ∃ L : Int, (qs.length : Int) = L := ⟨_, rfl⟩
 have HLL := Aside0.mk (show (qs.length : Int) = L ∧ 1 ≤ L ∧ L ≤ 30 by omega)
 obtain ⟨bd, rfl, hy0⟩ := cx_last hr2 hL (by omega) (by omega)
 obtain ⟨⟨y1, y2⟩, hyy⟩ : ∃ z, at_ qs ((qs.length : Int) - 1) = z := ⟨_, rfl⟩
 have HYW := Aside0.mk (show y1 < 2 ^ 64 ∧ y2 < 2 ^ 64 by
  have h := (hq.at_ ((qs.length : Int) - 1) (by omega) (by omega)).2
  rw [show rdOf (0, 0) qs ((qs.length : Int) - 1) = (y1, y2) from hyy] at h
  exact h)
 have HYY := Aside0.mk hyy
 have HYF := Aside0.mk (show isFin y1 = true ∧ isFin y2 = true ∧ isZ y1 y2 = false by
  have h := (hq.at_ ((qs.length : Int) - 1) (by omega) (by omega)).1
  rw [show rdOf (0, 0) qs ((qs.length : Int) - 1) = (y1, y2) from hyy] at h
  unfold lastZ zero_ at hz
  rw [hyy] at hz
  exact ⟨h.1, h.2, hz⟩)
 rw [hyy] at hy0
 have HY0 := Aside0.mk hy0
 clear hr hr2 hl h1 hl2 hd hg hq hz hX hy0 hyy
 go_enter Try.func39, Try.ntmps39
 go_wp2_with fail
 refine (l04Own_calls A c xs w HR.out (by have := HL.out; omega)).mono ?_
 rintro e w1 ⟨v, rfl, ho⟩
 have TT := Aside0.mk (show Two w w1 (w1.alloc (.cells #[] 34)) v (.slice (some ⟨w1.heap.size, 0, none⟩) 0 0) xs [] from
  ⟨Kd.R_alloc (Kd.R_mono (Kd.R_bound ho.row) (fun k hk => hk.2.2.1)) _, cx_empty w1 _ _ (Nat.le_refl _) trivial, below_alloc ho.low _, (below_alloc (Below.refl w1.heap.size w1) _).size, ho.low.size⟩)
 clear ho
 go_wp2_with fail
 go_loopg [7, 8] (xs.length + 1 - qs.length) (fun g v u w' => Aside0 (DivSt X qs w w1 w' v u g))
 case atStart => exact ⟨⟨xs, [], TT.out, HX.out, HG.out, Good.nil, rfl, HL.out.1, by simp; have := HL.out; omega⟩⟩
 case round =>
  clear TT
  obtain ⟨rs, quo, ht, hx, hgr, hgq, hg, hl, hlq⟩ := hrel.out.at_
  clear hrel
  obtain ⟨N, hN⟩ : ∃ N : Int, (rs.length : Int) = N := ⟨_, rfl⟩
  have HN := Aside0.mk (show (rs.length : Int) = N ∧ N ≤ 30 by omega)
  have TT := Aside0.mk ht
  have GR := Aside0.mk hgr; have GQ := Aside0.mk hgq
  have HS := Aside0.mk hx
  have HLQ := Aside0.mk hlq
  clear ht hgr hgq hx hlq hl
  cases gk with
  | succ m =>
   have hl' : decide (N ≥ L) = true := decide_eq_true (by have := HLL.out; omega)
   have HGM := Aside0.mk (show N = L + m by have := HLL.out; have := HN.out; omega)
   clear hg
   obtain ⟨gb, cap, rfl, -, -, -⟩ := Kd.R_form TT.out.rest (by have := HLL.out; have := HN.out; have := HGM.out; omega)
   obtain ⟨n, hn⟩ : ∃ n, N - 1 = n := ⟨_, rfl⟩
   have HNN := Aside0.mk (show N - 1 = n ∧ 0 ≤ n ∧ n + 1 = N ∧ L ≤ N by have := HGM.out; have := HLL.out; omega)
   have hw : wrap64 (N - 1) = N - 1 := by have := HNN.out; have := HN.out; exact w64 (by omega) (by omega)
   clear hn
   obtain ⟨hx, hfz⟩ := Kd.R_celln (enc := cxv) (h1 := fun _ => rfl) (0, 0) TT.out.rest n HNN.out.2.1 (by have := HNN.out; have := HN.out; omega)
   obtain ⟨⟨x1, x2⟩, hxx⟩ : ∃ z, rdOf (0, 0) rs n = z := ⟨_, rfl⟩
   rw [hxx, show n.toNat = N.toNat - 1 by have := HNN.out; omega] at hx
   simp only [cxv] at hx
   have HXX := Aside0.mk (show at_ rs ((rs.length : Int) - 1) = (x1, x2) by rw [show (rs.length : Int) - 1 = n by have := HNN.out; have := HN.out; omega]; exact hxx)
   have HXF := Aside0.mk (show isFin x1 = true ∧ isFin x2 = true by
    have h := (GR.out.at_ n HNN.out.2.1 (by have := HNN.out; have := HN.out; omega)).1
    rw [hxx] at h
    exact h)
   have hy := pw_cell_below TT.out.low HY0.out
   have p0 : 0 < L := by have := HLL.out; omega
   have p1 : L ≤ 30 := HLL.out.2.2
   have p2 : 0 < N := by have := HNN.out; omega
   have p3 : N ≤ 30 := HN.out.2
   have q0 := eq_true (show 1 ≤ N by omega)
   have q1 := eq_true (show N - 1 < N by omega)
   have q2 := eq_true (show 1 ≤ L by omega)
   have q3 := eq_true (show L - 1 < L by omega)
   have hwl : wrap64 (L - 1) = L - 1 := by have := HLL.out; exact w64 (by omega) (by omega)
   clear hxx hfz
   go_wp2_with fail
   refine start_ (n := 13) (S := fun w' => w'.cell? ⟨gb, N.toNat - 1, none⟩ = some (.complex .f64 x1 x2) ∧ w'.cell? (bd.add (L.toNat - 1)) = some (.complex .f64 y1 y2)) (ds := [11, 12]) #[false, false, false, false, false, false, false, false, false, false, false, false, false] (by kernel_rfl) rfl rfl ⟨hx, hy⟩ (fun hHeld => ?_)
   have DW := Aside0.mk ((Below.refl wr.heap.size wr).drew)
   generalize wr.drew = W at hHeld DW ⊢
   refine pure_ (i := 0) (N := some 22) (v := ?_) (a' := ?_) #[true, false, false, false, false, false, false, false, false, false, false, false, false] rfl rfl (by kernel_rfl) (fun _ _ _ h => h) (Or.inl ⟨by rfl, ?_⟩) ?_ ?_
   rotate_left
   ·intro w'
    go_simp
    with_reducible rfl
   rotate_left
   ·simp only [Act.put, List.setIfInBounds_toArray, List.set_cons_zero, List.set_cons_succ, i64_w, i32_w]
    rfl
   refine pure_ (i := 1) (N := some 23) (v := ?_) (a' := ?_) #[true, true, false, false, false, false, false, false, false, false, false, false, false] rfl rfl (by kernel_rfl) (fun _ _ _ h => h) (Or.inl ⟨by rfl, ?_⟩) ?_ ?_
   rotate_left
   ·intro w'
    go_simp
    with_reducible rfl
   rotate_left
   ·simp only [Act.put, List.setIfInBounds_toArray, List.set_cons_zero, List.set_cons_succ, i64_w, i32_w]
    rfl
   refine pure_ (i := 2) (N := some 24) (v := ?_) (a' := ?_) #[true, true, true, false, false, false, false, false, false, false, false, false, false] rfl rfl (by kernel_rfl) (fun _ _ _ h => h) (Or.inl ⟨by rfl, ?_⟩) ?_ ?_
   rotate_left
   ·intro w'
    go_simp
    with_reducible rfl
   rotate_left
   ·simp only [Act.put, List.setIfInBounds_toArray, List.set_cons_zero, List.set_cons_succ, i64_w, i32_w]
    rfl
   refine pure_ (i := 3) (N := some 25) (v := ?_) (a' := ?_) #[true, true, true, true, false, false, false, false, false, false, false, false, false] rfl rfl (by kernel_rfl) (fun _ _ _ h => h) (Or.inl ⟨by rfl, ?_⟩) ?_ ?_
   rotate_left
   ·intro w'
    go_simp
    with_reducible rfl
   rotate_left
   ·simp only [Act.put, List.setIfInBounds_toArray, List.set_cons_zero, List.set_cons_succ, i64_w, i32_w]
    rfl
   refine pure_ (i := 4) (N := some 26) (v := ?_) (a' := ?_) #[true, true, true, true, true, false, false, false, false, false, false, false, false] rfl rfl (by kernel_rfl) (fun _ _ _ h => h) (Or.inl ⟨by rfl, ?_⟩) ?_ ?_
   rotate_left
   ·intro w'
    go_simp
    with_reducible rfl
   rotate_left
   ·simp only [Act.put, List.setIfInBounds_toArray, List.set_cons_zero, List.set_cons_succ, i64_w, i32_w]
    rfl
   refine pure_ (i := 6) (N := some 28) (v := ?_) (a' := ?_) #[true, true, true, true, true, false, true, false, false, false, false, false, false] rfl rfl (by kernel_rfl) (fun _ _ _ h => h) (Or.inl ⟨by rfl, ?_⟩) ?_ ?_
   rotate_left
   ·intro w'
    go_simp
    with_reducible rfl
   rotate_left
   ·simp only [Act.put, List.setIfInBounds_toArray, List.set_cons_zero, List.set_cons_succ, i64_w, i32_w]
    rfl
   refine pure_ (i := 7) (N := some 29) (v := ?_) (a' := ?_) #[true, true, true, true, true, false, true, true, false, false, false, false, false] rfl rfl (by kernel_rfl) (fun _ _ _ h => h) (Or.inl ⟨by rfl, ?_⟩) ?_ ?_
   rotate_left
   ·intro w'
    go_simp
    with_reducible rfl
   rotate_left
   ·simp only [Act.put, List.setIfInBounds_toArray, List.set_cons_zero, List.set_cons_succ, i64_w, i32_w]
    rfl
   refine pure_ (i := 8) (N := some 30) (v := ?_) (a' := ?_) #[true, true, true, true, true, false, true, true, true, false, false, false, false] rfl rfl (by kernel_rfl) (fun _ _ _ h => h) (Or.inl ⟨by rfl, ?_⟩) ?_ ?_
   rotate_left
   ·intro w'
    go_simp
    with_reducible rfl
   rotate_left
   ·simp only [Act.put, List.setIfInBounds_toArray, List.set_cons_zero, List.set_cons_succ, i64_w, i32_w]
    rfl
   refine pure_ (i := 9) (N := some 31) (v := ?_) (a' := ?_) #[true, true, true, true, true, false, true, true, true, true, false, false, false] rfl rfl (by kernel_rfl) (fun _ _ _ h => h) (Or.inl ⟨by rfl, ?_⟩) ?_ ?_
   rotate_left
   ·intro w'
    go_simp
    with_reducible rfl
   rotate_left
   ·simp only [Act.put, List.setIfInBounds_toArray, List.set_cons_zero, List.set_cons_succ, i64_w, i32_w]
    rfl
   refine take_ (i := 5) (N := some 27) (v := ?_) (a' := ?_) #[true, true, true, true, true, true, true, true, true, true, false, false, false] rfl rfl (by kernel_rfl) (fun _ _ _ h => h) (Or.inl ⟨by rfl, ?_⟩) hHeld ?_ ?_
   rotate_left
   ·rintro w' ⟨s0, s1⟩
    go_simp
    with_reducible rfl
   rotate_left
   ·simp only [Act.put, List.setIfInBounds_toArray, List.set_cons_zero, List.set_cons_succ, i64_w, i32_w]
    rfl
   refine take_ (i := 10) (N := some 32) (v := ?_) (a' := ?_) #[true, true, true, true, true, true, true, true, true, true, true, false, false] rfl rfl (by kernel_rfl) (fun _ _ _ h => h) (Or.inl ⟨by rfl, ?_⟩) hHeld ?_ ?_
   rotate_left
   ·rintro w' ⟨s0, s1⟩
    go_simp
    with_reducible rfl
   rotate_left
   ·simp only [Act.put, List.setIfInBounds_toArray, List.set_cons_zero, List.set_cons_succ, i64_w, i32_w]
    rfl
   refine last_ (i := 11) (N := some 33) #[true, true, true, true, true, true, true, true, true, true, true, true, false] rfl rfl (by kernel_rfl) (by decide) (fun K hK => ?_)
   obtain ⟨r, ri, n3, hqr, hra, hrb⟩ := run_cquo (P := Try.prog) 34 x1 x2 y1 y2 W HXF.out.1 HXF.out.2 HYF.out.1 HYF.out.2.1 HYF.out.2.2
   refine value_ (w1 := ?_) (v := ?_) (by rfl) rfl ?_ ?_
   rotate_left 2
   ·go_simp
    constructor
    ·rfl
    ·rfl
   refine hK.out _ _ ?_
   clear hK K
   refine norm_ (a' := ?_) ?_ ?_
   rotate_left
   ·show Act.put _ (some 33) _ = _
    simp only [Act.put, List.setIfInBounds_toArray, List.set_cons_zero, List.set_cons_succ, i64_w, i32_w]
    rfl
   refine last_ (i := 12) (N := some 10) #[true, true, true, true, true, true, true, true, true, true, true, true, true] rfl rfl (by kernel_rfl) (by decide) (fun K hK => ?_)
   refine value_ (w1 := ?_) (v := ?_) (by rfl) rfl ?_ ?_
   rotate_left 2
   ·go_simp
    constructor
    ·rfl
    ·rfl
   refine hK.out _ _ ?_
   clear hK K
   refine norm_ (a' := ?_) ?_ ?_
   rotate_left
   ·show Act.put _ (some 10) _ = _
    simp only [Act.put, List.setIfInBounds_toArray, List.set_cons_zero, List.set_cons_succ, i64_w, i32_w]
    rfl
   refine done_ (by kernel_rfl) ?_
   have HT := Aside0.mk (show topQ rs qs = if isFin r && isFin ri then some (r, ri) else none from topQ_of (by rw [hra, HXX.out, HYY.out]) (by rw [hrb, HXX.out, HYY.out]))
   replace TT := Aside0.mk (TT.out.below DW.out)
   clear hra hrb hqr hx hy q0 q1 q2 q3 p0 p1 p2 p3
   have KEY := Aside0.mk (show ((topQ rs qs).bind fun t => (subAt t qs ((rs.length : Int) - qs.length) (qs.length - 1) 0 rs).bind fun ys => divS qs m (ys.take (ys.length - 1)) (t :: quo)) = X from HS.out)
   clear HS
   go_wp2_with fail
   refine (l01Finite_calls r ri _).mono ?_
   rintro e w4 ⟨rfl, n4, rfl⟩
   cases hf : (isFin r && isFin ri)
   ·have HXN := Aside0.mk (show X = none by have h := KEY.out; rw [HT.out, hf] at h; exact h.symm)
    go_wp2
    go_ret3
    rw [HXN.out]
    exact ResT.none_ (by repeat (first | exact TT.out.low | refine pw_below_drewN ?_ _))
   ·obtain ⟨Y, hY⟩ : ∃ Y, subAt (r, ri) qs ((rs.length : Int) - qs.length) (qs.length - 1) 0 rs = Y := ⟨_, rfl⟩
    have HY := Aside0.mk hY
    have KEY2 := Aside0.mk (show (Y.bind fun ys => divS qs m (ys.take (ys.length - 1)) ((r, ri) :: quo)) = X by have h := KEY.out; rw [HT.out, hf, if_pos rfl] at h; rw [← hY]; exact h)
    have HFT := Aside0.mk hf
    have HTW := Aside0.mk (show r < 2 ^ 64 ∧ ri < 2 ^ 64 from topQ_wo (HT.out.trans (by rw [hf]; rfl)))
    clear hY KEY hf
    obtain ⟨A2, c2, rfl, -, hC2⟩ := Kd.R_reads TT.out.quo
    obtain ⟨b, hb⟩ : ∃ b, N - L = b := ⟨_, rfl⟩
    have HBV := Aside0.mk (show N - L = b ∧ 0 ≤ b ∧ b ≤ 30 by have := HGM.out; have := HN.out; have := HLL.out; omega)
    have hwb : wrap64 (N - L) = b := by have := HBV.out; rw [hb]; exact w64 (by omega) (by omega)
    have TQ := Aside0.mk (show Two w w1 (W.drewN (n3 + n4)) _ _ _ _ from TT.out.drewN (n3 + n4))
    have HC2 := Aside0.mk (Kd.C_alloc (Kd.C_drewN hC2 (n3 + n4)) (.cells #[.complex .f64 r ri] 34))
    have H1 := Aside0.mk (R_one (w' := W.drewN (n3 + n4)) (base := w1.heap.size) TT.out.sz (r, ri))
    clear hb hC2
    go_wp2_with (first | ((with_reducible refine gate_builtin (b := .append) (xs := #[.tmp 38, .tmp 39]) rfl ?_); at_builtin; refine Kd.R_append_row cxv (0, 0) (h1 := fun _ => rfl) (w0 := W) w1.heap.size rfl (.tmp 38) (.tmp 39) 24 34 (.complex .f64 0 0) 16 rfl Try.underlying24 info_cx rfl (by omega) _ [(r, ri)] quo A2 quo.length c2 (fun _ => True) rfl rfl (fun _ _ => trivial) H1.out HC2.out ((pw_below_drewN (Below.refl w1.heap.size W) (n3 + n4)).alloc TT.out.sz _) (Nat.le_trans TT.out.sz ((pw_below_drewN (Below.refl w1.heap.size W) (n3 + n4)).alloc TT.out.sz (.cells #[.complex .f64 r ri] 34)).size) (by have := HLQ.out; simp; omega) ?_; intro v1 w4 ho hb hg hat))
    have T2 := Aside0.mk (TT.out.next ho hb)
    clear ho hb hg hat TT TQ HC2 H1
    go_wp2_with fail
    try simp only [hwb]
    clear hwb
    go_loopg [12] (qs.length - 1) (fun g u w' => ∃ (i : Int), u = .int .i64 i ∧ Aside0 (SubsAt Y (r, ri) qs ([(r, ri)] ++ quo) b rs.length w w1 w' (.slice (some ⟨gb, 0, none⟩) rs.length cap) v1 g i))
    case atStart => exact ⟨0, rfl, ⟨⟨rs, by repeat (first | exact T2.out | refine Two.drewN ?_ _), GR.out, rfl, by omega, by have := HLL.out; omega, by rw [← HY.out, ← HBV.out.1, HN.out.1, HLL.out.1]⟩⟩⟩
    case round =>
     clear T2 HY
     obtain ⟨i, rfl, hj⟩ := hrel
     obtain ⟨zs, ht, hgz, hzl, hi0, hig, hsub⟩ := hj.out.at_
     clear hj
     cases gk with
     | succ q =>
      have HJ := Aside0.mk (show 0 ≤ i ∧ i + 1 < L ∧ i + q + 2 = L by have := HLL.out; omega)
      have hl2 : decide (i + 1 < L) = true := decide_eq_true HJ.out.2.1
      have hwi : wrap64 (i + 1) = i + 1 := by have := HJ.out; have := HLL.out; exact w64 (by omega) (by omega)
      obtain ⟨p, hp⟩ : ∃ p, b + i = p := ⟨_, rfl⟩
      have HP := Aside0.mk (show b + i = p ∧ 0 ≤ p ∧ p < N by have := HJ.out; have := HBV.out; omega)
      have a1 : wrap64 (b + i) = p := by have := HP.out; have := HN.out; rw [hp]; exact w64 (by omega) (by omega)
      obtain ⟨bd', eb, hy⟩ := cx_at (Kd.C_below HR2.out ht.low) i HJ.out.1 (by have := HJ.out; have := HLL.out; omega)
      cases eb
      obtain ⟨⟨b1, b2⟩, hbb⟩ : ∃ z, rdOf (0, 0) qs i = z := ⟨_, rfl⟩
      rw [hbb] at hy
      obtain ⟨hx, hfz⟩ := Kd.R_celln (enc := cxv) (h1 := fun _ => rfl) (0, 0) ht.rest p HP.out.2.1 (by have := HP.out; have := HN.out; omega)
      obtain ⟨⟨z1, z2⟩, hzz⟩ : ∃ z, rdOf (0, 0) zs p = z := ⟨_, rfl⟩
      rw [hzz] at hx
      simp only [cxv] at hx
      have HSUB := Aside0.mk (show ((subE (z1, z2) (r, ri) (b1, b2)).bind fun z => subAt (r, ri) qs b q (i + 1) (zs.set p.toNat z)) = Y by
       have h := hsub
       unfold subAt at h
       rw [hp, show at_ zs p = (z1, z2) from hzz, show at_ qs i = (b1, b2) from hbb] at h
       exact h)
      have TT := Aside0.mk ht
      have GZ := Aside0.mk (And.intro hgz hzl)
      have q0 := eq_true HJ.out.1
      have q1 := eq_true (show i < L by have := HJ.out; omega)
      have q2 := eq_true HP.out.2.1
      have q3 := eq_true (show p < N from HP.out.2.2)
      clear hp hbb hzz ht hgz hzl hi0 hig hsub hfz
      go_wp2_with fail
      refine start_ (n := 19) (S := fun w' => w'.cell? ⟨gb, p.toNat, none⟩ = some (.complex .f64 z1 z2) ∧ w'.cell? (bd.add i.toNat) = some (.complex .f64 b1 b2)) (ds := [16, 18]) #[false, false, false, false, false, false, false, false, false, false, false, false, false, false, false, false, false, false, false] (by kernel_rfl) rfl rfl ⟨hx, hy⟩ (fun hHeld => ?_)
      have DW2 := Aside0.mk ((Below.refl wr.heap.size wr).drew)
      generalize wr.drew = W2 at hHeld DW2 ⊢
      refine pure_ (i := 0) (N := some 51) (v := ?_) (a' := ?_) #[true, false, false, false, false, false, false, false, false, false, false, false, false, false, false, false, false, false, false] rfl rfl (by kernel_rfl) (fun _ _ _ h => h) (Or.inl ⟨by rfl, ?_⟩) ?_ ?_
      rotate_left
      ·intro w'
       go_simp
       with_reducible rfl
      rotate_left
      ·simp only [Act.put, List.setIfInBounds_toArray, List.set_cons_zero, List.set_cons_succ, i64_w, i32_w]
       rfl
      refine pure_ (i := 1) (N := some 52) (v := ?_) (a' := ?_) #[true, true, false, false, false, false, false, false, false, false, false, false, false, false, false, false, false, false, false] rfl rfl (by kernel_rfl) (fun _ _ _ h => h) (Or.inl ⟨by rfl, ?_⟩) ?_ ?_
      rotate_left
      ·intro w'
       go_simp
       with_reducible rfl
      rotate_left
      ·simp only [Act.put, List.setIfInBounds_toArray, List.set_cons_zero, List.set_cons_succ, i64_w, i32_w]
       rfl
      refine pure_ (i := 2) (N := some 53) (v := ?_) (a' := ?_) #[true, true, true, false, false, false, false, false, false, false, false, false, false, false, false, false, false, false, false] rfl rfl (by kernel_rfl) (fun _ _ _ h => h) (Or.inl ⟨by rfl, ?_⟩) ?_ ?_
      rotate_left
      ·intro w'
       go_simp
       with_reducible rfl
      rotate_left
      ·simp only [Act.put, List.setIfInBounds_toArray, List.set_cons_zero, List.set_cons_succ, i64_w, i32_w]
       rfl
      refine pure_ (i := 3) (N := some 54) (v := ?_) (a' := ?_) #[true, true, true, true, false, false, false, false, false, false, false, false, false, false, false, false, false, false, false] rfl rfl (by kernel_rfl) (fun _ _ _ h => h) (Or.inl ⟨by rfl, ?_⟩) ?_ ?_
      rotate_left
      ·intro w'
       go_simp
       with_reducible rfl
      rotate_left
      ·simp only [Act.put, List.setIfInBounds_toArray, List.set_cons_zero, List.set_cons_succ, i64_w, i32_w]
       rfl
      refine pure_ (i := 4) (N := some 55) (v := ?_) (a' := ?_) #[true, true, true, true, true, false, false, false, false, false, false, false, false, false, false, false, false, false, false] rfl rfl (by kernel_rfl) (fun _ _ _ h => h) (Or.inl ⟨by rfl, ?_⟩) ?_ ?_
      rotate_left
      ·intro w'
       go_simp
       with_reducible rfl
      rotate_left
      ·simp only [Act.put, List.setIfInBounds_toArray, List.set_cons_zero, List.set_cons_succ, i64_w, i32_w]
       rfl
      refine pure_ (i := 5) (N := some 56) (v := ?_) (a' := ?_) #[true, true, true, true, true, true, false, false, false, false, false, false, false, false, false, false, false, false, false] rfl rfl (by kernel_rfl) (fun _ _ _ h => h) (Or.inl ⟨by rfl, ?_⟩) ?_ ?_
      rotate_left
      ·intro w'
       go_simp
       with_reducible rfl
      rotate_left
      ·simp only [Act.put, List.setIfInBounds_toArray, List.set_cons_zero, List.set_cons_succ, i64_w, i32_w]
       rfl
      refine pure_ (i := 6) (N := some 57) (v := ?_) (a' := ?_) #[true, true, true, true, true, true, true, false, false, false, false, false, false, false, false, false, false, false, false] rfl rfl (by kernel_rfl) (fun _ _ _ h => h) (Or.inl ⟨by rfl, ?_⟩) ?_ ?_
      rotate_left
      ·intro w'
       go_simp
       with_reducible rfl
      rotate_left
      ·simp only [Act.put, List.setIfInBounds_toArray, List.set_cons_zero, List.set_cons_succ, i64_w, i32_w]
       rfl
      refine pure_ (i := 7) (N := some 58) (v := ?_) (a' := ?_) #[true, true, true, true, true, true, true, true, false, false, false, false, false, false, false, false, false, false, false] rfl rfl (by kernel_rfl) (fun _ _ _ h => h) (Or.inl ⟨by rfl, ?_⟩) ?_ ?_
      rotate_left
      ·intro w'
       go_simp
       with_reducible rfl
      rotate_left
      ·simp only [Act.put, List.setIfInBounds_toArray, List.set_cons_zero, List.set_cons_succ, i64_w, i32_w]
       rfl
      refine pure_ (i := 8) (N := some 59) (v := ?_) (a' := ?_) #[true, true, true, true, true, true, true, true, true, false, false, false, false, false, false, false, false, false, false] rfl rfl (by kernel_rfl) (fun _ _ _ h => h) (Or.inl ⟨by rfl, ?_⟩) ?_ ?_
      rotate_left
      ·intro w'
       go_simp
       with_reducible rfl
      rotate_left
      ·simp only [Act.put, List.setIfInBounds_toArray, List.set_cons_zero, List.set_cons_succ, i64_w, i32_w]
       rfl
      refine pure_ (i := 10) (N := some 61) (v := ?_) (a' := ?_) #[true, true, true, true, true, true, true, true, true, false, true, false, false, false, false, false, false, false, false] rfl rfl (by kernel_rfl) (fun _ _ _ h => h) (Or.inl ⟨by rfl, ?_⟩) ?_ ?_
      rotate_left
      ·intro w'
       go_simp
       with_reducible rfl
      rotate_left
      ·simp only [Act.put, List.setIfInBounds_toArray, List.set_cons_zero, List.set_cons_succ, i64_w, i32_w]
       rfl
      refine pure_ (i := 11) (N := some 62) (v := ?_) (a' := ?_) #[true, true, true, true, true, true, true, true, true, false, true, true, false, false, false, false, false, false, false] rfl rfl (by kernel_rfl) (fun _ _ _ h => h) (Or.inl ⟨by rfl, ?_⟩) ?_ ?_
      rotate_left
      ·intro w'
       go_simp
       with_reducible rfl
      rotate_left
      ·simp only [Act.put, List.setIfInBounds_toArray, List.set_cons_zero, List.set_cons_succ, i64_w, i32_w]
       rfl
      refine pure_ (i := 12) (N := some 63) (v := ?_) (a' := ?_) #[true, true, true, true, true, true, true, true, true, false, true, true, true, false, false, false, false, false, false] rfl rfl (by kernel_rfl) (fun _ _ _ h => h) (Or.inl ⟨by rfl, ?_⟩) ?_ ?_
      rotate_left
      ·intro w'
       go_simp
       with_reducible rfl
      rotate_left
      ·simp only [Act.put, List.setIfInBounds_toArray, List.set_cons_zero, List.set_cons_succ, i64_w, i32_w]
       rfl
      refine pure_ (i := 13) (N := some 64) (v := ?_) (a' := ?_) #[true, true, true, true, true, true, true, true, true, false, true, true, true, true, false, false, false, false, false] rfl rfl (by kernel_rfl) (fun _ _ _ h => h) (Or.inl ⟨by rfl, ?_⟩) ?_ ?_
      rotate_left
      ·intro w'
       go_simp
       with_reducible rfl
      rotate_left
      ·simp only [Act.put, List.setIfInBounds_toArray, List.set_cons_zero, List.set_cons_succ, i64_w, i32_w]
       rfl
      refine take_ (i := 9) (N := some 60) (v := ?_) (a' := ?_) #[true, true, true, true, true, true, true, true, true, true, true, true, true, true, false, false, false, false, false] rfl rfl (by kernel_rfl) (fun _ _ _ h => h) (Or.inl ⟨by rfl, ?_⟩) hHeld ?_ ?_
      rotate_left
      ·rintro w' ⟨s0, s1⟩
       go_simp
       with_reducible rfl
      rotate_left
      ·simp only [Act.put, List.setIfInBounds_toArray, List.set_cons_zero, List.set_cons_succ, i64_w, i32_w]
       rfl
      refine take_ (i := 14) (N := some 65) (v := ?_) (a' := ?_) #[true, true, true, true, true, true, true, true, true, true, true, true, true, true, true, false, false, false, false] rfl rfl (by kernel_rfl) (fun _ _ _ h => h) (Or.inl ⟨by rfl, ?_⟩) hHeld ?_ ?_
      rotate_left
      ·rintro w' ⟨s0, s1⟩
       go_simp
       with_reducible rfl
      rotate_left
      ·simp only [Act.put, List.setIfInBounds_toArray, List.set_cons_zero, List.set_cons_succ, i64_w, i32_w]
       rfl
      refine one_ (i := 15) (N := some 66) #[true, true, true, true, true, true, true, true, true, true, true, true, true, true, true, true, false, false, false] rfl rfl (by kernel_rfl) (by decide) (fun K hK => ?_)
      refine goes_ Try.func64 (by kernel_rfl) rfl #[.complex .f64 r ri, .complex .f64 b1 b2] (by rfl) rfl rfl (by simp only [List.map_toArray, List.map_cons, List.map_nil]; rfl) ?_
      with_reducible refine (l01Times_calls r ri b1 b2 _).mono ?_
      rintro e w2 ⟨⟨v2, rfl, pr, pi, rfl, hr, hi⟩, n5, rfl⟩
      refine ⟨_, rfl, ?_⟩
      refine hK.out _ _ ⟨pw_cell_below DW2.out hx, pw_cell_below DW2.out hy⟩ (fun hHeld => ?_)
      clear hK K
      refine norm_ (a' := ?_) ?_ ?_
      rotate_left
      ·show Act.put _ (some 66) _ = _
       simp only [Act.put, List.setIfInBounds_toArray, List.set_cons_zero, List.set_cons_succ, i64_w, i32_w]
       rfl
      refine last_ (i := 16) (N := some 67) #[true, true, true, true, true, true, true, true, true, true, true, true, true, true, true, true, true, false, false] rfl rfl (by kernel_rfl) (by decide) (fun K hK => ?_)
      refine value_ (w1 := ?_) (v := ?_) (by rfl) rfl ?_ ?_
      rotate_left 2
      ·go_simp
       constructor
       ·rfl
       ·rfl
      refine hK.out _ _ ?_
      clear hK K
      refine norm_ (a' := ?_) ?_ ?_
      rotate_left
      ·show Act.put _ (some 67) _ = _
       simp only [Act.put, List.setIfInBounds_toArray, List.set_cons_zero, List.set_cons_succ, i64_w, i32_w]
       rfl
      refine pure_ (i := 17) (N := some 68) (v := ?_) (a' := ?_) #[true, true, true, true, true, true, true, true, true, true, true, true, true, true, true, true, true, true, false] rfl rfl (by kernel_rfl) (fun _ _ _ h => h) (Or.inl ⟨by rfl, ?_⟩) ?_ ?_
      rotate_left
      ·intro w'
       go_simp
       with_reducible rfl
      rotate_left
      ·simp only [Act.put, List.setIfInBounds_toArray, List.set_cons_zero, List.set_cons_succ, i64_w, i32_w]
       rfl
      refine last_ (i := 18) (N := none) #[true, true, true, true, true, true, true, true, true, true, true, true, true, true, true, true, true, true, true] rfl rfl (by kernel_rfl) (by decide) (fun K hK => ?_)
      obtain ⟨hx2, hfz⟩ := Kd.R_celln (enc := cxv) (h1 := fun _ => rfl) (0, 0) (TT.out.below DW2.out).rest p HP.out.2.1 (by have := HP.out; have := HN.out; have := GZ.out; omega)
      refine skip_ (w1 := ?_) (by rfl) rfl ?_ ?_
      rotate_left
      ·go_simp
       rfl
      refine hK.out _ _ ?_
      clear hK K
      refine done_ (by kernel_rfl) ?_
      obtain ⟨s, hs⟩ : ∃ s, fr .sub z1 pr (W2.drewN n5) = s := ⟨_, rfl⟩
      obtain ⟨si, hsi⟩ : ∃ s, fr .sub z2 pi (W2.drewN (n5 + fn .sub z1 pr)) = s := ⟨_, rfl⟩
      obtain ⟨n6, hn6⟩ : ∃ n6, n5 + fn .sub z1 pr + fn .sub z2 pi = n6 := ⟨_, rfl⟩
      rw [hs, hsi, hn6]
      have HST := Aside0.mk (show subE (z1, z2) (r, ri) (b1, b2) = if isFin s && isFin si then some (s, si) else none from subE_of (by rw [← hs, can_fr, hr]) (by rw [← hsi, can_fr, hi]))
      have T3 := Aside0.mk (((TT.out.below DW2.out).drewN n6).put p (s, si))
      obtain ⟨hx3, -⟩ := Kd.R_celln (enc := cxv) (h1 := fun _ => rfl) (0, 0) T3.out.rest p HP.out.2.1 (by have := HP.out; have := HN.out; omega)
      rw [rdOf_set zs p (s, si) HP.out.2.1 (by have := HP.out; have := HN.out; have := GZ.out; omega)] at hx3
      simp only [cxv] at hx3
      clear hr hi hs hsi hn6 hx hy TT
      go_wp2_with fail
      refine (l01Finite_calls s si _).mono ?_
      rintro e w4 ⟨rfl, n7, rfl⟩
      cases hg' : (isFin s && isFin si)
      ·have HXN := Aside0.mk (show X = none by have h := HSUB.out; rw [HST.out, hg'] at h; have h2 := KEY2.out; rw [← h] at h2; exact h2.symm)
       go_wp2
       go_ret3
       rw [HXN.out]
       exact ResT.none_ (by repeat (first | exact T3.out.low | refine pw_below_drewN ?_ _))
      ·have HSUB2 := Aside0.mk (show subAt (r, ri) qs b q (i + 1) (zs.set p.toNat (s, si)) = Y by have h := HSUB.out; rw [HST.out, hg', if_pos rfl] at h; exact h)
       have GZ2 := Aside0.mk (GZ.out.1.set p.toNat (z := (s, si)) hg' (subE_wo (HST.out.trans (by rw [hg']; rfl))))
       go_wp2_with fail
       go_roundg q
       case measure => omega
       case rel =>
        exact ⟨i + 1, by first | rfl | rw [hwi], ⟨⟨_, by repeat (first | exact T3.out | refine Two.drewN ?_ _), GZ2.out, by rw [List.length_set]; exact GZ.out.2, by have := HJ.out; omega, by have := HJ.out; have := HLL.out; omega, HSUB2.out⟩⟩⟩
     | zero =>
      have hl2 : decide (i + 1 < L) = false := decide_eq_false (by have := HLL.out; omega)
      have hwi : wrap64 (i + 1) = i + 1 := by have := HLL.out; exact w64 (by omega) (by omega)
      have hY : some zs = Y := hsub
      have KEY3 := Aside0.mk (show divS qs m (zs.take (zs.length - 1)) ((r, ri) :: quo) = X by have h := KEY2.out; rw [← hY] at h; exact h)
      have hnn : (N - 1).toNat = zs.length - 1 := by have := HNN.out; have := HN.out; omega
      have hzp : (N - 1).toNat ≤ zs.length := by omega
      have hlt : (zs.take (zs.length - 1)).length = (N - 1).toNat := by rw [List.length_take]; omega
      have T3 := Aside0.mk (ht.take hzp)
      have HE := Aside0.mk (And.intro hnn hlt)
      have GZ2 := Aside0.mk (hgz.take (zs.length - 1))
      obtain ⟨i0, hi1, -, -, -⟩ := info_parts info_cx
      have hcap : rs.length ≤ cap := by obtain ⟨A', c', e, h, _⟩ := Kd.R_reads ht.rest; injection e with _ e2 e3; omega
      have hsl := cut_to (P := Try.prog) 24 34 .i64 Try.underlying24 hi1 (some ⟨gb, 0, none⟩) rs.length cap (N - 1) (by have := HNN.out; omega) (by have := HNN.out; have := HN.out; omega) hcap
      clear hi1 hcap hlt hzp hnn hsub hY ht hgz hi0 hig hzl
      go_wp2_with fail
      clear hsl
      go_roundg m
      case measure => omega
      case rel =>
       have ht := T3.out
       rw [HE.out.1] at ht
       exact ⟨⟨zs.take (zs.length - 1), (r, ri) :: quo, by rw [show N.toNat - 1 = zs.length - 1 by have := HE.out.1; omega]; exact ht, KEY3.out, GZ2.out, GQ.out.cons HFT.out HTW.out, by rw [HE.out.2]; have := HNN.out; have := HGM.out; have := HLL.out; omega, by rw [HE.out.2]; have := HNN.out; have := HN.out; omega, by rw [List.length_cons]; have := HLQ.out; omega⟩⟩
  | zero =>
   have hl' : decide (N ≥ L) = false := decide_eq_false (by have := HLL.out; have := HN.out; omega)
   have HXE := Aside0.mk (show X = some (quo, rs) from HS.out.symm)
   obtain ⟨A1, c1, rfl, hc1, hC1⟩ := Kd.R_reads TT.out.rest
   obtain ⟨A2, c2, rfl, hc2, hC2⟩ := Kd.R_reads TT.out.quo
   have HC := Aside0.mk (And.intro hc2 (And.intro hC2 (And.intro hc1 hC1)))
   clear hc2 hC2 hc1 hC1 hg HS
   go_wp2
   go_ret3
   rw [HXE.out]
   exact ⟨A2, c2, A1, c1, rfl, HC.out.2.1, HC.out.1, HC.out.2.2.2, HC.out.2.2.1, TT.out.low, GR.out, by have := HN.out; show rs.length ≤ 30; omega⟩
end Go.Proofs.Ytdjkcpmoigemdaa
namespace Go.Proofs.Ytdjkcpmoigemdaa
open Go Ieee Go.RowKit Go.Proofs.Ytdjkcpmoigemdaa.Fl Go.Proofs.Ytdjkcpmoigemdaa.Fx Go.Proofs.Ytdjkcpmoigemdaa.P Go.Proofs.YtdjkcpmoigemdaaW.PrintWords Go.Proofs.YtdjkcpmoigemdaaW.PrintLast Go.Proofs.YtdjkcpmoigemdaaW.PrintMore
set_option linter.unusedVariables false
set_option linter.unusedSimpArgs false
def smal (t : Nat) (z : Nat × Nat) : Bool := FloatKind.f64.format.order (sz z.1 z.2) t == some .lt || FloatKind.f64.format.order (sz z.1 z.2) t == some .eq
def cutN (t : Nat) (xs : Cs) : Nat → Nat
 | 0 => 0
 | n + 1 => if smal t (at_ xs n) then cutN t xs n else n + 1
theorem cutN_le (t : Nat) (xs : Cs) : ∀ n, cutN t xs n ≤ n
 | 0 => Nat.le_refl _
 | n + 1 => by
  unfold cutN
  split
  ·exact Nat.le_trans (cutN_le t xs n) (Nat.le_succ n)
  ·exact Nat.le_refl _
def Tol (t : Nat) : Prop := isFin t = true ∧ 0 ≤ U t
theorem zero_smal {t : Nat} {z : Nat × Nat} (ht : Tol t) (h1 : isFin z.1 = true) (h2 : isFin z.2 = true) (h : zero_ z = true) : smal t z = true := by
 unfold zero_ isZ at h
 rw [Bool.and_eq_true, beq_iff_eq, beq_iff_eq] at h
 have f0 : isFin 0 = true := by decide
 have u0 : U 0 = 0 := by decide
 have u1 := (gt_U f0 h1).2.2.1 h.1
 have u2 := (gt_U f0 h2).2.2.1 h.2
 rw [u0] at u1 u2
 have a1 := U_abs h1
 have a2 := U_abs h2
 rw [u1] at a1
 rw [u2] at a2
 obtain ⟨s, e, _⟩ := add_U a1.1 a2.1
 rw [a1.2, a2.2] at e
 have hs := sz_some h1 h2
 rw [e] at hs
 have hs := Option.some.inj hs
 have hn := U_nearest s (m := 0) (p := -1074) (by decide) (by decide) (fun h => absurd rfl h)
 have e0 : ((0 : Int).natAbs : Int) + ((0 : Int).natAbs : Int) = 0 := rfl
 rw [e0] at hs
 rw [show (0 : Int).natAbs = 0 from rfl] at hs
 rw [hs] at hn
 have hu : U (sz z.1 z.2) = 0 := by
  rw [hn.2]
  cases s <;> simp [signed]
 have hg := gt_U ht.1 hn.1
 rw [hu] at hg
 unfold smal
 rcases Int.lt_or_eq_of_le ht.2 with h | h
 ·rw [hg.2.1.2 h]; rfl
 ·rw [hg.2.2.2 h]; rfl
theorem cutN_trim {t : Nat} {xs : Cs} (ht : Tol t) (hf : finL xs = true) : ∀ n, n ≤ xs.length → cutN t xs (trimN xs n) = cutN t xs n
 | 0, _ => rfl
 | n + 1, h => by
  have hx := fin_at hf n (by omega) (by omega)
  rw [Bool.and_eq_true] at hx
  unfold trimN
  cases hz : zero_ (at_ xs n)
  ·rfl
  ·rw [if_pos rfl, cutN_trim ht hf n (by omega)]
   show _ = (if smal t (at_ xs n) then cutN t xs n else n + 1)
   rw [show smal t (at_ xs n) = true from zero_smal ht hx.1 hx.2 hz, if_pos rfl]
theorem cutN_last {t : Nat} {xs : Cs} (ht : Tol t) (hf : finL xs = true) : ∀ n, n ≤ xs.length → ∀ m, cutN t xs n = m + 1 → zero_ (at_ xs m) = false
 | 0, _, m, e => by cases e
 | n + 1, h, m, e => by
  unfold cutN at e
  cases hs : smal t (at_ xs n)
  ·rw [hs] at e
   have e1 : n = m := Nat.succ.inj e
   subst e1
   have hx := fin_at hf n (by omega) (by omega)
   rw [Bool.and_eq_true] at hx
   cases hz : zero_ (at_ xs n)
   ·rfl
   ·exact absurd (show smal t (at_ xs n) = true from zero_smal ht hx.1 hx.2 hz) (by rw [hs]; decide)
  ·rw [hs, if_pos rfl] at e
   exact cutN_last ht hf n (by omega) m e
theorem divS_len (q : Cs) : ∀ (k : Nat) (xs quo : Cs) (p : Cs × Cs), divS q k xs quo = some p → p.2.length = xs.length - k
 | 0, xs, quo, p, h => by cases h; rfl
 | k + 1, xs, quo, p, h => by
  unfold divS at h
  obtain ⟨t, _, h2⟩ := Option.bind_eq_some_iff.1 h
  obtain ⟨ys, h3, h4⟩ := Option.bind_eq_some_iff.1 h2
  have h5 := divS_len q k _ _ p h4
  have h6 := subAt_len _ _ _ _ _ _ _ h3
  rw [h5, List.length_take]
  omega
theorem divS_good (q : Cs) : ∀ (k : Nat) (xs quo : Cs) (p : Cs × Cs), Good xs → divS q k xs quo = some p → Good p.2
 | 0, xs, quo, p, hg, h => by cases h; exact hg
 | k + 1, xs, quo, p, hg, h => by
  unfold divS at h
  obtain ⟨t, _, h2⟩ := Option.bind_eq_some_iff.1 h
  obtain ⟨ys, h3, h4⟩ := Option.bind_eq_some_iff.1 h2
  exact divS_good q k _ _ p ((subAt_good _ _ _ _ _ _ _ hg h3).take _) h4
theorem divP_len {p q : Cs} {r : Cs × Cs} (h : divP p q = some r) (hq : 1 ≤ q.length) : r.2.length < q.length := by
 have := divS_len q _ _ _ _ h
 omega
def monX (b : Cs) : Cs × Int := match monL b with
 | some zs => (zs, 0)
 | none => ([], 3)
def comG (t : Nat) : Nat → Cs → Cs → Cs × Int
 | 0, _, _ => ([one_n], 0)
 | k + 1, a, b => if b.length ≤ 1 then ([one_n], 0) else match divP a b with
  | none => ([], 3)
  | some p => if cutN t p.2 p.2.length = 0 then monX b else comG t k b (p.2.take (cutN t p.2 p.2.length))
def comP (p q : Cs) (t : Nat) : Cs × Int :=
 if polyB p then (if polyB q then (if isFin t then (if FloatKind.f64.format.order t 0 == some .lt then ([], 2) else if FloatKind.f64.format.order t 4607182418800017408 == some .gt then ([], 2) else comG t q.length p q) else ([], 1)) else ([], 1)) else ([], 1)
theorem lastZ_take {xs : Cs} {m : Nat} (h0 : 1 ≤ m) (hm : m ≤ xs.length) (h : zero_ (at_ xs (m - 1 : Nat)) = false) : lastZ (xs.take m) = false := by
 unfold lastZ
 rw [List.length_take, Nat.min_eq_left hm]
 have e : at_ (xs.take m) ((m : Int) - 1) = at_ xs (m - 1 : Nat) := by
  show (xs.take m).getD ((m : Int) - 1).toNat (0, 0) = xs.getD ((m - 1 : Nat) : Int).toNat (0, 0)
  rw [show ((m : Int) - 1).toNat = m - 1 by omega, Int.toNat_natCast, List.getD_eq_getElem?_getD, List.getD_eq_getElem?_getD, List.getElem?_take_of_lt (by omega)]
 rw [e]
 exact h
end Go.Proofs.Ytdjkcpmoigemdaa
namespace Go.Proofs.Ytdjkcpmoigemdaa
open Go Ieee Go.RowKit Go.Proofs.Ytdjkcpmoigemdaa.Fl Go.Proofs.Ytdjkcpmoigemdaa.Fx Go.Proofs.Ytdjkcpmoigemdaa.P Go.Proofs.YtdjkcpmoigemdaaW.PrintWords Go.Proofs.YtdjkcpmoigemdaaW.PrintLast Go.Proofs.YtdjkcpmoigemdaaW.PrintMore
set_option linter.unusedVariables false
set_option linter.unusedSimpArgs false
attribute [local go_sem] run_add run_sub run_mul run_quo run_cadd run_csub run_neg run_cneg conv_f run_store_cx
theorem sizeOf5_calls (a b : Nat) (la : a < 2 ^ 64) (lb : b < 2 ^ 64) (w : World) : Calls Try.prog 33 #[.complex .f64 a b] w fun e w' => (∃ v, e = .returned (.float .f64 v) ∧ (isFin a = true → isFin b = true → v = sz a b)) ∧ ∃ n, w' = w.drewN n := by
 go_enter Try.func33, Try.ntmps33
 go_wp2_with fail
 refine (abs_calls a la w).mono ?_
 rintro e w1 ⟨rfl, rfl⟩
 go_wp2_with fail
 refine (abs_calls b lb _).mono ?_
 rintro e w1 ⟨rfl, rfl⟩
 go_wp2
 go_ret
 exact ⟨⟨_, rfl, fun ha hb => fr_of' (sz_some ha hb) _⟩, _, rfl⟩
structure ComAt (X : Cs × Int) (t : Nat) (w w' : World) (v u : Value) (g : Nat) : Prop where
 at_ : ∃ A ca ys B cb bs, v = .slice A ys.length ca ∧ u = .slice B bs.length cb ∧ cxk.C w' A ys.length ys ∧ cxk.C w' B bs.length bs ∧ bs.length ≤ cb ∧ Good ys ∧ Good bs ∧ ys.length ≤ 13 ∧ bs.length ≤ 13 ∧ 1 ≤ bs.length ∧ lastZ bs = false ∧ comG t g ys bs = X ∧ bs.length ≤ g ∧ Below w.heap.size w w'
theorem Own.one_last {w w' : World} (h : Below w.heap.size w w') (z : Nat × Nat) : ∃ A c, Value.slice (some ⟨w'.heap.size, 0, none⟩) 1 1 = .slice A [z].length c ∧ cxk.C (w'.alloc (.cells #[.complex .f64 z.1 z.2] 34)) A [z].length [z] ∧ [z].length ≤ c ∧ Below w.heap.size w (w'.alloc (.cells #[.complex .f64 z.1 z.2] 34)) := by
 have ho := Own.one h z
 obtain ⟨A, c, e, h1, h2⟩ := ho.reads
 exact ⟨A, c, e, h2, h1, ho.low⟩
theorem comP_a {p q : Cs} {t : Nat} (h : polyB p = false) : comP p q t = ([], 1) := by unfold comP; rw [h]; rfl
theorem comP_b {p q : Cs} {t : Nat} (h1 : polyB p = true) (h : polyB q = false) : comP p q t = ([], 1) := by unfold comP; rw [h1, h]; rfl
theorem comP_c {p q : Cs} {t : Nat} (h1 : polyB p = true) (h2 : polyB q = true) (h : isFin t = false) : comP p q t = ([], 1) := by unfold comP; rw [h1, h2, h]; rfl
theorem comP_d {p q : Cs} {t : Nat} (h1 : polyB p = true) (h2 : polyB q = true) (h3 : isFin t = true) (h : (FloatKind.f64.format.order t 0 == some .lt) = true) : comP p q t = ([], 2) := by unfold comP; rw [h1, h2, h3, h]; rfl
theorem comP_e {p q : Cs} {t : Nat} (h1 : polyB p = true) (h2 : polyB q = true) (h3 : isFin t = true) (h4 : (FloatKind.f64.format.order t 0 == some .lt) = false) (h : (FloatKind.f64.format.order t 4607182418800017408 == some .gt) = true) : comP p q t = ([], 2) := by unfold comP; rw [h1, h2, h3, h4, h]; rfl
theorem comP_f {p q : Cs} {t : Nat} (h1 : polyB p = true) (h2 : polyB q = true) (h3 : isFin t = true) (h4 : (FloatKind.f64.format.order t 0 == some .lt) = false) (h : (FloatKind.f64.format.order t 4607182418800017408 == some .gt) = false) : comP p q t = comG t q.length p q := by unfold comP; rw [h1, h2, h3, h4, h]; rfl
theorem tol_of {t : Nat} (h : isFin t = true) (h2 : (FloatKind.f64.format.order t 0 == some .lt) = false) : Tol t := by
 refine ⟨h, ?_⟩
 rw [lt_zero h] at h2
 have := of_decide_eq_false h2
 omega
set_option maxRecDepth 100000 in
set_option maxHeartbeats 8000000 in
theorem CommonPart_calls (A B : Option Addr) (c d : Nat) (ps qs : Cs) (t : Nat) (w : World) (hr : cxk.C w A ps.length ps) (hr2 : cxk.C w B qs.length qs) (hl : ps.length ≤ 1000000000) (hl2 : qs.length ≤ 1000000000) (hd : qs.length ≤ d) (wp : Wo ps) (wq : Wo qs) : Calls Try.prog 7 #[.slice A ps.length c, .slice B qs.length d, .float .f64 t] w fun e w' => Res w (comP ps qs t) e w' := by
 have HR := Aside0.mk hr; have HR2 := Aside0.mk hr2; have HL := Aside0.mk hl; have HL2 := Aside0.mk hl2; have HD := Aside0.mk hd; have WP := Aside0.mk wp; have WQ := Aside0.mk wq
 clear hr hr2 hl hl2 hd wp wq
 cases h1 : polyB ps
 ·rw [comP_a h1]
  go_enter Try.func7, Try.ntmps7
  go_wp2_with fail
  refine (IsPolynomial_calls A c ps _ HR.out HL.out).mono ?_
  rintro e w1 ⟨rfl, n1, rfl⟩
  rw [h1]
  go_wp2
  go_ret2
  exact Res.none_ (by repeat (first | exact Below.refl _ _ | refine pw_below_drewN ?_ _))
 cases h2 : polyB qs
 ·rw [comP_b h1 h2]
  go_enter Try.func7, Try.ntmps7
  go_wp2_with fail
  refine (IsPolynomial_calls A c ps _ HR.out HL.out).mono ?_
  rintro e w1 ⟨rfl, n1, rfl⟩
  rw [h1]
  go_wp2_with fail
  refine (IsPolynomial_calls B d qs _ (Kd.C_drewN HR2.out _) HL2.out).mono ?_
  rintro e w1 ⟨rfl, n2, rfl⟩
  rw [h2]
  go_wp2
  go_ret2
  exact Res.none_ (by repeat (first | exact Below.refl _ _ | refine pw_below_drewN ?_ _))
 cases h3 : isFin t
 ·rw [comP_c h1 h2 h3]
  go_enter Try.func7, Try.ntmps7
  go_wp2_with fail
  refine (IsPolynomial_calls A c ps _ HR.out HL.out).mono ?_
  rintro e w1 ⟨rfl, n1, rfl⟩
  rw [h1]
  go_wp2_with fail
  refine (IsPolynomial_calls B d qs _ (Kd.C_drewN HR2.out _) HL2.out).mono ?_
  rintro e w1 ⟨rfl, n2, rfl⟩
  rw [h2]
  go_wp2_with fail
  refine (isReal_calls t _).mono ?_
  rintro e w1 ⟨rfl, n3, rfl⟩
  rw [h3]
  go_wp2
  go_ret2
  exact Res.none_ (by repeat (first | exact Below.refl _ _ | refine pw_below_drewN ?_ _))
 cases h4 : (FloatKind.f64.format.order t 0 == some .lt)
 case true =>
  rw [comP_d h1 h2 h3 h4]
  go_enter Try.func7, Try.ntmps7
  go_wp2_with fail
  refine (IsPolynomial_calls A c ps _ HR.out HL.out).mono ?_
  rintro e w1 ⟨rfl, n1, rfl⟩
  rw [h1]
  go_wp2_with fail
  refine (IsPolynomial_calls B d qs _ (Kd.C_drewN HR2.out _) HL2.out).mono ?_
  rintro e w1 ⟨rfl, n2, rfl⟩
  rw [h2]
  go_wp2_with fail
  refine (isReal_calls t _).mono ?_
  rintro e w1 ⟨rfl, n3, rfl⟩
  rw [h3]
  go_wp2
  go_ret2
  exact Res.none_ (by repeat (first | exact Below.refl _ _ | refine pw_below_drewN ?_ _))
 cases h5 : (FloatKind.f64.format.order t 4607182418800017408 == some .gt)
 case true =>
  rw [comP_e h1 h2 h3 h4 h5]
  go_enter Try.func7, Try.ntmps7
  go_wp2_with fail
  refine (IsPolynomial_calls A c ps _ HR.out HL.out).mono ?_
  rintro e w1 ⟨rfl, n1, rfl⟩
  rw [h1]
  go_wp2_with fail
  refine (IsPolynomial_calls B d qs _ (Kd.C_drewN HR2.out _) HL2.out).mono ?_
  rintro e w1 ⟨rfl, n2, rfl⟩
  rw [h2]
  go_wp2_with fail
  refine (isReal_calls t _).mono ?_
  rintro e w1 ⟨rfl, n3, rfl⟩
  rw [h3]
  go_wp2
  go_ret2
  exact Res.none_ (by repeat (first | exact Below.refl _ _ | refine pw_below_drewN ?_ _))
 rw [comP_f h1 h2 h3 h4 h5]
 obtain ⟨X, hX⟩ : ∃ X, comG t qs.length ps qs = X := ⟨_, rfl⟩
 rw [hX]
 have HX := Aside0.mk hX
 have P1 := Aside0.mk (polyB_of h1); have P2 := Aside0.mk (polyB_of h2)
 have HT := Aside0.mk (tol_of h3 h4)
 clear hX
 go_enter Try.func7, Try.ntmps7
 go_wp2_with fail
 refine (IsPolynomial_calls A c ps _ HR.out HL.out).mono ?_
 rintro e w1 ⟨rfl, n1, rfl⟩
 rw [h1]
 go_wp2_with fail
 refine (IsPolynomial_calls B d qs _ (Kd.C_drewN HR2.out _) HL2.out).mono ?_
 rintro e w1 ⟨rfl, n2, rfl⟩
 rw [h2]
 go_wp2_with fail
 refine (isReal_calls t _).mono ?_
 rintro e w1 ⟨rfl, n3, rfl⟩
 rw [h3]
 clear h1 h2 h3
 go_wp2_with fail
 go_loopg [8, 9] qs.length (fun g v u w' => Aside0 (ComAt X t w w' v u g))
 case atStart => exact ⟨⟨A, c, ps, B, d, qs, rfl, rfl, by repeat (first | exact HR.out | refine Kd.C_drewN ?_ _), by repeat (first | exact HR2.out | refine Kd.C_drewN ?_ _), HD.out, ⟨P1.out.2.2.1, WP.out⟩, ⟨P2.out.2.2.1, WQ.out⟩, P1.out.2.1, P2.out.2.1, by have := P2.out.1; omega, P2.out.2.2.2, HX.out, Nat.le_refl _, by repeat (first | exact Below.refl _ _ | refine pw_below_drewN ?_ _)⟩⟩
 case round =>
  obtain ⟨A, ca, ys, B, cb, bs, rfl, rfl, hA, hB, hcb, ga, gb, la, lb, lb1, hz, hx, hg, hlow⟩ := hrel.out.at_
  clear hrel
  have HA := Aside0.mk hA; have HB := Aside0.mk (And.intro hB hcb); have GA := Aside0.mk ga; have GB := Aside0.mk gb
  have HLL := Aside0.mk (show ys.length ≤ 13 ∧ bs.length ≤ 13 ∧ 1 ≤ bs.length from ⟨la, lb, lb1⟩)
  have HZ := Aside0.mk hz; have HS := Aside0.mk hx; have LOW := Aside0.mk hlow; have HG := Aside0.mk hg
  obtain ⟨L, hL⟩ : ∃ L : Int, (bs.length : Int) = L := ⟨_, rfl⟩
  have HLI := Aside0.mk hL
  clear hA hB hcb ga gb la lb lb1 hz hx hlow hg
  by_cases hone : bs.length ≤ 1
  case pos =>
   have hl' : decide (L > 1) = false := decide_eq_false (by omega)
   have HXE := Aside0.mk (show X = ([one_n], 0) by rw [← HS.out]; cases gk with
    | zero => rfl
    | succ m => unfold comG; rw [if_pos hone])
   obtain ⟨B1, d1, e1, k1, k2, k3⟩ := Own.one_last LOW.out one_n
   have HK := Aside0.mk (And.intro e1 (And.intro k1 (And.intro k2 k3)))
   clear hone e1 k1 k2 k3
   go_wp2
   go_ret2
   rw [HXE.out]
   exact ⟨B1, d1, by rw [← HK.out.1]; rfl, HK.out.2.1, HK.out.2.2.1, HK.out.2.2.2⟩
  have hl' : decide (L > 1) = true := decide_eq_true (by omega)
  cases gk with
  | zero => exact absurd HG.out (by have := HLL.out; omega)
  | succ m =>
   have KEY := Aside0.mk (show (match divP ys bs with | none => ([], 3) | some p => if cutN t p.2 p.2.length = 0 then monX bs else comG t m bs (p.2.take (cutN t p.2 p.2.length)) : Cs × Int) = X by
    have h := HS.out
    unfold comG at h
    rw [if_neg hone] at h
    exact h)
   clear HS hone
   cases hd : divP ys bs with
   | none =>
    have HXE := Aside0.mk (show X = ([], 3) by have h := KEY.out; rw [hd] at h; exact h.symm)
    go_wp2_with fail
    refine (division_calls A B ca cb ys bs _ HA.out HB.out.1 (by have := HLL.out; omega) HLL.out.2.2 (by have := HLL.out; omega) HB.out.2 GA.out GB.out).mono ?_
    rw [hd]
    rintro e w2 ⟨rfl, hb⟩
    replace LOW := Aside0.mk (LOW.out.trans (hb.mono LOW.out.size))
    clear hb hd
    go_wp2
    go_ret2
    rw [HXE.out]
    exact Res.none_ LOW.out
   | some p =>
    obtain ⟨quo, rs⟩ := p
    have KEY2 := Aside0.mk (show (if cutN t rs rs.length = 0 then monX bs else comG t m bs (rs.take (cutN t rs rs.length))) = X by have h := KEY.out; rw [hd] at h; exact h)
    have HRL := Aside0.mk (show rs.length < bs.length from divP_len hd HLL.out.2.2)
    have GR := Aside0.mk (show Good rs from divS_good _ _ _ _ _ GA.out hd)
    clear KEY
    go_wp2_with fail
    refine (division_calls A B ca cb ys bs _ HA.out HB.out.1 (by have := HLL.out; omega) HLL.out.2.2 (by have := HLL.out; omega) HB.out.2 GA.out GB.out).mono ?_
    rw [hd]
    rintro e w2 ⟨A2, c2, A3, c3, rfl, k1, k2, k3, k4, hb⟩
    obtain ⟨w9, hw9⟩ : ∃ w9, w9 = w2 := ⟨_, rfl⟩
    subst hw9
    have HC := Aside0.mk (show cxk.C w9 A3 (trimL rs).length (trimL rs) ∧ (trimL rs).length ≤ c3 from ⟨k3, k4⟩)
    replace LOW := Aside0.mk (LOW.out.trans (hb.mono LOW.out.size))
    replace HB := Aside0.mk (And.intro (Kd.C_below HB.out.1 hb) HB.out.2)
    obtain ⟨T, hT⟩ : ∃ T, cutN t rs rs.length = T := ⟨_, rfl⟩
    have HT2 := Aside0.mk (show cutN t rs (trimL rs).length = T by rw [trimL_len, cutN_trim HT.out GR.out.1 _ (Nat.le_refl _)]; exact hT)
    rw [hT] at KEY2
    have HTL := Aside0.mk (show T ≤ rs.length ∧ (trimL rs).length ≤ rs.length from ⟨hT ▸ cutN_le _ _ _, by rw [trimL_len]; exact trimN_le _ _⟩)
    have HTZ := Aside0.mk (show ∀ m, T = m + 1 → zero_ (at_ rs m) = false from fun m e => cutN_last HT.out GR.out.1 _ (Nat.le_refl _) m (hT.trans e))
    have HAT := Aside0.mk (show ∀ n : Nat, n < (trimL rs).length → at_ (trimL rs) n = at_ rs n from fun n hn => by
     show (rs.take _).getD (n : Int).toNat (0, 0) = rs.getD (n : Int).toNat (0, 0)
     rw [Int.toNat_natCast, List.getD_eq_getElem?_getD, List.getD_eq_getElem?_getD, List.getElem?_take_of_lt (by rw [trimL_len] at hn; exact hn)])
    clear k1 k2 k3 k4 hb hd hT
    go_wp2_with fail
    go_loopg [11, 13] (trimL rs).length (fun g v u w' => v = .slice A3 g c3 ∧ u = .int .i64 (g : Int) ∧ Aside0 (cutN t rs g = T ∧ g ≤ (trimL rs).length ∧ Below w9.heap.size w9 w'))
    case atStart => exact ⟨rfl, rfl, ⟨HT2.out, Nat.le_refl _, Below.refl _ _⟩⟩
    case round =>
     obtain ⟨rfl, rfl, hj⟩ := hrel
     have HJ := Aside0.mk hj.out
     clear hj
     have LO2 := Aside0.mk (LOW.out.trans (HJ.out.2.2.mono LOW.out.size))
     cases gk with
     | zero =>
      have hT0 : T = 0 := HJ.out.1.symm
      have hl2 : decide (((0 : Nat) : Int) > 0) = false := rfl
      have hnil : (((0 : Nat) : Int) == 0) = true := rfl
      have HXE := Aside0.mk (show monX bs = X by have h := KEY2.out; rw [hT0, if_pos rfl] at h; exact h)
      clear hT0
      go_wp2_with fail
      refine (monic_calls B cb bs _ (Kd.C_below HB.out.1 HJ.out.2.2) HLL.out.2.1 HLL.out.2.2 HB.out.2 (words_at GB.out.2 _ (by have := HLL.out; omega) (by omega))).mono ?_
      rintro e w4 ⟨v, zs, rfl, ho, hzl, hm⟩
      have HO := Aside0.mk (ho.lower LO2.out)
      have HXZ := Aside0.mk (show (match (if finL zs then some zs else none : Option Cs) with | some zs => (zs, 0) | none => (([], 3) : Cs × Int)) = X by rw [← hm]; exact HXE.out)
      have HZL := Aside0.mk hzl
      clear ho hzl hm
      obtain ⟨B5, d5, rfl, hd5, hB5⟩ := HO.out.reads
      have H5 := Aside0.mk (And.intro hd5 hB5)
      clear hd5 hB5
      cases hf : finL zs
      ·have HXF := Aside0.mk (show X = ([], 3) by rw [← HXZ.out, hf]; rfl)
       go_wp2_with fail
       refine (listOr_calls B5 d5 zs _ H5.out.2 (by have := HZL.out; have := HLL.out; omega)).mono ?_
       rintro e w5 ⟨rfl, n5, rfl⟩
       rw [hf]
       go_wp2
       all_goals
        go_ret2
        rw [HXF.out]
        exact Res.none_ (by repeat (first | exact HO.out.low | refine pw_below_drewN ?_ _))
      ·have HXF := Aside0.mk (show X = (zs, 0) by rw [← HXZ.out, hf]; rfl)
       go_wp2_with fail
       refine (listOr_calls B5 d5 zs _ H5.out.2 (by have := HZL.out; have := HLL.out; omega)).mono ?_
       rintro e w5 ⟨rfl, n5, rfl⟩
       rw [hf]
       go_wp2
       go_ret2
       rw [HXF.out]
       exact ⟨B5, d5, rfl, by repeat (first | exact H5.out.2 | refine Kd.C_drewN ?_ _), H5.out.1, by repeat (first | exact HO.out.low | refine pw_below_drewN ?_ _)⟩
     | succ n =>
      obtain ⟨k1, hk1⟩ : ∃ k1 : Nat, n + 1 = k1 := ⟨_, rfl⟩
      rw [hk1]
      have HK1 := Aside0.mk hk1
      obtain ⟨N, hN⟩ : ∃ N : Int, (k1 : Int) = N := ⟨_, rfl⟩
      have HN := Aside0.mk (show (k1 : Int) = N ∧ 1 ≤ N ∧ N ≤ 13 ∧ N - 1 = (n : Int) by have := HJ.out; have := HTL.out; have := HRL.out; have := HLL.out; omega)
      clear hk1
      have hl2 : decide (N > 0) = true := decide_eq_true (by have := HN.out; omega)
      obtain ⟨ad, rfl, hx⟩ := cx_at (Kd.C_below HC.out.1 HJ.out.2.2) (n : Int) (by omega) (by have := HJ.out; omega)
      rw [show rdOf (0, 0) (trimL rs) (n : Int) = at_ rs n from HAT.out n (by have := HJ.out; omega), show (n : Int).toNat = N.toNat - 1 by have := HN.out; omega] at hx
      obtain ⟨⟨x1, x2⟩, hxx⟩ : ∃ z, at_ rs n = z := ⟨_, rfl⟩
      have hgx := GR.out.at_ (n : Int) (by omega) (by have := HJ.out; have := HTL.out; omega)
      rw [show rdOf (0, 0) rs (n : Int) = (x1, x2) from hxx] at hgx
      rw [hxx] at hx
      have GX := Aside0.mk hgx
      have hcut := HJ.out.1
      unfold cutN at hcut
      rw [hxx] at hcut
      have hw : wrap64 (N - 1) = N - 1 := by have := HN.out; exact w64 (by omega) (by omega)
      have p0 : 0 < N := by have := HN.out; omega
      have p1 : N ≤ 13 := HN.out.2.2.1
      have q0 := eq_true (show 1 ≤ N by omega)
      have q1 := eq_true (show N - 1 < N by omega)
      have HXX := Aside0.mk hxx
      clear hxx hgx
      cases hs : smal t (x1, x2)
      ·have HTE := Aside0.mk (show T = n + 1 by rw [hs] at hcut; exact hcut.symm)
       have hne : (N == 0) = false := by simp; omega
       have HS2 := Aside0.mk hs
       unfold smal at hs
       clear hcut
       go_wp2_with fail
       refine (sizeOf5_calls x1 x2 GX.out.2.1 GX.out.2.2 _).mono ?_
       rintro e w5 ⟨⟨v, rfl, hv⟩, n5, rfl⟩
       have hv2 := hv GX.out.1.1 GX.out.1.2
       subst hv2
       clear hv
       go_wp2_with fail
       go_roundg m
       case measure => omega
       case rel =>
        have hT1 := HTE.out
        have hTl := HTL.out
        have hk : rs.take T = (trimL rs).take T := by
         unfold trimL
         rw [List.take_take, Nat.min_eq_left (by have := HJ.out; rw [trimL_len] at this; omega)]
        have hlen : (rs.take T).length = T := by rw [List.length_take]; omega
        refine ⟨⟨B, cb, bs, some ad, c3, rs.take T, rfl, by rw [hlen, hT1, HK1.out], ?_, ?_, by rw [hlen]; have := HC.out.2; have := HJ.out; omega, GB.out, GR.out.take T, HLL.out.2.1, by rw [hlen]; have := HRL.out; have := HLL.out; omega, by rw [hlen]; omega, lastZ_take (by omega) hTl.1 (by rw [show T - 1 = n by omega]; exact HTZ.out n hT1), ?_, by rw [hlen]; have := HRL.out; have := HG.out; omega, by repeat (first | exact LO2.out | refine pw_below_drewN ?_ _)⟩⟩
        ·repeat (first | exact Kd.C_below HB.out.1 HJ.out.2.2 | refine Kd.C_drewN ?_ _)
        ·rw [hk]
         have hct := Kd.C_take (Kd.C_below HC.out.1 HJ.out.2.2) (m := T) (by have := HJ.out; omega)
         repeat (first | exact hct | refine Kd.C_drewN ?_ _)
        ·have h := KEY2.out
         rw [if_neg (by omega)] at h
         exact h
      ·have HCT := Aside0.mk (show cutN t rs n = T by rw [hs, if_pos rfl] at hcut; exact hcut)
       unfold smal at hs
       obtain ⟨i0, hi1, -, -, -⟩ := info_parts info_cx
       have hsl := cut_to (P := Try.prog) 24 34 .i64 Try.underlying24 hi1 (some ad) k1 c3 (N - 1) (by omega) (by have := HN.out; omega) (by have := HC.out.2; have := HJ.out; have := HK1.out; omega)
       rw [show (N - 1).toNat = n by have := HN.out; omega] at hsl
       clear hcut hi1
       go_wp2_with fail
       refine (sizeOf5_calls x1 x2 GX.out.2.1 GX.out.2.2 _).mono ?_
       rintro e w5 ⟨⟨v, rfl, hv⟩, n5, rfl⟩
       have hv2 := hv GX.out.1.1 GX.out.1.2
       subst hv2
       clear hv
       go_wp2_with fail
       clear hsl
       go_roundg n
       case measure => omega
       case rel => exact ⟨rfl, rfl, ⟨HCT.out, by have := HJ.out; omega, by repeat (first | exact HJ.out.2.2 | refine pw_below_drewN ?_ _)⟩⟩
end Go.Proofs.Ytdjkcpmoigemdaa
