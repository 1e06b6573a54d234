/- The law FnExactDivideWholes: it answers true at every argument. -/
import Derived.Test.YtghhphndbbefjaaDoorG18
import Derived.Test.YtghhphndbbefjaaDoorPurDivMod
import Derived.Test.YtghhphndbbefjaaDoorWkDivideWholes
import Derived.Test.YtghhphndbbefjaaDoorX3
import Derived.Test.YtghhphndbbefjaaDoorBnd10
namespace Go.Proofs.YtghhphndbbefjaaDoor.Pur
open Go.RowKit Go.Proofs.YtghhphndbbefjaaDoor Go.Proofs.YtghhphndbbefjaaDoor.Big Go.Proofs.YtghhphndbbefjaaDoor.X Go.Proofs.YtghhphndbbefjaaDoorW.PrintWords Go.Proofs.YtghhphndbbefjaaDoorW.PrintLast Go.Proofs.YtghhphndbbefjaaDoor.Math
set_option linter.unusedVariables false
set_option linter.unusedSimpArgs false
theorem ev_one {α : Type} {F : Nat → Option α} {r : α} (h : Ev F r) : ∃ k, F k = some r := let ⟨K, hK⟩ := h; ⟨K, hK K (Nat.le_refl K)⟩
theorem dm_len1 {n : Nat} (h : n ≤ 200) : wrap64 ((n : Int) + 1) = ((n + 1 : Nat) : Int) := by rw [w64s (by omega) (by omega)]; omega
theorem dm_lenk {n : Nat} (h : n ≤ 4800) : wrap64 ((n : Int) - 1) = (n : Int) - 1 := w64s (by omega) (by omega)
theorem dm_blen {s : Int} {l : List Int} (h : CW s l) : lv l < 2 ^ blen (wv s l) := by
 have h0 := lv_nonneg h.ok
 have h1 : (lv l).natAbs < 2 ^ blen (lv l) := blen_le.1 (Nat.le_refl _)
 rw [blen_wv h]
 have e : ((2 ^ blen (lv l) : Nat) : Int) = 2 ^ blen (lv l) := by norm_cast
 rw [← e]
 generalize 2 ^ blen (lv l) = p at h1 ⊢
 omega
theorem dm_kk {s : Int} {l : List Int} (h : CW s l) : blen (wv s l) ≤ 24 * l.length := by
 rw [blen_wv h]
 refine (limbs_len_iff _ _).1 ?_
 refine limbs_length_le ?_
 have h0 := lv_nonneg h.ok
 have h1 := lv_lt h.ok
 have c := lpow_cast l.length
 generalize (16777216 : Nat) ^ l.length = p at c ⊢
 generalize (16777216 : Int) ^ l.length = r at c h1
 omega
theorem l02DivMod {s t : Int} {l m : List Int} (h : CW s l) (g : CW t m) (hl : l.length ≤ 200) (hm : m.length ≤ 200) (hne : m ≠ []) :
  Ev (fun k => spec_l02DivMod.f k s l t m) ((cn (s * t * (lv l / lv m))).1, (cn (s * t * (lv l / lv m))).2, (cn (s * (lv l % lv m))).1, (cn (s * (lv l % lv m))).2) := by
 unfold spec_l02DivMod.f
 have hk := dm_kk h
 have e1 := dm_len1 hm
 have e2 := dm_lenk (n := blen (wv s l)) (by omega)
 simp only [e1, Int.toNat_natCast]
 simp only [if_pos (show (0 : Int) ≤ ((m.length + 1 : Nat) : Int) from Int.natCast_nonneg _), if_pos (show m.length + 1 ≤ 35184372088832 from Nat.le_trans (Nat.succ_le_succ hm) (by decide)), if_pos (show (0 : Int) ≤ ((l.length : Nat) : Int) from Int.natCast_nonneg _), if_pos (show l.length ≤ 35184372088832 from Nat.le_trans hl (by decide))]
 refine Ev.bind (l02Length h (Nat.le_trans hl (by decide))) ?_
 rw [e2]
 exact dm_main h g hl hm hne _ _ _ hk (BitDiv.start _ _ (lv_nonneg h.ok) (dm_blen h))
theorem dm_sign {s t a b : Int} (hs : s = -1 ∨ s = 0 ∨ s = 1) (ht : t = -1 ∨ t = 1) (ha : 0 ≤ a) (hb : 0 < b) : s * t * (a / b) = Int.tdiv (s * a) (t * b) ∧ s * (a % b) = Int.tmod (s * a) (t * b) := by
 have e1 : Int.tdiv a b = a / b := Int.tdiv_eq_ediv_of_nonneg ha
 have e2 : Int.tmod a b = a % b := Int.tmod_eq_emod_of_nonneg ha
 rcases hs with rfl | rfl | rfl <;> rcases ht with rfl | rfl <;> simp [Int.neg_tdiv, Int.tdiv_neg, Int.neg_tmod, Int.tmod_neg, e1, e2]
theorem specDivideWholes (s : Int) (l : List Int) (t : Int) (m : List Int) (hl : l.length ≤ 1000000000) (hm : m.length ≤ 1000000000) : Ev (fun k => spec_DivideWholes.f k s l t m) (divres s l t m) := by
 unfold spec_DivideWholes.f divres
 refine Ev.bind (l02Both s l t m hl hm) ?_
 cases h : isW s l
 ·exact Ev.now _
 ·cases g : isW t m
  ·exact Ev.now _
  ·simp only [Bool.and_self, if_true]
   by_cases h0 : t = 0
   ·simp only [if_pos h0]
    exact Ev.now _
   ·simp only [if_neg h0]
    have ch := isW_cw h
    have cg := isW_cw g
    have hne : m ≠ [] := fun e => h0 (cg.z e)
    have hs := ch.sign
    have ht := cg.sign
    obtain ⟨e1, e2⟩ := dm_sign (s := s) (t := t) (by omega) (by omega) (lv_nonneg ch.ok) (lv_pos cg.ok cg.ti hne)
    have hv := l02DivMod ch cg (isW_len h) (isW_len g) hne
    rw [e1, e2, ← ch.val, ← cg.val] at hv
    exact Ev.bind (f := fun _ bt => some (bt.1, bt.2.1, bt.2.2.1, bt.2.2.2, (0 : Int))) hv (Ev.now _)
theorem implDivideWholes (s : Int) (l : List Int) (t : Int) (m : List Int) (hl : l.length ≤ 1000000000) (hm : m.length ≤ 1000000000) : impl_DivideWholes.f s l t m = some (divres s l t m) := by
 unfold impl_DivideWholes.f
 rw [if_pos ⟨hl, hm⟩]
theorem divres_length (s : Int) (l : List Int) (t : Int) (m : List Int) : (divres s l t m).2.1.length ≤ 200 ∧ (divres s l t m).2.2.2.1.length ≤ 200 := by
 unfold divres
 cases h : isW s l
 ·simp
 ·cases g : isW t m
  ·simp
  ·simp only [Bool.and_self, if_true]
   split
   ·simp
   ·exact ⟨limbs_length_le (Nat.lt_of_le_of_lt tdiv_small (natAbs_wv h)), limbs_length_le (Nat.lt_of_le_of_lt tmod_small (natAbs_wv h))⟩
theorem callsDivideWholes (s : Int) (A : Option Addr) (c : Nat) (l : List Int) (t : Int) (B : Option Addr) (d : Nat) (m : List Int) (w : World)
  (hr : Kd.C (Kd.int .i64) w A l.length l) (hc : l.length ≤ c) (hl : l.length ≤ maxLen) (hs : Kd.C (Kd.int .i64) w B m.length m) (hd : m.length ≤ d) (hm : m.length ≤ maxLen) (hT : Tab w) :
  Calls Tryd.prog 3 #[.agg #[.int .i64 s, .slice A l.length c], .agg #[.int .i64 t, .slice B m.length d]] w fun x w' => x = .returned (.bool true) ∧ Below w.heap.size w w' := by
 obtain ⟨r1, r2, r3, r4, r5, hR⟩ : ∃ r1 r2 r3 r4 r5, divres s l t m = (r1, r2, r3, r4, r5) := ⟨_, _, _, _, _, rfl⟩
 have hq := divres_length s l t m
 rw [hR] at hq
 simp only at hq
 obtain ⟨hq1, hq2⟩ := hq
 have hz := szWhole s l 1048576 (by omega) (by omega) hl
 obtain ⟨z, hz, hz2⟩ : ∃ z, laws_szWhole.f s l 1048576 = some z ∧ (0 ≤ z → z = 1048576 - (l.length : Int)) := by
  by_cases h0 : (1048576 : Int) - l.length < 0
  ·exact ⟨_, hz, fun h => by split at h <;> omega⟩
  ·exact ⟨_, hz, fun h => by split at h <;> omega⟩
 obtain ⟨z', hz', hz2'⟩ : ∃ z', (0 ≤ z → laws_szWhole.f t m z = some z') ∧ (0 ≤ z' → 0 ≤ z ∧ (m.length : Int) ≤ z) := by
  by_cases h0 : 0 ≤ z
  ·have h1 := hz2 h0
   have a := szWhole t m z h0 (by omega) hm
   exact ⟨_, fun _ => a, fun h => ⟨h0, by split at h <;> omega⟩⟩
  ·exact ⟨-1, fun h => absurd h h0, fun h => by omega⟩
 refine walk_DivideWholes s A c l t B d m r1 r2 r3 r4 r5 (1 + l.length) (marks 1 l.length) (1 + l.length + m.length) (marks (1 + l.length) m.length) (1 + r2.length) (marks 1 r2.length) (1 + r2.length + r4.length) (marks (1 + r2.length) r4.length)
  z z' w hr hc hs hd hz hz' (fun h0 => ?_)
 obtain ⟨g0, g1⟩ := hz2' h0
 have g2 := hz2 g0
 have hn1 : l.length ≤ 1048576 := by omega
 have hn2 : m.length ≤ 1048576 := by omega
 exact
  {f0 := ev_one (toWhole s l hn1)
   f1 := ev_one (toWhole t m hn2)
   f2 := by rw [← hR]; exact ev_one (specDivideWholes s l t m (by omega) (by omega))
   f3 := by rw [implDivideWholes s l t m (by omega) (by omega), hR]
   f4 := ev_one (eqWhole _ _ (by omega))
   f5 := ev_one (eqWhole _ _ (by omega))
   f6 := ev_one (eqWhole s l hn1)
   f7 := ev_one (eqWhole t m hn2)
   f8 := ev_one (markWhole s l 1 (by omega) (by omega) hn1)
   f9 := by omega
   f10 := marks_length _ _
   f11 := ev_one (markWhole t m (1 + l.length) (by omega) (by omega) hn2)
   f12 := by omega
   f13 := marks_length _ _
   f14 := ev_one (markWhole _ _ 1 (by omega) (by omega) (by omega))
   f15 := by omega
   f16 := marks_length _ _
   f17 := ev_one (markWhole _ _ (1 + r2.length) (by omega) (by omega) (by omega))
   f18 := by omega
   f19 := marks_length _ _
   f20 := ev_one (heldWhole _ _ 1 (by omega) (by omega) (by omega))
   f21 := ev_one (heldWhole _ _ (1 + r2.length) (by omega) (by omega) (by omega)) }
end Go.Proofs.YtghhphndbbefjaaDoor.Pur
