/- The law FnExactDivideWholes: it answers true at every argument. -/
import Derived.Test.YtlkomiiijhphnaaDoorG20
import Derived.Test.YtlkomiiijhphnaaDoorPurDivMod
import Derived.Test.YtlkomiiijhphnaaDoorG18
import Derived.Test.YtlkomiiijhphnaaDoorBnd10
namespace Go.Proofs.YtlkomiiijhphnaaDoor.Pur
open Go.RowKit Go.Proofs.YtlkomiiijhphnaaDoor Go.Proofs.YtlkomiiijhphnaaDoor.Big Go.Proofs.YtlkomiiijhphnaaDoor.X Go.Proofs.YtlkomiiijhphnaaDoorW.PrintWords Go.Proofs.YtlkomiiijhphnaaDoorW.PrintLast Go.Proofs.YtlkomiiijhphnaaDoor.Math
set_option linter.unusedVariables false
set_option linter.unusedSimpArgs false
theorem ev_one {α : Type} {F : Nat → Option α} {r : α} (h : Ev F r) : ∃ k, F k = some r := let ⟨K, hK⟩ := h; ⟨K, hK K (Nat.le_refl K)⟩
theorem dm_len1 {n : Nat} (h : n ≤ 200) : wrap64 ((n : Int) + 1) = ((n + 1 : Nat) : Int) := by rw [w64s (by omega) (by omega)]; omega
theorem dm_lenk {n : Nat} (h : n ≤ 4800) : wrap64 ((n : Int) - 1) = (n : Int) - 1 := w64s (by omega) (by omega)
theorem dm_blen {s : Int} {l : List Int} (h : CW s l) : lv l < 2 ^ blen (wv s l) := by
 have h0 := lv_nonneg h.ok
 have h1 : (lv l).natAbs < 2 ^ blen (lv l) := blen_le.1 (Nat.le_refl _)
 rw [blen_wv h]
 have e : ((2 ^ blen (lv l) : Nat) : Int) = 2 ^ blen (lv l) := by norm_cast
 rw [← e]
 generalize 2 ^ blen (lv l) = p at h1 ⊢
 omega
theorem dm_kk {s : Int} {l : List Int} (h : CW s l) : blen (wv s l) ≤ 24 * l.length := by
 rw [blen_wv h]
 refine (limbs_len_iff _ _).1 ?_
 refine limbs_length_le ?_
 have h0 := lv_nonneg h.ok
 have h1 := lv_lt h.ok
 have c := lpow_cast l.length
 generalize (16777216 : Nat) ^ l.length = p at c ⊢
 generalize (16777216 : Int) ^ l.length = r at c h1
 omega
theorem l02DivMod {s t : Int} {l m : List Int} (h : CW s l) (g : CW t m) (hl : l.length ≤ 200) (hm : m.length ≤ 200) (hne : m ≠ []) :
  Ev (fun k => spec_l02DivMod.f k s l t m) ((cn (s * t * (lv l / lv m))).1, (cn (s * t * (lv l / lv m))).2, (cn (s * (lv l % lv m))).1, (cn (s * (lv l % lv m))).2) := by
 unfold spec_l02DivMod.f
 have hk := dm_kk h
 have e1 := dm_len1 hm
 have e2 := dm_lenk (n := blen (wv s l)) (by omega)
 simp only [e1, Int.toNat_natCast]
 simp only [if_pos (show (0 : Int) ≤ ((m.length + 1 : Nat) : Int) from Int.natCast_nonneg _), if_pos (show m.length + 1 ≤ 35184372088832 from Nat.le_trans (Nat.succ_le_succ hm) (by decide)), if_pos (show (0 : Int) ≤ ((l.length : Nat) : Int) from Int.natCast_nonneg _), if_pos (show l.length ≤ 35184372088832 from Nat.le_trans hl (by decide))]
 refine Ev.bind (l02Length h (Nat.le_trans hl (by decide))) ?_
 rw [e2]
 exact dm_main h g hl hm hne _ _ _ hk (BitDiv.start _ _ (lv_nonneg h.ok) (dm_blen h))
theorem dm_sign {s t a b : Int} (hs : s = -1 ∨ s = 0 ∨ s = 1) (ht : t = -1 ∨ t = 1) (ha : 0 ≤ a) (hb : 0 < b) : s * t * (a / b) = Int.tdiv (s * a) (t * b) ∧ s * (a % b) = Int.tmod (s * a) (t * b) := by
 have e1 : Int.tdiv a b = a / b := Int.tdiv_eq_ediv_of_nonneg ha
 have e2 : Int.tmod a b = a % b := Int.tmod_eq_emod_of_nonneg ha
 rcases hs with rfl | rfl | rfl <;> rcases ht with rfl | rfl <;> simp [Int.neg_tdiv, Int.tdiv_neg, Int.neg_tmod, Int.tmod_neg, e1, e2]
theorem specDivideWholes (s : Int) (l : List Int) (t : Int) (m : List Int) (hl : l.length ≤ 1000000000) (hm : m.length ≤ 1000000000) : Ev (fun k => spec_DivideWholes.f k s l t m) (divres s l t m) := by
 unfold spec_DivideWholes.f divres
 refine Ev.bind (l02Both s l t m hl hm) ?_
 cases h : isW s l
 ·exact Ev.now _
 ·cases g : isW t m
  ·exact Ev.now _
  ·simp only [Bool.and_self, if_true]
   by_cases h0 : t = 0
   ·simp only [if_pos h0]
    exact Ev.now _
   ·simp only [if_neg h0]
    have ch := isW_cw h
    have cg := isW_cw g
    have hne : m ≠ [] := fun e => h0 (cg.z e)
    have hs := ch.sign
    have ht := cg.sign
    obtain ⟨e1, e2⟩ := dm_sign (s := s) (t := t) (by omega) (by omega) (lv_nonneg ch.ok) (lv_pos cg.ok cg.ti hne)
    have hv := l02DivMod ch cg (isW_len h) (isW_len g) hne
    rw [e1, e2, ← ch.val, ← cg.val] at hv
    exact Ev.bind (f := fun _ bt => some (bt.1, bt.2.1, bt.2.2.1, bt.2.2.2, (0 : Int))) hv (Ev.now _)
theorem implDivideWholes (s : Int) (l : List Int) (t : Int) (m : List Int) (hl : l.length ≤ 1000000000) (hm : m.length ≤ 1000000000) : impl_DivideWholes.f s l t m = some (divres s l t m) := by
 unfold impl_DivideWholes.f
 rw [if_pos ⟨hl, hm⟩]
theorem divres_length (s : Int) (l : List Int) (t : Int) (m : List Int) : (divres s l t m).2.1.length ≤ 200 ∧ (divres s l t m).2.2.2.1.length ≤ 200 := by
 unfold divres
 cases h : isW s l
 ·simp
 ·cases g : isW t m
  ·simp
  ·simp only [Bool.and_self, if_true]
   split
   ·simp
   ·exact ⟨limbs_length_le (Nat.lt_of_le_of_lt tdiv_small (natAbs_wv h)), limbs_length_le (Nat.lt_of_le_of_lt tmod_small (natAbs_wv h))⟩
end Go.Proofs.YtlkomiiijhphnaaDoor.Pur
