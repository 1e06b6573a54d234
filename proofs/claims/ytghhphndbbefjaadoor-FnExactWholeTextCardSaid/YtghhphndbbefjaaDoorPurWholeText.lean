/- The law FnExactWholeText, as a plain statement: it answers true at every sign and limbs. -/
import Derived.Test.YtghhphndbbefjaaDoorPurA
import Derived.Test.YtghhphndbbefjaaDoorMath15
import Derived.Test.YtghhphndbbefjaaDoorX1
import Derived.Test.YtghhphndbbefjaaDoorX2
import Derived.Test.YtghhphndbbefjaaDoorX3
import Derived.Test.YtghhphndbbefjaaDoorBnd12
namespace Go.Proofs.YtghhphndbbefjaaDoor.Pur
open Go.RowKit Go.Proofs.YtghhphndbbefjaaDoor Go.Proofs.YtghhphndbbefjaaDoor.Big Go.Proofs.YtghhphndbbefjaaDoor.X Go.Proofs.YtghhphndbbefjaaDoorW.PrintWords Go.Proofs.YtghhphndbbefjaaDoorW.PrintLast Go.Proofs.YtghhphndbbefjaaDoorW.PrintMore Go.Proofs.YtghhphndbbefjaaDoor.Math
set_option linter.unusedVariables false
set_option linter.unusedSimpArgs false

theorem l01Own' (l : List Int) (h : l.length ≤ 1000000000000) : spec_l01Own.f l = some l := by
  unfold spec_l01Own.f
  simp only [Option.bind_some, List.nil_append, List.length_nil, Nat.zero_add]
  rw [if_pos (by omega)]
theorem lv_take_zero' {l : List Int} {n : Nat} (hn : n < l.length) (h : l.getD n 0 = 0) : lv (l.take (n + 1)) = lv (l.take n) := by
  rw [lv_take_succ hn, h]
  omega
theorem drop_getD' {xs : List Int} {k : Nat} (h : k < xs.length) : xs.drop k = xs.getD k 0 :: xs.drop (k + 1) := by
  rw [List.getD_eq_getElem?_getD, List.getElem?_eq_getElem h]
  exact List.drop_eq_getElem_cons h
theorem bs_append (a b : List Int) : strOfNums a ++ strOfNums b = strOfNums (a ++ b) := by
  apply ByteArray.ext
  simp [strOfNums, ByteArray.data_append]
theorem l02Digits (m : Nat) : m < 100000000 → Ev (fun k => spec_l02Digits.f k (m : Int)) (strOfNums (decI m)) := by
  induction m using Nat.strongRecOn with
  | ind m ih =>
    intro hm
    have hw : wrap64 (48 + (m : Int)) = 48 + (m : Int) := w64s (by omega) (by omega)
    by_cases h : m < 10
    · rw [decI_small h]
      refine Ev.step (g := fun _ => some (strOfNums [48 + (m : Int)])) (fun k => ?_) (Ev.now _)
      simp only [spec_l02Digits.f]
      rw [if_pos (by omega), hw, Int.emod_eq_of_lt (by omega) (by omega)]
    · have hd : wrap64 (Int.tdiv (m : Int) 10) = ((m / 10 : Nat) : Int) := by
        rw [Int.tdiv_eq_ediv_of_nonneg (by omega), w64s (by omega) (by omega)]
        omega
      have ht : Int.tmod (m : Int) 10 = ((m % 10 : Nat) : Int) := by
        rw [Int.tmod_eq_emod_of_nonneg (by omega)]
        omega
      have hw2 : wrap64 (48 + ((m % 10 : Nat) : Int)) = 48 + ((m % 10 : Nat) : Int) := w64s (by omega) (by omega)
      have hlen : (decI (m / 10)).length ≤ 7 + 1 := decI_len (m / 10) 7 (by omega)
      refine Ev.step (fun k => by simp only [spec_l02Digits.f]; rw [if_neg (show ¬ (m : Int) < 10 from by omega), hd, ht, hw2, Int.emod_eq_of_lt (by omega) (by omega)]) ?_
      refine Ev.bind (ih (m / 10) (by omega) (by omega)) ?_
      simp only [Option.bind_some]
      rw [if_pos (by rw [strOfNums_size, strOfNums_size]; simp only [List.length_singleton]; omega), bs_append, decI_big h]
      exact Ev.now _
/-- Between two limbs of the division by ten million, from above. -/
structure DRel (l : List Int) (k : Nat) (r : Int) (os : List Int) : Prop where
  len : os.length = l.length
  ok : Okl os
  rb : 0 ≤ r ∧ r < 10000000
  lo : ∀ i, i < k → os.getD i 0 = l.getD i 0
  v : lv (l.drop k) = 10000000 * lv (os.drop k) + r
theorem DRel.start {l : List Int} (ol : Okl l) : DRel l l.length 0 l := ⟨rfl, ol, by omega, fun _ _ => rfl, by rw [List.drop_length]; simp [lv]⟩
theorem DRel.step {l os : List Int} {k : Nat} {r t : Int} (ol : Okl l) (h : DRel l (k + 1) r os) (hk : k < l.length) (ht : t = r * 16777216 + l.getD k 0) :
    (0 ≤ t ∧ t < 167772160000000) ∧ DRel l k (t % 10000000) (os.set k (t / 10000000)) := by
  have hx := okl_getD ol k
  have hr := h.rb
  have hl := h.len
  have ht0 : 0 ≤ t ∧ t < 167772160000000 := by omega
  have hq : 0 ≤ t / 10000000 ∧ t / 10000000 < 16777216 := by omega
  refine ⟨ht0, by simp [hl], okl_set h.ok k hq, by omega, fun i hi => ?_, ?_⟩
  · rw [List.getD_eq_getElem?_getD, List.getElem?_set_ne (by omega), ← List.getD_eq_getElem?_getD]
    exact h.lo i (by omega)
  · have e1 : (os.set k (t / 10000000)).drop k = t / 10000000 :: os.drop (k + 1) := by
      have g : k < (os.set k (t / 10000000)).length := by rw [List.length_set, hl]; exact hk
      rw [drop_getD' g, List.drop_set_of_lt (by omega), List.getD_eq_getElem?_getD, List.getElem?_set_self (by omega)]
      rfl
    rw [drop_getD' hk, e1]
    have hv := h.v
    simp only [lv]
    rw [hv]
    generalize lv (os.drop (k + 1)) = Q
    omega
theorem DRel.done {l os : List Int} {r : Int} (h : DRel l 0 r os) : lv l = 10000000 * lv os + r := by
  have := h.v
  rwa [List.drop_zero, List.drop_zero] at this
/-- What is left of V, and its text so far. -/
structure Blk (V v : Nat) (T : List Int) : Prop where
  z : v = 0 → T = decI V
  p : v ≠ 0 → decI V = decI v ++ T
theorem Blk.len {V v : Nat} {T : List Int} (h : Blk V v T) : T.length ≤ (decI V).length := by
  by_cases e : v = 0
  · rw [h.z e]
    exact Nat.le_refl _
  · rw [h.p e]
    simp
def padI (w n : Nat) : List Int := (pad w n).map (fun x : Nat => (x : Int))
theorem padI_dec {n w : Nat} (h : n < 10 ^ w) (h0 : 0 < w) : padI w n = List.replicate (w - (decI n).length) 48 ++ decI n := by
  rw [padI, pad_dec n w h h0, List.map_append, List.map_replicate, decI, List.length_map]
  rfl
theorem Blk.more {V v r : Nat} {T : List Int} (h : Blk V (v * 10000000 + r) T) (hr : r < 10000000) (hv : v ≠ 0) : Blk V v (padI 7 r ++ T) := by
  have hp := h.p (by omega)
  refine ⟨fun e => absurd e hv, fun _ => ?_⟩
  rw [hp, ← List.append_assoc]
  congr 1
  have := dec_pad hv 7 r (by simpa using hr)
  rw [show (10 : Nat) ^ 7 = 10000000 from by decide] at this
  rw [decI, this, List.map_append]
  rfl
theorem Blk.last {V r : Nat} {T : List Int} (h : Blk V r T) (hr : r ≠ 0) : Blk V 0 (decI r ++ T) := ⟨fun _ => (h.p hr).symm, fun e => absurd rfl e⟩
theorem l1_loop {s : Int} {sl l : List Int} (T : ByteArray) (ol : Okl l) (hl : l.length ≤ 1000000000) (k : Nat) : ∀ (r : Int) (os : List Int), k ≤ l.length → DRel l k r os →
    ∃ r' os', DRel l 0 r' os' ∧ ∀ R, Ev (fun f => spec_l02Text.l2 f T os' r' s sl) R → Ev (fun f => spec_l02Text.l1 f T os r ((k : Int) - 1) s sl) R := by
  induction k with
  | zero =>
    intro r os hk h
    exact ⟨r, os, h, fun R hR => Ev.step (fun f => by simp only [spec_l02Text.l1]; rw [if_neg (by omega)]) hR⟩
  | succ k ih =>
    intro r os hk h
    obtain ⟨⟨t0, t1⟩, hs⟩ := h.step ol (by omega) rfl
    obtain ⟨r', os', h1, h2⟩ := ih _ _ (by omega) hs
    refine ⟨r', os', h1, fun R hR => Ev.step (fun f => ?_) (h2 R hR)⟩
    have e1 : ((k + 1 : Nat) : Int) - 1 = (k : Int) := by omega
    have hr := h.rb
    have e2 : wrap64 (r * 16777216) = r * 16777216 := w64s (by omega) (by omega)
    have e3 : rd os (k : Int) = l.getD k 0 := by rw [rd_cast]; exact h.lo k (by omega)
    simp only [spec_l02Text.l1]
    rw [e1, if_pos (show (k : Int) ≥ 0 from by omega), if_pos (show (0 : Int) ≤ k from by omega), if_pos (show (k : Int) < (os.length : Int) from by have := h.len; omega), e2, e3]
    generalize r * 16777216 + l.getD k 0 = t at t0 t1 ⊢
    have e4 : wrap64 t = t := w64s (by omega) (by omega)
    have e5 : Int.tdiv t 10000000 = t / 10000000 := Int.tdiv_eq_ediv_of_nonneg t0
    have e6 : Int.tmod t 10000000 = t % 10000000 := Int.tmod_eq_emod_of_nonneg t0
    have e7 : wrap64 (t / 10000000) = t / 10000000 := w64s (by omega) (by omega)
    have e8 : wrap64 ((k : Int) - 1) = (k : Int) - 1 := w64s (by omega) (by omega)
    rw [e4, e5, e6, e7, e8, Int.toNat_natCast]
theorem l2_loop {s : Int} {sl : List Int} (T : ByteArray) (r : Int) (n : Nat) : ∀ os : List Int, os.length = n → n ≤ 1000000000 → Okl os →
    ∃ t, Okl t ∧ Tight t ∧ lv t = lv os ∧ t.length ≤ os.length ∧ ∀ R, Ev (fun f => spec_l02Text.j3 f T t r s sl) R → Ev (fun f => spec_l02Text.l2 f T os r s sl) R := by
  induction n with
  | zero =>
    intro os hl hn ok
    have e := List.length_eq_zero_iff.1 hl
    subst e
    exact ⟨[], ok, fun h => absurd rfl h, rfl, Nat.le_refl _, fun R hR => Ev.step (fun f => by simp only [spec_l02Text.l2]; rw [if_neg (by simp)]) hR⟩
  | succ n ih =>
    intro os hl hn ok
    have hne : os ≠ [] := by rintro rfl; simp at hl
    have w1 : wrap64 ((os.length : Int) - 1) = (n : Int) := by rw [w64s (by omega) (by omega)]; omega
    by_cases hz : os.getD n 0 = 0
    · have hv : lv (os.take n) = lv os := by
        have := lv_take_zero' (l := os) (n := n) (by omega) hz
        rw [List.take_of_length_le (by omega)] at this
        exact this.symm
      obtain ⟨t, t1, t2, t3, t4, t5⟩ := ih (os.take n) (by rw [List.length_take]; omega) (by omega) (okl_take ok n)
      refine ⟨t, t1, t2, t3.trans hv, Nat.le_trans t4 (by rw [List.length_take]; omega), fun R hR => Ev.step (fun f => ?_) (t5 R hR)⟩
      simp only [spec_l02Text.l2]
      rw [if_pos (by omega), w1, if_pos (by omega), if_pos (by omega), rd_cast, if_pos hz, if_pos (by omega), Int.toNat_natCast]
    · refine ⟨os, ok, ?_, rfl, Nat.le_refl _, fun R hR => Ev.step (fun f => ?_) hR⟩
      · intro h
        rw [tight_getD h, hl]
        exact hz
      · simp only [spec_l02Text.l2]
        rw [if_pos (by omega), w1, if_pos (by omega), if_pos (by omega), rd_cast, if_neg hz]
theorem l3_loop {s : Int} {sl t : List Int} (T : List Int) (hT : T.length ≤ 100000) (ht : 0 < t.length) (d : Nat) : ∀ p : List Int, 7 - p.length = d → p.length ≤ 100000 →
    ∀ R, Ev (fun f => spec_l02Text.l0 f (strOfNums (List.replicate d 48 ++ p ++ T)) t s sl) R → Ev (fun f => spec_l02Text.l3 f (strOfNums T) t (strOfNums p) s sl) R := by
  induction d with
  | zero =>
    intro p hd hp R hR
    refine Ev.step (fun f => ?_) hR
    simp only [spec_l02Text.l3]
    rw [if_pos (by omega), strOfNums_size, strOfNums_size, if_neg (by omega), if_pos (by omega), bs_append]
    rfl
  | succ d ih =>
    intro p hd hp R hR
    have h := ih (48 :: p) (by simp; omega) (by simp; omega) R (by
      rw [List.replicate_succ'] at hR
      simpa using hR)
    refine Ev.step (fun f => ?_) h
    simp only [spec_l02Text.l3]
    rw [if_pos (by omega), strOfNums_size, if_pos (by omega), if_pos (by omega), show (⟨#[48]⟩ : ByteArray) = strOfNums [48] from rfl, bs_append]
    rfl
theorem l0_loop {s : Int} {sl : List Int} {V : Nat} (hV : (decI V).length ≤ 100000) (n : Nat) : ∀ (t : List Int) (T : List Int), (lv t).toNat = n → Okl t → Tight t → t.length ≤ 1000000000 → Blk V n T →
    Ev (fun f => spec_l02Text.l0 f (strOfNums T) t s sl) (strOfNums (if s < 0 then 45 :: decI V else decI V)) := by
  induction n using Nat.strongRecOn with
  | ind n ih =>
    intro t T hn ok ti hl hb
    have hT := Nat.le_trans hb.len hV
    have h0 := lv_nonneg ok
    rcases Nat.eq_zero_or_pos t.length with e | hp
    · have et := List.length_eq_zero_iff.1 e
      subst et
      have e0 : n = 0 := by rw [← hn]; rfl
      rw [hb.z e0]
      refine Ev.step (g := fun _ => some (strOfNums (if s < 0 then 45 :: decI V else decI V))) (fun f => ?_) (Ev.now _)
      simp only [spec_l02Text.l0]
      rw [if_neg (by simp)]
      by_cases hs : s < 0
      · rw [if_pos hs, if_pos hs, strOfNums_size, if_pos (by omega), show (⟨#[45]⟩ : ByteArray) = strOfNums [45] from rfl, bs_append]
        rfl
      · rw [if_neg hs, if_neg hs]
    · have hne : t ≠ [] := by rintro rfl; simp at hp
      have hvp := lv_pos ok ti hne
      obtain ⟨r', os', h1, h2⟩ := l1_loop (s := s) (sl := sl) (strOfNums T) ok hl t.length 0 t (Nat.le_refl _) (DRel.start ok)
      have hd := h1.done
      have hr := h1.rb
      have ho := lv_nonneg h1.ok
      obtain ⟨t2, k1, k2, k3, k4, k5⟩ := l2_loop (s := s) (sl := sl) (strOfNums T) r' os'.length os' rfl (by rw [h1.len]; exact hl) h1.ok
      have w1 : wrap64 ((t.length : Int) - 1) = (t.length : Int) - 1 := w64s (by omega) (by omega)
      refine Ev.step (fun f => by simp only [spec_l02Text.l0]; rw [if_pos (show (t.length : Int) > 0 from by omega), w1]) (h2 _ (k5 _ ?_))
      obtain ⟨r, hrr⟩ : ∃ r : Nat, r' = (r : Int) := ⟨r'.toNat, by omega⟩
      subst hrr
      have hr2 : r < 10000000 := by omega
      obtain ⟨v, hvv⟩ : ∃ v : Nat, lv os' = (v : Int) := ⟨(lv os').toNat, by omega⟩
      rw [hvv] at hd k3
      have hnv : n = v * 10000000 + r := by omega
      refine Ev.step (fun f => by simp only [spec_l02Text.j3]; rfl) ?_
      refine Ev.bind (l02Digits r (by omega)) ?_
      have hrl : (decI r).length ≤ 6 + 1 := decI_len r 6 (by omega)
      have hk3 : (lv t2).toNat = v := by omega
      rcases Nat.eq_zero_or_pos t2.length with e | hp2
      · have et := List.length_eq_zero_iff.1 e
        have hv0 : v = 0 := by rw [et] at hk3; rw [← hk3]; rfl
        have hrne : r ≠ 0 := by omega
        rw [hv0, Nat.zero_mul, Nat.zero_add] at hnv
        have hb2 : Blk V 0 (decI r ++ T) := (by rw [hnv] at hb; exact hb : Blk V r T).last hrne
        have := ih 0 (by omega) t2 (decI r ++ T) (by omega) k1 k2 (by omega) hb2
        refine Ev.step (fun f => ?_) this
        simp only [spec_l02Text.l3]
        rw [if_neg (by omega), strOfNums_size, strOfNums_size, if_pos (by omega), bs_append]
      · have hvp2 := lv_pos k1 k2 (by rintro rfl; simp at hp2)
        have hvne : v ≠ 0 := by omega
        have hb2 : Blk V v (padI 7 r ++ T) := (by rw [hnv] at hb; exact hb : Blk V (v * 10000000 + r) T).more hr2 hvne
        have := ih v (by omega) t2 (padI 7 r ++ T) hk3 k1 k2 (by have := h1.len; omega) hb2
        rw [padI_dec (by simpa using hr2) (by omega)] at this
        exact l3_loop T hT hp2 _ (decI r) rfl (by omega) _ this
theorem l02Text {s : Int} {l : List Int} (hw : isW s l = true) : Ev (fun k => spec_l02Text.f k s l) (strOfNums (txt (wv s l))) := by
  have hc := isW_cw hw
  have hlen := isW_len hw
  have hn := hc.natAbs
  have hsg := hc.sign
  unfold spec_l02Text.f
  by_cases hs : s = 0
  · have hl := hc.szero.1 hs
    simp only [if_pos hs]
    subst hs hl
    have e : strOfNums (txt (wv 0 [])) = (⟨#[48]⟩ : ByteArray) := by
      rw [wv_zero]
      unfold txt
      rw [if_neg (by omega), show (0 : Int).natAbs = 0 from rfl, decI_small (by omega)]
      rfl
    rw [e]
    exact Ev.now _
  · simp only [if_neg hs, l01Own' l (by omega), Option.bind_some]
    have hne := isW_ne hw hs
    have hvp := lv_pos hc.ok hc.ti hne
    have hbd : (decI (lv l).toNat).length ≤ 100000 := by
      rw [← hn]
      exact Nat.le_trans (text_short (text_bound hw) (k := 4799) rfl) (by omega)
    have := l0_loop (s := s) (sl := l) hbd _ l [] rfl hc.ok hc.ti (by omega) ⟨fun e => by omega, fun _ => by simp⟩
    have e : txt (wv s l) = if s < 0 then 45 :: decI (lv l).toNat else decI (lv l).toNat := by
      unfold txt
      rw [hn, hc.val]
      rcases (show s = -1 ∨ s = 1 from by omega) with rfl | rfl
      · rw [if_pos (by omega), if_pos (by omega)]
      · rw [if_neg (by omega), if_neg (by omega)]
    rw [e]
    exact this
theorem specWholeText (s : Int) (l : List Int) (hl : l.length ≤ 1000000000) : Ev (fun k => spec_WholeText.f k s l) (textres s l) := by
  unfold spec_WholeText.f
  refine Ev.bind (l02Is s l hl) ?_
  unfold textres
  cases h : isW s l
  · exact Ev.now _
  · simp only [if_true]
    exact Ev.bind (f := fun _ t => some (t, (0 : Int))) (l02Text h) (Ev.now _)
theorem implWholeText (s : Int) (l : List Int) (hl : l.length ≤ 1000000000) : impl_WholeText.f s l = some (textres s l) := by
  unfold impl_WholeText.f
  rw [if_pos hl]
set_option maxHeartbeats 1000000 in
theorem lawWholeText (s : Int) (l : List Int) (hl : l.length ≤ maxLen) : ∃ k, laws_FnExactWholeText.f k s l = some true := by
  refine Ev.rounds ?_
  unfold laws_FnExactWholeText.f
  simp only [szWhole s l 1048576 (by omega) (by omega) hl, Option.bind_some]
  by_cases h : (1048576 : Int) - l.length < 0
  · simp only [if_pos h]
    exact Ev.now true
  · simp only [if_neg h]
    have hn : l.length ≤ 1048576 := by omega
    refine Ev.bind (toWhole s l hn) ?_
    refine Ev.bind (specWholeText s l (by omega)) ?_
    refine Ev.bind (toWhole s l hn) ?_
    simp only [implWholeText s l (by omega), Option.bind_some, if_true, bne_self_eq_false]
    refine Ev.step (fun k => by rw [laws_FnExactWholeText.j0, if_neg (by simp)]) ?_
    refine Ev.bind (toWhole s l hn) ?_
    refine Ev.bind (eqWhole s l hn) ?_
    simp only [if_true]
    exact Ev.now true
end Go.Proofs.YtghhphndbbefjaaDoor.Pur
