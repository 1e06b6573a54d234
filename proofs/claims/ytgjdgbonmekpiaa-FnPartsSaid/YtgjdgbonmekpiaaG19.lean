/- Products of parts, the reference's. No conditions beyond those of each theorem. Printed by genpw6.py. -/
import Derived.Test.YtgjdgbonmekpiaaG18
namespace Go.Proofs.Ytgjdgbonmekpiaa
open Go Ieee Go.RowKit Go.Proofs.Ytgjdgbonmekpiaa.Fl Go.Proofs.Ytgjdgbonmekpiaa.Fx Go.Proofs.Ytgjdgbonmekpiaa.P Go.Proofs.YtgjdgbonmekpiaaW.PrintWords Go.Proofs.YtgjdgbonmekpiaaW.PrintLast Go.Proofs.YtgjdgbonmekpiaaW.PrintMore
set_option linter.unusedVariables false
set_option linter.unusedSimpArgs false
attribute [local go_sem] run_add run_sub run_mul run_quo run_cadd run_csub run_neg run_cneg run_store_cx run_maxI run_minI
attribute [-go_sem] run_max_int2 run_min_int2
def ResB (w : World) (o : Option Cs) : Ending → World → Prop := fun e w' => ∃ (B : Option Addr) (d : Nat), e = .returned (.tuple #[.slice B (o.getD []).length d, .bool o.isSome]) ∧ cxk.C w' B (o.getD []).length (o.getD []) ∧ (o.getD []).length ≤ d ∧ Below w.heap.size w w'
theorem ResB.none_ {w w' : World} (h : Below w.heap.size w w') : ResB w none (.returned (.tuple #[.slice none 0 0, .bool false])) w' := ⟨none, 0, rfl, Kd.C_nil _ _, Nat.le_refl _, h⟩
theorem ResB.some_ {w w' : World} {v : Value} {os : Cs} (h : Own w w' v os) : ResB w (some os) (.returned (.tuple #[v, .bool true])) w' := by
 obtain ⟨A, c, rfl, hc, hC⟩ := h.reads
 exact ⟨A, c, rfl, hC, hc, h.low⟩
theorem sumE_fin {s x y z : Nat × Nat} (h : sumE s x y = some z) : (isFin z.1 && isFin z.2) = true := by
 unfold sumE stp at h
 split at h
 ·split at h
  ·rename_i hf
   cases h
   exact hf
  ·cases h
 ·cases h
theorem mulS_fin (xs ys : Cs) (n : Int) : ∀ (k : Nat) (i : Int) (s z : Nat × Nat), (isFin s.1 && isFin s.2) = true → mulS xs ys n k i s = some z → (isFin z.1 && isFin z.2) = true
 | 0, _, s, z, hs, h => by cases h; exact hs
 | k + 1, i, s, z, hs, h => by
  unfold mulS at h
  obtain ⟨s', h1, h2⟩ := Option.bind_eq_some_iff.1 h
  exact mulS_fin xs ys n k (i + 1) s' z (sumE_fin h1) h2
theorem mulG_fin (xs ys : Cs) : ∀ (k : Nat) (n : Int) (zs : Cs), mulG xs ys k n = some zs → finL zs = true
 | 0, _, zs, h => by cases h; rfl
 | k + 1, n, zs, h => by
  unfold mulG at h
  obtain ⟨z, h1, h2⟩ := Option.bind_eq_some_iff.1 h
  obtain ⟨l, h3, rfl⟩ := Option.map_eq_some_iff.1 h2
  have h4 := mulG_fin xs ys k (n + 1) l h3
  have h5 := mulS_fin xs ys n _ _ (0, 0) z (by decide) h1
  show ((isFin z.1 && isFin z.2) && finL l) = true
  rw [h4, h5]
  rfl
def mulT (xs ys : Cs) : Option Cs := if xs.length = 0 ∨ ys.length = 0 then some [] else mulG xs ys (xs.length + ys.length - 1) 0
set_option maxRecDepth 100000 in
set_option maxHeartbeats 4000000 in
theorem l04Times_calls (A B : Option Addr) (c d : Nat) (xs ys : Cs) (w : World) (hr : cxk.C w A xs.length xs) (hr2 : cxk.C w B ys.length ys) (hl : xs.length ≤ 1000) (hl2 : ys.length ≤ 1000) : Calls Try.prog 32 #[.slice A xs.length c, .slice B ys.length d] w fun e w' => ResB w (mulT xs ys) e w' := by
 have HR := Aside0.mk hr; have HL := Aside0.mk hl; have HR2 := Aside0.mk hr2; have HL2 := Aside0.mk hl2
 unfold mulT
 obtain ⟨N, hN⟩ : ∃ N : Int, (xs.length : Int) = N := ⟨_, rfl⟩
 obtain ⟨M, hM⟩ : ∃ M : Int, (ys.length : Int) = M := ⟨_, rfl⟩
 have e1 : wrap64 (N + M) = N + M := w64 (by omega) (by omega)
 have e0 : wrap64 ((0 : Int) + 1) = 1 := w64 (by omega) (by omega)
 by_cases hz : xs.length = 0 ∨ ys.length = 0
 ·rw [if_pos hz]
  have HO := Aside0.mk (Own.empty (Below.refl w.heap.size w))
  by_cases hz0 : 1 < N + M
  ·have d0 : decide (1 < N + M) = true := decide_eq_true hz0
   by_cases hz1 : N > 0
   ·have d1 : decide (N > 0) = true := decide_eq_true hz1
    have d2 : decide (M > 0) = false := decide_eq_false (by omega)
    clear hr hr2 hl hl2 hz hz1 hz0
    go_enter Try.func32, Try.ntmps32
    go_wp2_with fail
    go_loopg [6, 7] 0 (fun g v u w' => v = .slice (some ⟨w.heap.size, 0, none⟩) 0 0 ∧ u = .int .i64 0 ∧ Aside0 (Own w w' (.slice (some ⟨w.heap.size, 0, none⟩) 0 0) []))
    case atStart => exact ⟨rfl, rfl, ⟨HO.out⟩⟩
    case round =>
     obtain ⟨rfl, rfl, hrel⟩ := hrel
     have HO2 := Aside0.mk hrel.out
     go_wp2
     go_ret2
     exact ResB.some_ HO2.out
   ·have d1 : decide (N > 0) = false := decide_eq_false hz1
    clear hr hr2 hl hl2 hz hz1 hz0
    go_enter Try.func32, Try.ntmps32
    go_wp2_with fail
    go_loopg [6, 7] 0 (fun g v u w' => v = .slice (some ⟨w.heap.size, 0, none⟩) 0 0 ∧ u = .int .i64 0 ∧ Aside0 (Own w w' (.slice (some ⟨w.heap.size, 0, none⟩) 0 0) []))
    case atStart => exact ⟨rfl, rfl, ⟨HO.out⟩⟩
    case round =>
     obtain ⟨rfl, rfl, hrel⟩ := hrel
     have HO2 := Aside0.mk hrel.out
     go_wp2
     go_ret2
     exact ResB.some_ HO2.out
  ·have d0 : decide (1 < N + M) = false := decide_eq_false hz0
   clear hr hr2 hl hl2 hz hz0
   go_enter Try.func32, Try.ntmps32
   go_wp2_with fail
   go_loopg [6, 7] 0 (fun g v u w' => v = .slice (some ⟨w.heap.size, 0, none⟩) 0 0 ∧ u = .int .i64 0 ∧ Aside0 (Own w w' (.slice (some ⟨w.heap.size, 0, none⟩) 0 0) []))
   case atStart => exact ⟨rfl, rfl, ⟨HO.out⟩⟩
   case round =>
    obtain ⟨rfl, rfl, hrel⟩ := hrel
    have HO2 := Aside0.mk hrel.out
    go_wp2
    go_ret2
    exact ResB.some_ HO2.out
 rw [if_neg hz]
 have NB : 0 < N ∧ N ≤ 1000 ∧ 0 < M ∧ M ≤ 1000 := by omega
 have HNB := Aside0.mk NB
 have d1 : decide (N > 0) = true := decide_eq_true NB.1
 have d2 : decide (M > 0) = true := decide_eq_true NB.2.2.1
 obtain ⟨R, hR⟩ : ∃ R, mulG xs ys (xs.length + ys.length - 1) 0 = R := ⟨_, rfl⟩
 rw [hR]
 have HQ := Aside0.mk hR
 have HNM := Aside0.mk (And.intro hN hM)
 clear hr hr2 hl hl2 hz NB hR
 go_enter Try.func32, Try.ntmps32
 have HO := Aside0.mk (Own.empty (Below.refl w.heap.size w))
 go_wp2_with fail
 go_loopg [6, 7] (xs.length + ys.length - 1) (fun g v u w' => ∃ (n : Int), u = .int .i64 n ∧ Aside0 (ProdAt xs ys R w w' v g n))
 case atStart => exact ⟨0, rfl, ⟨⟨[], HO.out, by rw [HQ.out]; cases R <;> rfl, rfl, by have := HNB.out; have := HNM.out; omega⟩⟩⟩
 case round =>
  clear HO
  obtain ⟨n, rfl, hj⟩ := hrel
  obtain ⟨os, ho, hm, hos, hg⟩ := hj.out.at_
  clear hj
  have e3 : wrap64 (n + 1) = n + 1 := by have := HNB.out; have := HNM.out; exact w64 (by omega) (by omega)
  cases gk with
  | succ k =>
   have HO := Aside0.mk ho
   have HJ := Aside0.mk (show 0 ≤ n ∧ n + k + 1 = N + M - 1 ∧ n < N + M - 1 ∧ n ≤ 2000 ∧ (os.length : Int) = n by have h1 := HNB.out; omega)
   have hl' : decide (n + 1 < N + M) = true := decide_eq_true (by have := HJ.out; omega)
   unfold mulG at hm
   obtain ⟨Z, hZ⟩ : ∃ Z, mulC xs ys n = Z := ⟨_, rfl⟩
   rw [hZ] at hm
   unfold mulC at hZ
   rw [hN, hM] at hZ
   obtain ⟨L, hL⟩ : ∃ L, loI M n = L := ⟨_, rfl⟩
   obtain ⟨H, hH⟩ : ∃ H, hiI N n = H := ⟨_, rfl⟩
   rw [hL, hH] at hZ
   unfold loI at hL
   unfold hiI at hH
   have HLH := Aside0.mk (show 0 ≤ L ∧ L ≤ H ∧ H ≤ n ∧ H < N ∧ n - L < M ∧ ∀ i, i ≤ n → i < N → i ≤ H by
    have h1 := HJ.out; have h2 := HNB.out
    unfold maxI at hL; unfold minI at hH
    split at hL <;> split at hH <;> refine ⟨?_, ?_, ?_, ?_, ?_, ?_⟩ <;> omega)
   have HM := Aside0.mk hm
   have HZ := Aside0.mk hZ
   have w1 : wrap64 (n - M) = n - M := by have := HJ.out; have := HNB.out; exact w64 (by omega) (by omega)
   have w2 : wrap64 (n - M + 1) = n - M + 1 := by have := HJ.out; have := HNB.out; exact w64 (by omega) (by omega)
   clear hm hZ ho hos hg hH
   go_wp2_with fail
   simp only [w1, w2, hL, e3, e1]
   go_loopg [8, 9] (H - L + 1).toNat (fun q v8 v9 w' => ∃ (s1 s2 : Nat) (i : Int), v8 = .complex .f64 s1 s2 ∧ v9 = .int .i64 i ∧ Aside0 (mulS xs ys n q i (s1, s2) = Z ∧ L ≤ i ∧ i + q = H + 1 ∧ Own w w' u6 os))
   case atStart => exact ⟨0, 0, L, rfl, rfl, ⟨HZ.out, by omega, by have := HLH.out; omega, HO.out⟩⟩
   case round =>
    clear HZ HO
    obtain ⟨s1, s2, i, rfl, rfl, hi⟩ := hrel
    have HI := Aside0.mk hi.out; clear hi
    cases gk with
    | succ q =>
     have HIB := Aside0.mk (show 0 ≤ i ∧ i < N ∧ 0 ≤ n - i ∧ n - i < M ∧ i ≤ n by have h1 := HI.out; have h2 := HLH.out; omega)
     have hi' : decide (i ≤ n) = true := decide_eq_true HIB.out.2.2.2.2
     have hi2 : decide (i < N) = true := decide_eq_true HIB.out.2.1
     obtain ⟨ad, rfl, hx⟩ := cx_at (Kd.C_below HR.out HI.out.2.2.2.low) i HIB.out.1 (by have := HIB.out; have := HNM.out; omega)
     obtain ⟨bd, rfl, hy⟩ := cx_at (Kd.C_below HR2.out HI.out.2.2.2.low) (n - i) HIB.out.2.2.1 (by have := HIB.out; have := HNM.out; omega)
     have hz := HI.out.1
     unfold mulS at hz
     obtain ⟨⟨x1, x2⟩, hxx⟩ : ∃ z, rdOf (0, 0) xs i = z := ⟨_, rfl⟩
     obtain ⟨⟨y1, y2⟩, hyy⟩ : ∃ z, rdOf (0, 0) ys (n - i) = z := ⟨_, rfl⟩
     unfold at_ at hz
     rw [hxx] at hx hz
     rw [hyy] at hy hz
     have HZ := Aside0.mk hz
     have w4 : wrap64 (n - i) = n - i := by have := HIB.out; have := HJ.out; exact w64 (by omega) (by omega)
     have q0 := eq_true HIB.out.1
     have q1 := eq_true HIB.out.2.1
     have q2 := eq_true HIB.out.2.2.2.2
     have q3 := eq_true HIB.out.2.2.2.1
     clear hz hxx hyy
     go_wp2_with fail
     refine start_ (n := 14) (S := fun w' => w'.cell? (ad.add i.toNat) = some (.complex .f64 x1 x2) ∧ w'.cell? (bd.add (n - i).toNat) = some (.complex .f64 y1 y2)) (ds := [11, 12]) #[false, false, false, false, false, false, false, false, false, false, false, false, false, false] (by kernel_rfl) rfl rfl ⟨hx, hy⟩ (fun hHeld => ?_)
     have DW := Aside0.mk ((Below.refl wr.heap.size wr).drew)
     generalize wr.drew = W at hHeld DW ⊢
     refine pure_ (i := 0) (N := some 48) (v := ?_) (a' := ?_) #[true, false, false, false, false, false, false, false, false, false, false, false, false, false] rfl rfl (by kernel_rfl) (fun _ _ _ h => h) (Or.inl ⟨by rfl, ?_⟩) ?_ ?_
     rotate_left
     ·intro w'
      go_simp
      with_reducible rfl
     rotate_left
     ·simp only [Act.put, List.setIfInBounds_toArray, List.set_cons_zero, List.set_cons_succ, i64_w, i32_w]
      rfl
     refine pure_ (i := 1) (N := some 49) (v := ?_) (a' := ?_) #[true, true, false, false, false, false, false, false, false, false, false, false, false, false] rfl rfl (by kernel_rfl) (fun _ _ _ h => h) (Or.inl ⟨by rfl, ?_⟩) ?_ ?_
     rotate_left
     ·intro w'
      go_simp
      with_reducible rfl
     rotate_left
     ·simp only [Act.put, List.setIfInBounds_toArray, List.set_cons_zero, List.set_cons_succ, i64_w, i32_w]
      rfl
     refine pure_ (i := 2) (N := some 50) (v := ?_) (a' := ?_) #[true, true, true, false, false, false, false, false, false, false, false, false, false, false] rfl rfl (by kernel_rfl) (fun _ _ _ h => h) (Or.inl ⟨by rfl, ?_⟩) ?_ ?_
     rotate_left
     ·intro w'
      go_simp
      with_reducible rfl
     rotate_left
     ·simp only [Act.put, List.setIfInBounds_toArray, List.set_cons_zero, List.set_cons_succ, i64_w, i32_w]
      rfl
     refine pure_ (i := 3) (N := some 51) (v := ?_) (a' := ?_) #[true, true, true, true, false, false, false, false, false, false, false, false, false, false] rfl rfl (by kernel_rfl) (fun _ _ _ h => h) (Or.inl ⟨by rfl, ?_⟩) ?_ ?_
     rotate_left
     ·intro w'
      go_simp
      with_reducible rfl
     rotate_left
     ·simp only [Act.put, List.setIfInBounds_toArray, List.set_cons_zero, List.set_cons_succ, i64_w, i32_w]
      rfl
     refine pure_ (i := 5) (N := some 53) (v := ?_) (a' := ?_) #[true, true, true, true, false, true, false, false, false, false, false, false, false, false] rfl rfl (by kernel_rfl) (fun _ _ _ h => h) (Or.inl ⟨by rfl, ?_⟩) ?_ ?_
     rotate_left
     ·intro w'
      go_simp
      with_reducible rfl
     rotate_left
     ·simp only [Act.put, List.setIfInBounds_toArray, List.set_cons_zero, List.set_cons_succ, i64_w, i32_w]
      rfl
     refine pure_ (i := 6) (N := some 54) (v := ?_) (a' := ?_) #[true, true, true, true, false, true, true, false, false, false, false, false, false, false] rfl rfl (by kernel_rfl) (fun _ _ _ h => h) (Or.inl ⟨by rfl, ?_⟩) ?_ ?_
     rotate_left
     ·intro w'
      go_simp
      with_reducible rfl
     rotate_left
     ·simp only [Act.put, List.setIfInBounds_toArray, List.set_cons_zero, List.set_cons_succ, i64_w, i32_w]
      rfl
     refine pure_ (i := 7) (N := some 55) (v := ?_) (a' := ?_) #[true, true, true, true, false, true, true, true, false, false, false, false, false, false] rfl rfl (by kernel_rfl) (fun _ _ _ h => h) (Or.inl ⟨by rfl, ?_⟩) ?_ ?_
     rotate_left
     ·intro w'
      go_simp
      with_reducible rfl
     rotate_left
     ·simp only [Act.put, List.setIfInBounds_toArray, List.set_cons_zero, List.set_cons_succ, i64_w, i32_w]
      rfl
     refine pure_ (i := 8) (N := some 56) (v := ?_) (a' := ?_) #[true, true, true, true, false, true, true, true, true, false, false, false, false, false] rfl rfl (by kernel_rfl) (fun _ _ _ h => h) (Or.inl ⟨by rfl, ?_⟩) ?_ ?_
     rotate_left
     ·intro w'
      go_simp
      with_reducible rfl
     rotate_left
     ·simp only [Act.put, List.setIfInBounds_toArray, List.set_cons_zero, List.set_cons_succ, i64_w, i32_w]
      rfl
     refine pure_ (i := 9) (N := some 57) (v := ?_) (a' := ?_) #[true, true, true, true, false, true, true, true, true, true, false, false, false, false] rfl rfl (by kernel_rfl) (fun _ _ _ h => h) (Or.inl ⟨by rfl, ?_⟩) ?_ ?_
     rotate_left
     ·intro w'
      go_simp
      with_reducible rfl
     rotate_left
     ·simp only [Act.put, List.setIfInBounds_toArray, List.set_cons_zero, List.set_cons_succ, i64_w, i32_w]
      rfl
     refine take_ (i := 4) (N := some 52) (v := ?_) (a' := ?_) #[true, true, true, true, true, true, true, true, true, true, false, false, false, false] rfl rfl (by kernel_rfl) (fun _ _ _ h => h) (Or.inl ⟨by rfl, ?_⟩) hHeld ?_ ?_
     rotate_left
     ·rintro w' ⟨s0, s1⟩
      go_simp
      with_reducible rfl
     rotate_left
     ·simp only [Act.put, List.setIfInBounds_toArray, List.set_cons_zero, List.set_cons_succ, i64_w, i32_w]
      rfl
     refine take_ (i := 10) (N := some 58) (v := ?_) (a' := ?_) #[true, true, true, true, true, true, true, true, true, true, true, false, false, false] rfl rfl (by kernel_rfl) (fun _ _ _ h => h) (Or.inl ⟨by rfl, ?_⟩) hHeld ?_ ?_
     rotate_left
     ·rintro w' ⟨s0, s1⟩
      go_simp
      with_reducible rfl
     rotate_left
     ·simp only [Act.put, List.setIfInBounds_toArray, List.set_cons_zero, List.set_cons_succ, i64_w, i32_w]
      rfl
     refine last_ (i := 11) (N := some 59) #[true, true, true, true, true, true, true, true, true, true, true, true, false, false] rfl rfl (by kernel_rfl) (by decide) (fun K hK => ?_)
     refine goes_ Try.func59 (by kernel_rfl) rfl #[.complex .f64 x1 x2, .complex .f64 y1 y2] (by rfl) rfl rfl (by simp only [List.map_toArray, List.map_cons, List.map_nil]; rfl) ?_
     with_reducible refine (l01Times_calls x1 x2 y1 y2 _).mono ?_
     rintro e w2 ⟨⟨v2, rfl, pr, pi, rfl, hr, hi⟩, n3, rfl⟩
     refine ⟨_, rfl, ?_⟩
     refine hK.out _ _ ?_
     clear hK K
     refine norm_ (a' := ?_) ?_ ?_
     rotate_left
     ·show Act.put _ (some 59) _ = _
      simp only [Act.put, List.setIfInBounds_toArray, List.set_cons_zero, List.set_cons_succ, i64_w, i32_w]
      rfl
     refine last_ (i := 12) (N := some 60) #[true, true, true, true, true, true, true, true, true, true, true, true, true, false] rfl rfl (by kernel_rfl) (by decide) (fun K hK => ?_)
     refine value_ (w1 := ?_) (v := ?_) (by rfl) rfl ?_ ?_
     rotate_left 2
     ·go_simp
      constructor
      ·rfl
      ·rfl
     refine hK.out _ _ ?_
     clear hK K
     refine norm_ (a' := ?_) ?_ ?_
     rotate_left
     ·show Act.put _ (some 60) _ = _
      simp only [Act.put, List.setIfInBounds_toArray, List.set_cons_zero, List.set_cons_succ, i64_w, i32_w]
      rfl
     refine pure_ (i := 13) (N := some 8) (v := ?_) (a' := ?_) #[true, true, true, true, true, true, true, true, true, true, true, true, true, true] rfl rfl (by kernel_rfl) (fun _ _ _ h => h) (Or.inl ⟨by rfl, ?_⟩) ?_ ?_
     rotate_left
     ·intro w'
      go_simp
      with_reducible rfl
     rotate_left
     ·simp only [Act.put, List.setIfInBounds_toArray, List.set_cons_zero, List.set_cons_succ, i64_w, i32_w]
      rfl
     refine done_ (by kernel_rfl) ?_
     have HOW := Aside0.mk (HI.out.2.2.2.below DW.out)
     obtain ⟨r, hrr⟩ : ∃ r, fr .add s1 pr (W.drewN n3) = r := ⟨_, rfl⟩
     obtain ⟨ri, hri⟩ : ∃ r, fr .add s2 pi (W.drewN (n3 + fn .add s1 pr)) = r := ⟨_, rfl⟩
     rw [hrr, hri]
     have HSE := Aside0.mk (show sumE (s1, s2) (x1, x2) (y1, y2) = if isFin r && isFin ri then some (r, ri) else none from sumE_of (by rw [← hrr, can_fr, hr]) (by rw [← hri, can_fr, hi]))
     clear hrr hri hr hi hx hy w4 q0 q1 q2 q3
     cases hgs : (isFin r && isFin ri)
     ·have HRN := Aside0.mk (show R = none by
       have h1 := HZ.out
       rw [HSE.out, hgs] at h1
       have h2 : none = Z := h1
       have h3 := HM.out
       rw [← h2] at h3
       exact h3.symm)
      go_wp2_with fail
      refine (l01Finite_calls r ri _).mono ?_
      rintro e w4 ⟨rfl, n6, rfl⟩
      rw [hgs]
      go_wp2
      go_ret2
      rw [HRN.out]
      exact ResB.none_ (by repeat (first | exact HOW.out.low | refine pw_below_drewN ?_ _))
     ·have HZ2 := Aside0.mk (show mulS xs ys n q (i + 1) (r, ri) = Z by
       have h1 := HZ.out
       rw [HSE.out, hgs] at h1
       exact h1)
      go_wp2_with fail
      refine (l01Finite_calls r ri _).mono ?_
      rintro e w4 ⟨rfl, n6, rfl⟩
      rw [hgs]
      go_wp2_with fail
      go_roundg q
      case measure => omega
      case rel =>
       have e : wrap64 (i + 1) = i + 1 := by have := HIB.out; have := HNB.out; exact w64 (by omega) (by omega)
       exact ⟨r, ri, i + 1, rfl, by first | rfl | rw [e], ⟨HZ2.out, by have := HI.out; omega, by have := HI.out; omega, by repeat (first | exact HOW.out | refine Own.drewN ?_ _)⟩⟩
    | zero =>
     have HM2 := Aside0.mk (show (mulG xs ys k (n + 1)).map ((os ++ [(s1, s2)]) ++ ·) = R by
      have h1 : some (s1, s2) = Z := HI.out.1
      have h2 := HM.out
      rw [← h1] at h2
      have h3 : ((mulG xs ys k (n + 1)).map ((s1, s2) :: ·)).map (os ++ ·) = R := h2
      rw [← h3]
      cases mulG xs ys k (n + 1) <;> simp)
     have HOW := Aside0.mk HI.out.2.2.2
     by_cases hin : i ≤ n
     ·have hi' : decide (i ≤ n) = true := decide_eq_true hin
      have hi2 : decide (i < N) = false := decide_eq_false (fun h => by have h1 := HLH.out.2.2.2.2.2 i hin h; have := HI.out; omega)
      clear hin
      go_wp2_with (first | ((with_reducible refine gate_builtin (b := .append) (xs := #[.tmp 64, .tmp 66]) rfl ?_); at_builtin; refine Kd.R_append cxk (w0 := w) w.heap.size rfl (.tmp 64) (.tmp 66) 24 32 (.complex .f64 0 0) 16 rfl Try.underlying24 info_cx rfl (by decide) (by omega) _ os (s1, s2) [.complex .f64 _ _] (fun _ => True) (fun _ => False) rfl rfl ?aP (fun _ hk => hk.elim) ?aF ?aO ?aB ?aS ?aL ?_; (case aP => exact rfl); (case aF => exact (fun _ _ => trivial)); (case aB => repeat (first | exact HOW.out.low | (with_reducible refine pw_below_drewN ?_ _))); (case aO => repeat (first | exact HOW.out.row | (with_reducible refine Kd.R_drewN ?_ _))); (case aS => exact HOW.out.low.size); (case aL => have h1 := HJ.out; omega); intro v1 w4 ho hb hg hat))
      have EO := Aside0.mk (Own.mk ho hb)
      clear ho hb hg hat
      go_wp2_with fail
      go_roundg k
      case measure => omega
      case rel => exact ⟨n + 1, by first | rfl | rw [e3], ⟨⟨os ++ [(s1, s2)], EO.out, HM2.out, by have := HJ.out; simp; omega, by have := HJ.out; have := HNM.out; omega⟩⟩⟩
     ·have hi' : decide (i ≤ n) = false := decide_eq_false hin
      clear hin
      go_wp2_with (first | ((with_reducible refine gate_builtin (b := .append) (xs := #[.tmp 64, .tmp 66]) rfl ?_); at_builtin; refine Kd.R_append cxk (w0 := w) w.heap.size rfl (.tmp 64) (.tmp 66) 24 32 (.complex .f64 0 0) 16 rfl Try.underlying24 info_cx rfl (by decide) (by omega) _ os (s1, s2) [.complex .f64 _ _] (fun _ => True) (fun _ => False) rfl rfl ?bP (fun _ hk => hk.elim) ?bF ?bO ?bB ?bS ?bL ?_; (case bP => exact rfl); (case bF => exact (fun _ _ => trivial)); (case bB => repeat (first | exact HOW.out.low | (with_reducible refine pw_below_drewN ?_ _))); (case bO => repeat (first | exact HOW.out.row | (with_reducible refine Kd.R_drewN ?_ _))); (case bS => exact HOW.out.low.size); (case bL => have h1 := HJ.out; omega); intro v1 w4 ho hb hg hat))
      have EO := Aside0.mk (Own.mk ho hb)
      clear ho hb hg hat
      go_wp2_with fail
      go_roundg k
      case measure => omega
      case rel => exact ⟨n + 1, by first | rfl | rw [e3], ⟨⟨os ++ [(s1, s2)], EO.out, HM2.out, by have := HJ.out; simp; omega, by have := HJ.out; have := HNM.out; omega⟩⟩⟩
  | zero =>
   have hl' : decide (n + 1 < N + M) = false := decide_eq_false (by have := HNM.out; omega)
   have hq : some os = R := by
    have h : some (os ++ []) = R := hm
    rw [List.append_nil] at h
    exact h
   have HRS := Aside0.mk hq
   have HC := Aside0.mk ho
   clear hm ho hos hg hq
   go_wp2
   go_ret2
   rw [← HRS.out]
   exact ResB.some_ (by repeat (first | exact HC.out | refine Own.drewN ?_ _))
set_option maxRecDepth 100000 in
set_option maxHeartbeats 2000000 in
theorem specMultiplyParts_calls (A B : Option Addr) (c d : Nat) (xs ys : Cs) (w : World) (hr : cxk.C w A xs.length xs) (hr2 : cxk.C w B ys.length ys) (hl : xs.length ≤ 1000000000) (hl2 : ys.length ≤ 1000000000) : Calls Try.prog 7 #[.slice A xs.length c, .slice B ys.length d] w fun e w' => Res w (mulP xs ys) e w' := by
 have HR := Aside0.mk hr; have HL := Aside0.mk hl; have HR2 := Aside0.mk hr2; have HL2 := Aside0.mk hl2
 clear hr hr2 hl hl2
 obtain ⟨X, hX⟩ : ∃ X, mulP xs ys = X := ⟨_, rfl⟩
 rw [hX]
 unfold mulP at hX
 have HX := Aside0.mk hX
 clear hX
 cases h1 : partB xs
 ·go_enter Try.func7, Try.ntmps7
  go_wp2_with fail
  refine (l04Part_calls A c xs _ HR.out HL.out).mono ?_
  rintro e w1 ⟨rfl, n, rfl⟩
  rw [h1]
  go_wp2
  go_ret2
  rw [← HX.out, h1]
  exact Res.none_ (drawn_below _)
 cases h2 : partB ys
 ·go_enter Try.func7, Try.ntmps7
  go_wp2_with fail
  refine (l04Part_calls A c xs _ HR.out HL.out).mono ?_
  rintro e w1 ⟨rfl, n, rfl⟩
  rw [h1]
  go_wp2_with fail
  refine (l04Part_calls B d ys _ (Kd.C_drewN HR2.out _) HL2.out).mono ?_
  rintro e w1 ⟨rfl, n, rfl⟩
  rw [h2]
  go_wp2
  go_ret2
  rw [← HX.out, h1, h2]
  exact Res.none_ (by repeat (first | exact Below.refl _ _ | refine pw_below_drewN ?_ _))
 have P1 := Aside0.mk (partB_of h1); have P2 := Aside0.mk (partB_of h2)
 have HXT := Aside0.mk (show (match mulT xs ys with | some zs => fitF zs | none => ([], 3)) = X by
  rw [← HX.out, h1, h2, if_pos rfl, if_pos rfl]
  unfold mulT
  by_cases hz : xs.length = 0 ∨ ys.length = 0
  ·rw [if_pos hz, if_pos hz]; rfl
  rw [if_neg hz, if_neg hz]
  cases hm : mulG xs ys (xs.length + ys.length - 1) 0 with
  | none =>
   show (([], 3) : Cs × Int) = _
   by_cases hb : 13 < xs.length + ys.length - 1
   ·rw [if_pos hb]
   ·rw [if_neg hb]; rfl
  | some zs =>
   have hl := mulG_len _ _ _ _ _ hm
   have hf : finL zs = true := mulG_fin _ _ _ _ _ hm
   show fitF zs = _
   unfold fitF fitL
   rw [hl, hf]
   by_cases hb : 13 < xs.length + ys.length - 1
   ·rw [if_pos hb, if_neg (by omega)]
   ·rw [if_neg hb, if_pos (by omega)]; rfl)
 go_enter Try.func7, Try.ntmps7
 go_wp2_with fail
 refine (l04Part_calls A c xs _ HR.out HL.out).mono ?_
 rintro e w1 ⟨rfl, n1, rfl⟩
 rw [h1]
 go_wp2_with fail
 refine (l04Part_calls B d ys _ (Kd.C_drewN HR2.out _) HL2.out).mono ?_
 rintro e w1 ⟨rfl, n2, rfl⟩
 rw [h2]
 go_wp2_with fail
 refine (l04Times_calls A B c d xs ys _ (by repeat (first | exact HR.out | refine Kd.C_drewN ?_ _)) (by repeat (first | exact HR2.out | refine Kd.C_drewN ?_ _)) (by have := P1.out.1; omega) (by have := P2.out.1; omega)).mono ?_
 rintro e w1 ⟨G, cap, rfl, k1, k2, k3⟩
 have LB := Aside0.mk (show Below w.heap.size w w1 from (drawn_below _).trans k3)
 have HK := Aside0.mk (And.intro k1 k2)
 clear k1 k2 k3
 cases hm : mulT xs ys with
 | none =>
  rw [hm] at HXT HK
  go_wp2
  go_ret2
  rw [← HXT.out]
  exact Res.none_ LB.out
 | some zs =>
  rw [hm] at HXT HK
  have HLZ := Aside0.mk (show zs.length ≤ 1000 by
   unfold mulT at hm
   split at hm
   ·cases hm; simp
   ·rw [mulG_len _ _ _ _ _ hm]; have := P1.out.1; have := P2.out.1; omega)
  clear hm
  have HC := Aside0.mk (show cxk.C w1 G zs.length zs ∧ zs.length ≤ cap from HK.out)
  go_wp2_with fail
  refine (l04Fit_calls G cap zs _ HC.out.1 (by have := HLZ.out; omega) HC.out.2).mono ?_
  rw [show fitF zs = X from HXT.out]
  rintro e w3 ⟨G2, cap2, rfl, r1, r2, r3⟩
  have HZ := Aside0.mk (And.intro r1 (And.intro r2 (LB.out.trans (r3.mono LB.out.size))))
  clear r1 r2 r3
  go_wp2
  go_ret2
  exact ⟨G2, cap2, rfl, HZ.out.1, HZ.out.2.1, HZ.out.2.2⟩
end Go.Proofs.Ytgjdgbonmekpiaa
namespace Go.Proofs.Ytgjdgbonmekpiaa
open Go Ieee Go.RowKit Go.Proofs.Ytgjdgbonmekpiaa.Fl Go.Proofs.Ytgjdgbonmekpiaa.Fx Go.Proofs.Ytgjdgbonmekpiaa.P Go.Proofs.YtgjdgbonmekpiaaW.PrintWords Go.Proofs.YtgjdgbonmekpiaaW.PrintLast Go.Proofs.YtgjdgbonmekpiaaW.PrintMore
set_option linter.unusedVariables false
set_option linter.unusedSimpArgs false
attribute [local go_sem] run_add run_sub run_quo run_cadd run_csub run_neg run_cneg run_store_cx conv_f
theorem run_mul_some {P : Program} {x y r : Nat} (t : TypeId) (h : fb .mul x y = some r) (w : World) : (binOp .mul t (.float .f64 x) (.float .f64 y)).run P w = .ok (.float .f64 r) w := by
 rw [run_mul]
 unfold fr fn
 rw [h]
 simp
 rfl
def mulF (x : Nat) (n : Int) : Nat := (fb .mul x (floatOfInt .f64 n)).getD 0
theorem foi_fin (n : Int) (h0 : 0 ≤ n) (h1 : n ≤ 13) : isFin (floatOfInt .f64 n) = true := by
 obtain ⟨k, rfl⟩ : ∃ k : Nat, n = k := ⟨n.toNat, by omega⟩
 have hk : k ≤ 13 := by omega
 have : ∀ k : Fin 14, isFin (floatOfInt .f64 ((k.val : Nat) : Int)) = true := by decide +kernel
 exact this ⟨k, by omega⟩
theorem mulF_some {x : Nat} {n : Int} (hx : isFin x = true) (h0 : 0 ≤ n) (h1 : n ≤ 13) : fb .mul x (floatOfInt .f64 n) = some (mulF x n) := by
 obtain ⟨r, hr⟩ := fb_mul_some hx (foi_fin n h0 h1)
 unfold mulF
 rw [hr]
 rfl
def derG (xs : Cs) : Nat → Int → Cs
 | 0, _ => []
 | k + 1, i => (mulF (at_ xs i).1 i, mulF (at_ xs i).2 i) :: derG xs k (i + 1)
def derL (xs : Cs) : Cs := derG xs (xs.length - 1) 1
theorem derG_len (xs : Cs) : ∀ (k : Nat) (i : Int), (derG xs k i).length = k
 | 0, _ => rfl
 | k + 1, i => by unfold derG; rw [List.length_cons, derG_len xs k (i + 1)]
structure DerAt (xs : Cs) (w w' : World) (v : Value) (g : Nat) (i : Int) : Prop where
 at_ : ∃ os, Own w w' v os ∧ os ++ derG xs g i = derL xs ∧ (os.length : Int) + 1 = i ∧ i + g = max 1 (xs.length : Int)
set_option maxRecDepth 100000 in
set_option maxHeartbeats 4000000 in
theorem derivative_calls (A : Option Addr) (c : Nat) (xs : Cs) (w : World) (hr : cxk.C w A xs.length xs) (hl : xs.length ≤ 13) (hf : finL xs = true) : Calls Try.prog 43 #[.slice A xs.length c] w fun e w' => ∃ v, e = .returned v ∧ Own w w' v (derL xs) := by
 have HR := Aside0.mk hr; have HL := Aside0.mk hl; have HF := Aside0.mk hf
 obtain ⟨N, hN⟩ : ∃ N : Int, (xs.length : Int) = N := ⟨_, rfl⟩
 have HN := Aside0.mk hN
 clear hr hl hf
 go_enter Try.func43, Try.ntmps43
 have HO := Aside0.mk (Own.empty (Below.refl w.heap.size w))
 go_wp2_with fail
 go_loopg [3, 4] (xs.length - 1) (fun g v u w' => ∃ (i : Int), u = .int .i64 i ∧ Aside0 (DerAt xs w w' v g i))
 case atStart => exact ⟨1, rfl, ⟨⟨[], HO.out, rfl, rfl, by omega⟩⟩⟩
 case round =>
  clear HO
  obtain ⟨i, rfl, hj⟩ := hrel
  obtain ⟨os, ho, hd, hos, hg⟩ := hj.out.at_
  clear hj
  cases gk with
  | succ k =>
   have HO := Aside0.mk ho
   have HJ := Aside0.mk (show 0 ≤ i ∧ i < N ∧ i ≤ 12 ∧ (os.length : Int) + 1 = i ∧ i + k + 1 = N by have h1 := HL.out; omega)
   have hl' : decide (i < N) = true := decide_eq_true HJ.out.2.1
   obtain ⟨ad, rfl, hx⟩ := cx_at (Kd.C_below HR.out ho.low) i HJ.out.1 (by have := HJ.out; have := HN.out; omega)
   obtain ⟨⟨x1, x2⟩, hxx⟩ : ∃ z, rdOf (0, 0) xs i = z := ⟨_, rfl⟩
   have hfi := fin_at HF.out i HJ.out.1 (by have := HJ.out; have := HN.out; omega)
   unfold derG at_ at hd
   rw [hxx] at hx hd hfi
   rw [Bool.and_eq_true] at hfi
   have HD := Aside0.mk (show (os ++ [(mulF x1 i, mulF x2 i)]) ++ derG xs k (i + 1) = derL xs by rw [← hd]; simp)
   have m1 := fun t w => run_mul_some (P := Try.prog) t (mulF_some hfi.1 HJ.out.1 (by have := HJ.out; omega)) w
   have m2 := fun t w => run_mul_some (P := Try.prog) t (mulF_some hfi.2 HJ.out.1 (by have := HJ.out; omega)) w
   have q0 := eq_true HJ.out.1
   have q1 := eq_true HJ.out.2.1
   clear ho hd hos hg hxx hfi
   go_wp2_with fail
   refine start_ (n := 19) (S := fun w' => w'.cell? (ad.add i.toNat) = some (.complex .f64 x1 x2)) (ds := [16, 17]) #[false, false, false, false, false, false, false, false, false, false, false, false, false, false, false, false, false, false, false] (by kernel_rfl) rfl rfl (hx) (fun hHeld => ?_)
   have DW := Aside0.mk ((Below.refl wr.heap.size wr).drew)
   generalize wr.drew = W at hHeld DW ⊢
   refine pure_ (i := 0) (N := some 15) (v := ?_) (a' := ?_) #[true, false, false, false, false, false, false, false, false, false, false, false, false, false, false, false, false, false, false] rfl rfl (by kernel_rfl) (fun _ _ _ h => h) (Or.inl ⟨by rfl, ?_⟩) ?_ ?_
   rotate_left
   ·intro w'
    go_simp
    with_reducible rfl
   rotate_left
   ·simp only [Act.put, List.setIfInBounds_toArray, List.set_cons_zero, List.set_cons_succ, i64_w, i32_w]
    rfl
   refine pure_ (i := 1) (N := some 16) (v := ?_) (a' := ?_) #[true, true, false, false, false, false, false, false, false, false, false, false, false, false, false, false, false, false, false] rfl rfl (by kernel_rfl) (fun _ _ _ h => h) (Or.inl ⟨by rfl, ?_⟩) ?_ ?_
   rotate_left
   ·intro w'
    go_simp
    with_reducible rfl
   rotate_left
   ·simp only [Act.put, List.setIfInBounds_toArray, List.set_cons_zero, List.set_cons_succ, i64_w, i32_w]
    rfl
   refine pure_ (i := 2) (N := some 17) (v := ?_) (a' := ?_) #[true, true, true, false, false, false, false, false, false, false, false, false, false, false, false, false, false, false, false] rfl rfl (by kernel_rfl) (fun _ _ _ h => h) (Or.inl ⟨by rfl, ?_⟩) ?_ ?_
   rotate_left
   ·intro w'
    go_simp
    with_reducible rfl
   rotate_left
   ·simp only [Act.put, List.setIfInBounds_toArray, List.set_cons_zero, List.set_cons_succ, i64_w, i32_w]
    rfl
   refine pure_ (i := 3) (N := some 18) (v := ?_) (a' := ?_) #[true, true, true, true, false, false, false, false, false, false, false, false, false, false, false, false, false, false, false] rfl rfl (by kernel_rfl) (fun _ _ _ h => h) (Or.inl ⟨by rfl, ?_⟩) ?_ ?_
   rotate_left
   ·intro w'
    go_simp
    with_reducible rfl
   rotate_left
   ·simp only [Act.put, List.setIfInBounds_toArray, List.set_cons_zero, List.set_cons_succ, i64_w, i32_w]
    rfl
   refine pure_ (i := 6) (N := some 21) (v := ?_) (a' := ?_) #[true, true, true, true, false, false, true, false, false, false, false, false, false, false, false, false, false, false, false] rfl rfl (by kernel_rfl) (fun _ _ _ h => h) (Or.inl ⟨by rfl, ?_⟩) ?_ ?_
   rotate_left
   ·intro w'
    go_simp
    with_reducible rfl
   rotate_left
   ·simp only [Act.put, List.setIfInBounds_toArray, List.set_cons_zero, List.set_cons_succ, i64_w, i32_w]
    rfl
   refine pure_ (i := 8) (N := some 23) (v := ?_) (a' := ?_) #[true, true, true, true, false, false, true, false, true, false, false, false, false, false, false, false, false, false, false] rfl rfl (by kernel_rfl) (fun _ _ _ h => h) (Or.inl ⟨by rfl, ?_⟩) ?_ ?_
   rotate_left
   ·intro w'
    go_simp
    with_reducible rfl
   rotate_left
   ·simp only [Act.put, List.setIfInBounds_toArray, List.set_cons_zero, List.set_cons_succ, i64_w, i32_w]
    rfl
   refine pure_ (i := 9) (N := some 24) (v := ?_) (a' := ?_) #[true, true, true, true, false, false, true, false, true, true, false, false, false, false, false, false, false, false, false] rfl rfl (by kernel_rfl) (fun _ _ _ h => h) (Or.inl ⟨by rfl, ?_⟩) ?_ ?_
   rotate_left
   ·intro w'
    go_simp
    with_reducible rfl
   rotate_left
   ·simp only [Act.put, List.setIfInBounds_toArray, List.set_cons_zero, List.set_cons_succ, i64_w, i32_w]
    rfl
   refine pure_ (i := 10) (N := some 25) (v := ?_) (a' := ?_) #[true, true, true, true, false, false, true, false, true, true, true, false, false, false, false, false, false, false, false] rfl rfl (by kernel_rfl) (fun _ _ _ h => h) (Or.inl ⟨by rfl, ?_⟩) ?_ ?_
   rotate_left
   ·intro w'
    go_simp
    with_reducible rfl
   rotate_left
   ·simp only [Act.put, List.setIfInBounds_toArray, List.set_cons_zero, List.set_cons_succ, i64_w, i32_w]
    rfl
   refine pure_ (i := 13) (N := some 28) (v := ?_) (a' := ?_) #[true, true, true, true, false, false, true, false, true, true, true, false, false, true, false, false, false, false, false] rfl rfl (by kernel_rfl) (fun _ _ _ h => h) (Or.inl ⟨by rfl, ?_⟩) ?_ ?_
   rotate_left
   ·intro w'
    go_simp
    with_reducible rfl
   rotate_left
   ·simp only [Act.put, List.setIfInBounds_toArray, List.set_cons_zero, List.set_cons_succ, i64_w, i32_w]
    rfl
   refine take_ (i := 4) (N := some 19) (v := ?_) (a' := ?_) #[true, true, true, true, true, false, true, false, true, true, true, false, false, true, false, false, false, false, false] rfl rfl (by kernel_rfl) (fun _ _ _ h => h) (Or.inl ⟨by rfl, ?_⟩) hHeld ?_ ?_
   rotate_left
   ·intro w' s0
    go_simp
    with_reducible rfl
   rotate_left
   ·simp only [Act.put, List.setIfInBounds_toArray, List.set_cons_zero, List.set_cons_succ, i64_w, i32_w]
    rfl
   refine pure_ (i := 5) (N := some 20) (v := ?_) (a' := ?_) #[true, true, true, true, true, true, true, false, true, true, true, false, false, true, false, false, false, false, false] rfl rfl (by kernel_rfl) (fun _ _ _ h => h) (Or.inl ⟨by rfl, ?_⟩) ?_ ?_
   rotate_left
   ·intro w'
    go_simp
    with_reducible rfl
   rotate_left
   ·simp only [Act.put, List.setIfInBounds_toArray, List.set_cons_zero, List.set_cons_succ, i64_w, i32_w]
    rfl
   refine pure_ (i := 7) (N := some 22) (v := ?_) (a' := ?_) #[true, true, true, true, true, true, true, true, true, true, true, false, false, true, false, false, false, false, false] rfl rfl (by kernel_rfl) (fun _ _ _ h => h) (Or.inl ⟨by rfl, ?_⟩) ?_ ?_
   rotate_left
   ·intro w'
    go_simp
    with_reducible rfl
   rotate_left
   ·simp only [Act.put, List.setIfInBounds_toArray, List.set_cons_zero, List.set_cons_succ, i64_w, i32_w]
    rfl
   refine take_ (i := 11) (N := some 26) (v := ?_) (a' := ?_) #[true, true, true, true, true, true, true, true, true, true, true, true, false, true, false, false, false, false, false] rfl rfl (by kernel_rfl) (fun _ _ _ h => h) (Or.inl ⟨by rfl, ?_⟩) hHeld ?_ ?_
   rotate_left
   ·intro w' s0
    go_simp
    with_reducible rfl
   rotate_left
   ·simp only [Act.put, List.setIfInBounds_toArray, List.set_cons_zero, List.set_cons_succ, i64_w, i32_w]
    rfl
   refine pure_ (i := 12) (N := some 27) (v := ?_) (a' := ?_) #[true, true, true, true, true, true, true, true, true, true, true, true, true, true, false, false, false, false, false] rfl rfl (by kernel_rfl) (fun _ _ _ h => h) (Or.inl ⟨by rfl, ?_⟩) ?_ ?_
   rotate_left
   ·intro w'
    go_simp
    with_reducible rfl
   rotate_left
   ·simp only [Act.put, List.setIfInBounds_toArray, List.set_cons_zero, List.set_cons_succ, i64_w, i32_w]
    rfl
   refine pure_ (i := 14) (N := some 29) (v := ?_) (a' := ?_) #[true, true, true, true, true, true, true, true, true, true, true, true, true, true, true, false, false, false, false] rfl rfl (by kernel_rfl) (fun _ _ _ h => h) (Or.inl ⟨by rfl, ?_⟩) ?_ ?_
   rotate_left
   ·intro w'
    go_simp
    with_reducible rfl
   rotate_left
   ·simp only [Act.put, List.setIfInBounds_toArray, List.set_cons_zero, List.set_cons_succ, i64_w, i32_w]
    rfl
   refine pure_ (i := 15) (N := some 30) (v := ?_) (a' := ?_) #[true, true, true, true, true, true, true, true, true, true, true, true, true, true, true, true, false, false, false] rfl rfl (by kernel_rfl) (fun _ _ _ h => h) (Or.inl ⟨by rfl, ?_⟩) ?_ ?_
   rotate_left
   ·intro w'
    go_simp
    with_reducible rfl
   rotate_left
   ·simp only [Act.put, List.setIfInBounds_toArray, List.set_cons_zero, List.set_cons_succ, i64_w, i32_w]
    rfl
   refine last_ (i := 16) (N := some 31) #[true, true, true, true, true, true, true, true, true, true, true, true, true, true, true, true, true, false, false] rfl rfl (by kernel_rfl) (by decide) (fun K hK => ?_)
   refine value_ (w1 := ?_) (v := ?_) (by rfl) rfl ?_ ?_
   rotate_left 2
   ·go_simp
    constructor
    ·rfl
    ·rfl
   refine hK.out _ _ ?_
   clear hK K
   refine norm_ (a' := ?_) ?_ ?_
   rotate_left
   ·show Act.put _ (some 31) _ = _
    simp only [Act.put, List.setIfInBounds_toArray, List.set_cons_zero, List.set_cons_succ, i64_w, i32_w]
    rfl
   refine last_ (i := 17) (N := some 32) #[true, true, true, true, true, true, true, true, true, true, true, true, true, true, true, true, true, true, false] rfl rfl (by kernel_rfl) (by decide) (fun K hK => ?_)
   refine Kd.R_append_step cxk (w0 := w) w.heap.size (by rfl) (.tmp 15) (.tmp 31) 24 32 (.complex .f64 0 0) 16 rfl Try.underlying24 info_cx rfl (by decide) (by omega) _ os (mulF x1 i, mulF x2 i) [.complex .f64 _ _] (fun _ => True) (fun _ => False) rfl rfl ?aP (fun _ hk => hk.elim) ?aF ?aO ?aB ?aS ?aL ?_
   (case aP => exact rfl)
   (case aB => repeat (first | exact (HO.out.below DW.out).low | (with_reducible refine pw_below_drewN ?_ _)))
   (case aF => exact (fun _ _ => trivial))
   (case aO => repeat (first | exact (HO.out.below DW.out).row | (with_reducible refine Kd.R_drewN ?_ _)))
   (case aS => exact (HO.out.below DW.out).low.size)
   (case aL => have h1 := HJ.out; omega)
   intro v1 w4 ho hb hg hat
   refine hK.out _ _ ?_
   clear hK K
   refine norm_ (a' := ?_) ?_ ?_
   rotate_left
   ·show Act.put _ (some 32) _ = _
    simp only [Act.put, List.setIfInBounds_toArray, List.set_cons_zero, List.set_cons_succ, i64_w, i32_w]
    rfl
   refine pure_ (i := 18) (N := some 3) (v := ?_) (a' := ?_) #[true, true, true, true, true, true, true, true, true, true, true, true, true, true, true, true, true, true, true] rfl rfl (by kernel_rfl) (fun _ _ _ h => h) (Or.inl ⟨by rfl, ?_⟩) ?_ ?_
   rotate_left
   ·intro w'
    go_simp
    with_reducible rfl
   rotate_left
   ·simp only [Act.put, List.setIfInBounds_toArray, List.set_cons_zero, List.set_cons_succ, i64_w, i32_w]
    rfl
   refine done_ (by kernel_rfl) ?_
   have EO := Aside0.mk (Own.mk ho hb)
   clear ho hb hg hat
   go_wp2_with fail
   go_roundg k
   case measure => omega
   case rel =>
    have e : wrap64 (i + 1) = i + 1 := by have := HJ.out; exact w64 (by omega) (by omega)
    exact ⟨i + 1, by first | rfl | rw [e], ⟨⟨_, EO.out, HD.out, by have := HJ.out; simp; omega, by have := HJ.out; have := HN.out; omega⟩⟩⟩
  | zero =>
   have hl' : decide (i < N) = false := decide_eq_false (by have := HN.out; omega)
   have HD := Aside0.mk (show os = derL xs by rw [← hd]; exact (List.append_nil _).symm)
   have HO := Aside0.mk ho
   clear ho hd hos hg
   go_wp2
   go_ret
   exact ⟨_, rfl, by rw [← HD.out]; repeat (first | exact HO.out | refine Own.drewN ?_ _)⟩
set_option maxRecDepth 100000 in
set_option maxHeartbeats 4000000 in
theorem l04Derive_calls (A : Option Addr) (c : Nat) (xs : Cs) (w : World) (hr : cxk.C w A xs.length xs) (hl : xs.length ≤ 13) (hf : finL xs = true) : Calls Try.prog 44 #[.slice A xs.length c] w fun e w' => ∃ v, e = .returned v ∧ Own w w' v (derL xs) := by
 have HR := Aside0.mk hr; have HL := Aside0.mk hl; have HF := Aside0.mk hf
 obtain ⟨N, hN⟩ : ∃ N : Int, (xs.length : Int) = N := ⟨_, rfl⟩
 have HN := Aside0.mk hN
 clear hr hl hf
 go_enter Try.func44, Try.ntmps44
 have HO := Aside0.mk (Own.empty (Below.refl w.heap.size w))
 go_wp2_with fail
 go_loopg [3, 4] (xs.length - 1) (fun g v u w' => ∃ (i : Int), u = .int .i64 i ∧ Aside0 (DerAt xs w w' v g i))
 case atStart => exact ⟨1, rfl, ⟨⟨[], HO.out, rfl, rfl, by omega⟩⟩⟩
 case round =>
  clear HO
  obtain ⟨i, rfl, hj⟩ := hrel
  obtain ⟨os, ho, hd, hos, hg⟩ := hj.out.at_
  clear hj
  cases gk with
  | succ k =>
   have HO := Aside0.mk ho
   have HJ := Aside0.mk (show 0 ≤ i ∧ i < N ∧ i ≤ 12 ∧ (os.length : Int) + 1 = i ∧ i + k + 1 = N by have h1 := HL.out; omega)
   have hl' : decide (i < N) = true := decide_eq_true HJ.out.2.1
   obtain ⟨ad, rfl, hx⟩ := cx_at (Kd.C_below HR.out ho.low) i HJ.out.1 (by have := HJ.out; have := HN.out; omega)
   obtain ⟨⟨x1, x2⟩, hxx⟩ : ∃ z, rdOf (0, 0) xs i = z := ⟨_, rfl⟩
   have hfi := fin_at HF.out i HJ.out.1 (by have := HJ.out; have := HN.out; omega)
   unfold derG at_ at hd
   rw [hxx] at hx hd hfi
   rw [Bool.and_eq_true] at hfi
   have HD := Aside0.mk (show (os ++ [(mulF x1 i, mulF x2 i)]) ++ derG xs k (i + 1) = derL xs by rw [← hd]; simp)
   have m1 := fun t w => run_mul_some (P := Try.prog) t (mulF_some hfi.1 HJ.out.1 (by have := HJ.out; omega)) w
   have m2 := fun t w => run_mul_some (P := Try.prog) t (mulF_some hfi.2 HJ.out.1 (by have := HJ.out; omega)) w
   have q0 := eq_true HJ.out.1
   have q1 := eq_true HJ.out.2.1
   clear ho hd hos hg hxx hfi
   go_wp2_with fail
   refine start_ (n := 19) (S := fun w' => w'.cell? (ad.add i.toNat) = some (.complex .f64 x1 x2)) (ds := [16, 17]) #[false, false, false, false, false, false, false, false, false, false, false, false, false, false, false, false, false, false, false] (by kernel_rfl) rfl rfl (hx) (fun hHeld => ?_)
   have DW := Aside0.mk ((Below.refl wr.heap.size wr).drew)
   generalize wr.drew = W at hHeld DW ⊢
   refine pure_ (i := 0) (N := some 15) (v := ?_) (a' := ?_) #[true, false, false, false, false, false, false, false, false, false, false, false, false, false, false, false, false, false, false] rfl rfl (by kernel_rfl) (fun _ _ _ h => h) (Or.inl ⟨by rfl, ?_⟩) ?_ ?_
   rotate_left
   ·intro w'
    go_simp
    with_reducible rfl
   rotate_left
   ·simp only [Act.put, List.setIfInBounds_toArray, List.set_cons_zero, List.set_cons_succ, i64_w, i32_w]
    rfl
   refine pure_ (i := 1) (N := some 16) (v := ?_) (a' := ?_) #[true, true, false, false, false, false, false, false, false, false, false, false, false, false, false, false, false, false, false] rfl rfl (by kernel_rfl) (fun _ _ _ h => h) (Or.inl ⟨by rfl, ?_⟩) ?_ ?_
   rotate_left
   ·intro w'
    go_simp
    with_reducible rfl
   rotate_left
   ·simp only [Act.put, List.setIfInBounds_toArray, List.set_cons_zero, List.set_cons_succ, i64_w, i32_w]
    rfl
   refine pure_ (i := 2) (N := some 17) (v := ?_) (a' := ?_) #[true, true, true, false, false, false, false, false, false, false, false, false, false, false, false, false, false, false, false] rfl rfl (by kernel_rfl) (fun _ _ _ h => h) (Or.inl ⟨by rfl, ?_⟩) ?_ ?_
   rotate_left
   ·intro w'
    go_simp
    with_reducible rfl
   rotate_left
   ·simp only [Act.put, List.setIfInBounds_toArray, List.set_cons_zero, List.set_cons_succ, i64_w, i32_w]
    rfl
   refine pure_ (i := 3) (N := some 18) (v := ?_) (a' := ?_) #[true, true, true, true, false, false, false, false, false, false, false, false, false, false, false, false, false, false, false] rfl rfl (by kernel_rfl) (fun _ _ _ h => h) (Or.inl ⟨by rfl, ?_⟩) ?_ ?_
   rotate_left
   ·intro w'
    go_simp
    with_reducible rfl
   rotate_left
   ·simp only [Act.put, List.setIfInBounds_toArray, List.set_cons_zero, List.set_cons_succ, i64_w, i32_w]
    rfl
   refine pure_ (i := 6) (N := some 21) (v := ?_) (a' := ?_) #[true, true, true, true, false, false, true, false, false, false, false, false, false, false, false, false, false, false, false] rfl rfl (by kernel_rfl) (fun _ _ _ h => h) (Or.inl ⟨by rfl, ?_⟩) ?_ ?_
   rotate_left
   ·intro w'
    go_simp
    with_reducible rfl
   rotate_left
   ·simp only [Act.put, List.setIfInBounds_toArray, List.set_cons_zero, List.set_cons_succ, i64_w, i32_w]
    rfl
   refine pure_ (i := 8) (N := some 23) (v := ?_) (a' := ?_) #[true, true, true, true, false, false, true, false, true, false, false, false, false, false, false, false, false, false, false] rfl rfl (by kernel_rfl) (fun _ _ _ h => h) (Or.inl ⟨by rfl, ?_⟩) ?_ ?_
   rotate_left
   ·intro w'
    go_simp
    with_reducible rfl
   rotate_left
   ·simp only [Act.put, List.setIfInBounds_toArray, List.set_cons_zero, List.set_cons_succ, i64_w, i32_w]
    rfl
   refine pure_ (i := 9) (N := some 24) (v := ?_) (a' := ?_) #[true, true, true, true, false, false, true, false, true, true, false, false, false, false, false, false, false, false, false] rfl rfl (by kernel_rfl) (fun _ _ _ h => h) (Or.inl ⟨by rfl, ?_⟩) ?_ ?_
   rotate_left
   ·intro w'
    go_simp
    with_reducible rfl
   rotate_left
   ·simp only [Act.put, List.setIfInBounds_toArray, List.set_cons_zero, List.set_cons_succ, i64_w, i32_w]
    rfl
   refine pure_ (i := 10) (N := some 25) (v := ?_) (a' := ?_) #[true, true, true, true, false, false, true, false, true, true, true, false, false, false, false, false, false, false, false] rfl rfl (by kernel_rfl) (fun _ _ _ h => h) (Or.inl ⟨by rfl, ?_⟩) ?_ ?_
   rotate_left
   ·intro w'
    go_simp
    with_reducible rfl
   rotate_left
   ·simp only [Act.put, List.setIfInBounds_toArray, List.set_cons_zero, List.set_cons_succ, i64_w, i32_w]
    rfl
   refine pure_ (i := 13) (N := some 28) (v := ?_) (a' := ?_) #[true, true, true, true, false, false, true, false, true, true, true, false, false, true, false, false, false, false, false] rfl rfl (by kernel_rfl) (fun _ _ _ h => h) (Or.inl ⟨by rfl, ?_⟩) ?_ ?_
   rotate_left
   ·intro w'
    go_simp
    with_reducible rfl
   rotate_left
   ·simp only [Act.put, List.setIfInBounds_toArray, List.set_cons_zero, List.set_cons_succ, i64_w, i32_w]
    rfl
   refine take_ (i := 4) (N := some 19) (v := ?_) (a' := ?_) #[true, true, true, true, true, false, true, false, true, true, true, false, false, true, false, false, false, false, false] rfl rfl (by kernel_rfl) (fun _ _ _ h => h) (Or.inl ⟨by rfl, ?_⟩) hHeld ?_ ?_
   rotate_left
   ·intro w' s0
    go_simp
    with_reducible rfl
   rotate_left
   ·simp only [Act.put, List.setIfInBounds_toArray, List.set_cons_zero, List.set_cons_succ, i64_w, i32_w]
    rfl
   refine pure_ (i := 5) (N := some 20) (v := ?_) (a' := ?_) #[true, true, true, true, true, true, true, false, true, true, true, false, false, true, false, false, false, false, false] rfl rfl (by kernel_rfl) (fun _ _ _ h => h) (Or.inl ⟨by rfl, ?_⟩) ?_ ?_
   rotate_left
   ·intro w'
    go_simp
    with_reducible rfl
   rotate_left
   ·simp only [Act.put, List.setIfInBounds_toArray, List.set_cons_zero, List.set_cons_succ, i64_w, i32_w]
    rfl
   refine pure_ (i := 7) (N := some 22) (v := ?_) (a' := ?_) #[true, true, true, true, true, true, true, true, true, true, true, false, false, true, false, false, false, false, false] rfl rfl (by kernel_rfl) (fun _ _ _ h => h) (Or.inl ⟨by rfl, ?_⟩) ?_ ?_
   rotate_left
   ·intro w'
    go_simp
    with_reducible rfl
   rotate_left
   ·simp only [Act.put, List.setIfInBounds_toArray, List.set_cons_zero, List.set_cons_succ, i64_w, i32_w]
    rfl
   refine take_ (i := 11) (N := some 26) (v := ?_) (a' := ?_) #[true, true, true, true, true, true, true, true, true, true, true, true, false, true, false, false, false, false, false] rfl rfl (by kernel_rfl) (fun _ _ _ h => h) (Or.inl ⟨by rfl, ?_⟩) hHeld ?_ ?_
   rotate_left
   ·intro w' s0
    go_simp
    with_reducible rfl
   rotate_left
   ·simp only [Act.put, List.setIfInBounds_toArray, List.set_cons_zero, List.set_cons_succ, i64_w, i32_w]
    rfl
   refine pure_ (i := 12) (N := some 27) (v := ?_) (a' := ?_) #[true, true, true, true, true, true, true, true, true, true, true, true, true, true, false, false, false, false, false] rfl rfl (by kernel_rfl) (fun _ _ _ h => h) (Or.inl ⟨by rfl, ?_⟩) ?_ ?_
   rotate_left
   ·intro w'
    go_simp
    with_reducible rfl
   rotate_left
   ·simp only [Act.put, List.setIfInBounds_toArray, List.set_cons_zero, List.set_cons_succ, i64_w, i32_w]
    rfl
   refine pure_ (i := 14) (N := some 29) (v := ?_) (a' := ?_) #[true, true, true, true, true, true, true, true, true, true, true, true, true, true, true, false, false, false, false] rfl rfl (by kernel_rfl) (fun _ _ _ h => h) (Or.inl ⟨by rfl, ?_⟩) ?_ ?_
   rotate_left
   ·intro w'
    go_simp
    with_reducible rfl
   rotate_left
   ·simp only [Act.put, List.setIfInBounds_toArray, List.set_cons_zero, List.set_cons_succ, i64_w, i32_w]
    rfl
   refine pure_ (i := 15) (N := some 30) (v := ?_) (a' := ?_) #[true, true, true, true, true, true, true, true, true, true, true, true, true, true, true, true, false, false, false] rfl rfl (by kernel_rfl) (fun _ _ _ h => h) (Or.inl ⟨by rfl, ?_⟩) ?_ ?_
   rotate_left
   ·intro w'
    go_simp
    with_reducible rfl
   rotate_left
   ·simp only [Act.put, List.setIfInBounds_toArray, List.set_cons_zero, List.set_cons_succ, i64_w, i32_w]
    rfl
   refine last_ (i := 16) (N := some 31) #[true, true, true, true, true, true, true, true, true, true, true, true, true, true, true, true, true, false, false] rfl rfl (by kernel_rfl) (by decide) (fun K hK => ?_)
   refine value_ (w1 := ?_) (v := ?_) (by rfl) rfl ?_ ?_
   rotate_left 2
   ·go_simp
    constructor
    ·rfl
    ·rfl
   refine hK.out _ _ ?_
   clear hK K
   refine norm_ (a' := ?_) ?_ ?_
   rotate_left
   ·show Act.put _ (some 31) _ = _
    simp only [Act.put, List.setIfInBounds_toArray, List.set_cons_zero, List.set_cons_succ, i64_w, i32_w]
    rfl
   refine last_ (i := 17) (N := some 32) #[true, true, true, true, true, true, true, true, true, true, true, true, true, true, true, true, true, true, false] rfl rfl (by kernel_rfl) (by decide) (fun K hK => ?_)
   refine Kd.R_append_step cxk (w0 := w) w.heap.size (by rfl) (.tmp 15) (.tmp 31) 24 32 (.complex .f64 0 0) 16 rfl Try.underlying24 info_cx rfl (by decide) (by omega) _ os (mulF x1 i, mulF x2 i) [.complex .f64 _ _] (fun _ => True) (fun _ => False) rfl rfl ?aP (fun _ hk => hk.elim) ?aF ?aO ?aB ?aS ?aL ?_
   (case aP => exact rfl)
   (case aB => repeat (first | exact (HO.out.below DW.out).low | (with_reducible refine pw_below_drewN ?_ _)))
   (case aF => exact (fun _ _ => trivial))
   (case aO => repeat (first | exact (HO.out.below DW.out).row | (with_reducible refine Kd.R_drewN ?_ _)))
   (case aS => exact (HO.out.below DW.out).low.size)
   (case aL => have h1 := HJ.out; omega)
   intro v1 w4 ho hb hg hat
   refine hK.out _ _ ?_
   clear hK K
   refine norm_ (a' := ?_) ?_ ?_
   rotate_left
   ·show Act.put _ (some 32) _ = _
    simp only [Act.put, List.setIfInBounds_toArray, List.set_cons_zero, List.set_cons_succ, i64_w, i32_w]
    rfl
   refine pure_ (i := 18) (N := some 3) (v := ?_) (a' := ?_) #[true, true, true, true, true, true, true, true, true, true, true, true, true, true, true, true, true, true, true] rfl rfl (by kernel_rfl) (fun _ _ _ h => h) (Or.inl ⟨by rfl, ?_⟩) ?_ ?_
   rotate_left
   ·intro w'
    go_simp
    with_reducible rfl
   rotate_left
   ·simp only [Act.put, List.setIfInBounds_toArray, List.set_cons_zero, List.set_cons_succ, i64_w, i32_w]
    rfl
   refine done_ (by kernel_rfl) ?_
   have EO := Aside0.mk (Own.mk ho hb)
   clear ho hb hg hat
   go_wp2_with fail
   go_roundg k
   case measure => omega
   case rel =>
    have e : wrap64 (i + 1) = i + 1 := by have := HJ.out; exact w64 (by omega) (by omega)
    exact ⟨i + 1, by first | rfl | rw [e], ⟨⟨_, EO.out, HD.out, by have := HJ.out; simp; omega, by have := HJ.out; have := HN.out; omega⟩⟩⟩
  | zero =>
   have hl' : decide (i < N) = false := decide_eq_false (by have := HN.out; omega)
   have HD := Aside0.mk (show os = derL xs by rw [← hd]; exact (List.append_nil _).symm)
   have HO := Aside0.mk ho
   clear ho hd hos hg
   go_wp2
   go_ret
   exact ⟨_, rfl, by rw [← HD.out]; repeat (first | exact HO.out | refine Own.drewN ?_ _)⟩
end Go.Proofs.Ytgjdgbonmekpiaa
namespace Go.Proofs.Ytgjdgbonmekpiaa
open Go Ieee Go.RowKit Go.Proofs.Ytgjdgbonmekpiaa.Fl Go.Proofs.Ytgjdgbonmekpiaa.Fx Go.Proofs.Ytgjdgbonmekpiaa.P Go.Proofs.YtgjdgbonmekpiaaW.PrintWords Go.Proofs.YtgjdgbonmekpiaaW.PrintLast Go.Proofs.YtgjdgbonmekpiaaW.PrintMore
set_option linter.unusedVariables false
set_option linter.unusedSimpArgs false
theorem foi_read (n : Int) (h0 : 1 ≤ n) (h1 : n ≤ 13) : double.read (floatOfInt .f64 n) = .number false (n.toNat * 2 ^ (52 - n.toNat.log2)) (-((52 - n.toNat.log2 : Nat) : Int)) := by
 obtain ⟨k, rfl⟩ : ∃ k : Nat, n = k := ⟨n.toNat, by omega⟩
 have : ∀ k : Fin 14, 1 ≤ k.val → double.read (floatOfInt .f64 ((k.val : Nat) : Int)) = .number false (((k.val : Nat) : Int).toNat * 2 ^ (52 - ((k.val : Nat) : Int).toNat.log2)) (-((52 - ((k.val : Nat) : Int).toNat.log2 : Nat) : Int)) := by decide +kernel
 exact this ⟨k, by omega⟩ (by simp; omega)
theorem mulF_zero {x : Nat} {n : Int} (hf : isFin x = true) (h0 : 1 ≤ n) (h1 : n ≤ 13) (hr : isFin (mulF x n) = true) (hz : U (mulF x n) = 0) : U x = 0 := by
 obtain ⟨s, m, p, e1, e2, e3, e4, e5, e6⟩ := U_bound hf
 have key : mulF x n = double.nearest s (m * n.toNat * 2 ^ (p + 1074).toNat) (-1074) := by
  have hs := mulF_some hf (show 0 ≤ n by omega) h1
  have hp : ((double.read x).product (double.read (floatOfInt .f64 n))).map double.write = some (mulF x n) := hs
  rw [e1, foi_read n h0 h1] at hp
  simp only [Datum.product, Option.map_some, Option.some.injEq] at hp
  rw [← hp]
  show double.nearest (s ^^ false) (m * (n.toNat * 2 ^ (52 - n.toNat.log2))) (p + -((52 - n.toNat.log2 : Nat) : Int)) = _
  have a1 := nearest_shift s (m * n.toNat) p (52 - n.toNat.log2)
  have a2 := nearest_shift s (m * n.toNat) p (p + 1074).toNat
  rw [show p - (((p + 1074).toNat : Nat) : Int) = -1074 from by omega] at a2
  rw [show (s ^^ false) = s from by cases s <;> rfl, ← Nat.mul_assoc, show p + -((52 - n.toNat.log2 : Nat) : Int) = p - ((52 - n.toNat.log2 : Nat) : Int) from by omega, a1, a2]
 by_cases hm : m = 0
 ·subst hm
  rw [e6]
  cases s <;> simp [signed]
 ·exfalso
  have hX : m * n.toNat * 2 ^ (p + 1074).toNat ≠ 0 := Nat.mul_ne_zero (Nat.mul_ne_zero hm (by omega)) (Nat.pos_iff_ne_zero.1 (Nat.two_pow_pos _))
  rw [key] at hz hr
  have hge := vo_ge hX e2 (show m * 2 ^ (p + 1074).toNat ≤ m * n.toNat * 2 ^ (p + 1074).toNat from Nat.mul_le_mul_right _ (Nat.le_mul_of_pos_right _ (by omega)))
  have hpos : 0 < m * 2 ^ (p + 1074).toNat := Nat.mul_pos (Nat.pos_of_ne_zero hm) (Nat.two_pow_pos _)
  rcases nearest_fin s hX with ⟨_, e⟩ | e
  ·rw [e, signed_eq] at hz
   cases s <;> simp at hz <;> omega
  ·unfold isFin at hr
   rw [show rd64 _ = _ from e] at hr
   cases hr
end Go.Proofs.Ytgjdgbonmekpiaa
namespace Go.Proofs.Ytgjdgbonmekpiaa
open Go Ieee Go.RowKit Go.Proofs.Ytgjdgbonmekpiaa.Fl Go.Proofs.Ytgjdgbonmekpiaa.Fx Go.Proofs.Ytgjdgbonmekpiaa.P Go.Proofs.YtgjdgbonmekpiaaW.PrintWords Go.Proofs.YtgjdgbonmekpiaaW.PrintLast Go.Proofs.YtgjdgbonmekpiaaW.PrintMore
set_option linter.unusedVariables false
set_option linter.unusedSimpArgs false
attribute [local go_sem] run_add run_sub run_mul run_quo run_cadd run_csub run_neg run_cneg run_store_cx
theorem polyB_of {xs : Cs} (h : polyB xs = true) : 2 ≤ xs.length ∧ xs.length ≤ 13 ∧ finL xs = true ∧ lastZ xs = false := by
 unfold polyB at h
 simp only [Bool.and_eq_true, decide_eq_true_eq, Bool.not_eq_true'] at h
 exact ⟨h.1, h.2.1, h.2.2.1, h.2.2.2⟩
theorem trimL_self {zs : Cs} (h : lastZ zs = false) : trimL zs = zs := by
 unfold trimL
 cases hn : zs.length with
 | zero => rw [List.eq_nil_of_length_eq_zero hn]; rfl
 | succ k =>
  unfold lastZ at h
  rw [hn, show (((k + 1 : Nat) : Int) - 1) = (k : Int) by omega] at h
  unfold trimN
  rw [h]
  show zs.take (k + 1) = zs
  rw [← hn, List.take_length]
theorem zero_U {z : Nat × Nat} (h1 : isFin z.1 = true) (h2 : isFin z.2 = true) : zero_ z = true ↔ U z.1 = 0 ∧ U z.2 = 0 := by
 have f0 : isFin 0 = true := by decide
 have u0 : U 0 = 0 := by decide
 unfold zero_ isZ
 rw [Bool.and_eq_true, beq_iff_eq, beq_iff_eq, (gt_U f0 h1).2.2, (gt_U f0 h2).2.2, u0]
theorem derG_at (xs : Cs) : ∀ (k : Nat) (i : Int) (j : Nat), j < k → at_ (derG xs k i) (j : Int) = (mulF (at_ xs (i + j)).1 (i + j), mulF (at_ xs (i + j)).2 (i + j))
 | k + 1, i, 0, _ => by
  have e : i + ((0 : Nat) : Int) = i := by omega
  rw [e]
  rfl
 | k + 1, i, j + 1, h => by
  have e : i + ((j + 1 : Nat) : Int) = (i + 1) + (j : Int) := by omega
  rw [e, ← derG_at xs k (i + 1) j (by omega)]
  rfl
theorem derL_len (xs : Cs) : (derL xs).length = xs.length - 1 := derG_len xs _ _
theorem derL_trim {xs : Cs} (h : polyB xs = true) (hf : finL (derL xs) = true) : trimL (derL xs) = derL xs := by
 obtain ⟨h1, h2, h3, h4⟩ := polyB_of h
 apply trimL_self
 rw [Bool.eq_false_iff]
 intro hz
 unfold lastZ at hz
 have hl := derL_len xs
 have f1 := fin_at hf (((derL xs).length : Int) - 1) (by omega) (by omega)
 have f2 := fin_at h3 ((xs.length : Int) - 1) (by omega) (by omega)
 have e1 : at_ (derL xs) (((derL xs).length : Int) - 1) = (mulF (at_ xs ((xs.length : Int) - 1)).1 ((xs.length : Int) - 1), mulF (at_ xs ((xs.length : Int) - 1)).2 ((xs.length : Int) - 1)) := by
  have := derG_at xs (xs.length - 1) 1 (xs.length - 2) (by omega)
  rw [show ((derL xs).length : Int) - 1 = ((xs.length - 2 : Nat) : Int) by omega]
  rw [show (1 : Int) + ((xs.length - 2 : Nat) : Int) = (xs.length : Int) - 1 by omega] at this
  exact this
 rw [show rdOf (0, 0) (derL xs) (((derL xs).length : Int) - 1) = at_ (derL xs) (((derL xs).length : Int) - 1) from rfl, e1, Bool.and_eq_true] at f1
 rw [Bool.and_eq_true] at f2
 rw [e1, zero_U f1.1 f1.2] at hz
 have g1 := mulF_zero f2.1 (by omega) (by omega) f1.1 hz.1
 have g2 := mulF_zero f2.2 (by omega) (by omega) f1.2 hz.2
 have := (zero_U (z := at_ xs ((xs.length : Int) - 1)) f2.1 f2.2).2 ⟨g1, g2⟩
 unfold lastZ at h4
 rw [this] at h4
 cases h4
def derP (xs : Cs) : Cs × Int := if polyB xs then (if finL (derL xs) then (derL xs, 0) else ([], 3)) else ([], 1)
set_option maxRecDepth 100000 in
theorem DerivativeOf_calls (A : Option Addr) (c : Nat) (xs : Cs) (w : World) (hr : cxk.C w A xs.length xs) (hl : xs.length ≤ 1000000000) : Calls Try.prog 16 #[.slice A xs.length c] w fun e w' => Res w (derP xs) e w' := by
 have HR := Aside0.mk hr; have HL := Aside0.mk hl; clear hr hl
 unfold derP
 cases h1 : polyB xs
 ·go_enter Try.func16, Try.ntmps16
  go_wp2_with fail
  refine (IsPolynomial_calls A c xs _ HR.out HL.out).mono ?_
  rintro e w1 ⟨rfl, n, rfl⟩
  rw [h1]
  go_wp2
  go_ret2
  exact Res.none_ (drawn_below _)
 rw [if_pos rfl]
 have P1 := Aside0.mk (polyB_of h1)
 have HLZ := Aside0.mk (show (derL xs).length ≤ 13 by rw [derL_len]; have := P1.out.2.1; omega)
 obtain ⟨zs, hzs⟩ : ∃ zs, derL xs = zs := ⟨_, rfl⟩
 rw [hzs] at HLZ ⊢
 have HE := Aside0.mk hzs
 clear hzs
 go_enter Try.func16, Try.ntmps16
 go_wp2_with fail
 refine (IsPolynomial_calls A c xs _ HR.out HL.out).mono ?_
 rintro e w1 ⟨rfl, n, rfl⟩
 rw [h1]
 go_wp2_with fail
 refine (derivative_calls A c xs _ (Kd.C_drewN HR.out _) P1.out.2.1 P1.out.2.2.1).mono ?_
 rintro e w2 ⟨v, rfl, ho⟩
 rw [HE.out] at ho
 have HO := Aside0.mk (ho.lower (drawn_below _)); clear ho
 obtain ⟨B, d, rfl, hd, hB⟩ := HO.out.reads
 have HB := Aside0.mk (And.intro hd hB)
 clear hd hB
 cases hf : finL zs
 ·go_wp2_with fail
  refine (listOr_calls B d zs _ HB.out.2 (by have := HLZ.out; omega)).mono ?_
  rintro e w3 ⟨rfl, n3, rfl⟩
  rw [hf]
  go_wp2
  all_goals
   go_ret2
   exact Res.none_ (by repeat (first | exact HO.out.low | refine pw_below_drewN ?_ _))
 ·go_wp2_with fail
  refine (listOr_calls B d zs _ HB.out.2 (by have := HLZ.out; omega)).mono ?_
  rintro e w3 ⟨rfl, n3, rfl⟩
  rw [hf]
  go_wp2
  go_ret2
  exact ⟨B, d, rfl, Kd.C_drewN HB.out.2 _, HB.out.1, pw_below_drewN HO.out.low _⟩
set_option maxRecDepth 100000 in
theorem specDerivativeOf_calls (A : Option Addr) (c : Nat) (xs : Cs) (w : World) (hr : cxk.C w A xs.length xs) (hl : xs.length ≤ 1000000000) : Calls Try.prog 17 #[.slice A xs.length c] w fun e w' => Res w (derP xs) e w' := by
 have HR := Aside0.mk hr; have HL := Aside0.mk hl; clear hr hl
 obtain ⟨X, hX⟩ : ∃ X, derP xs = X := ⟨_, rfl⟩
 rw [hX]
 unfold derP at hX
 cases h1 : polyB xs
 ·rw [h1] at hX
  have HX := Aside0.mk (show (([], 1) : Cs × Int) = X from hX)
  clear hX
  go_enter Try.func17, Try.ntmps17
  go_wp2_with fail
  refine (l04Is_calls A c xs _ HR.out HL.out).mono ?_
  rintro e w1 ⟨rfl, n, rfl⟩
  rw [h1]
  go_wp2
  go_ret2
  rw [← HX.out]
  exact Res.none_ (drawn_below _)
 have P1 := Aside0.mk (polyB_of h1)
 have HX := Aside0.mk (show fitF (derL xs) = X by
  rw [← hX, h1, if_pos rfl]
  unfold fitF
  rw [if_pos (by rw [derL_len]; have := P1.out.2.1; omega)]
  cases hf : finL (derL xs)
  ·rfl
  ·rw [if_pos rfl, if_pos rfl, derL_trim h1 hf])
 clear hX
 go_enter Try.func17, Try.ntmps17
 go_wp2_with fail
 refine (l04Is_calls A c xs _ HR.out HL.out).mono ?_
 rintro e w1 ⟨rfl, n, rfl⟩
 rw [h1]
 go_wp2_with fail
 refine (l04Derive_calls A c xs _ (Kd.C_drewN HR.out _) P1.out.2.1 P1.out.2.2.1).mono ?_
 rintro e w2 ⟨v, rfl, ho⟩
 have HO := Aside0.mk (ho.lower (drawn_below _)); clear ho
 obtain ⟨B, d, rfl, hd, hB⟩ := HO.out.reads
 have HB := Aside0.mk (And.intro hd hB)
 clear hd hB
 go_wp2_with fail
 refine (l04Fit_calls B d (derL xs) _ HB.out.2 (by rw [derL_len]; have := P1.out.2.1; omega) HB.out.1).mono ?_
 rw [HX.out]
 rintro e w3 ⟨G2, cap2, rfl, r1, r2, r3⟩
 have HZ := Aside0.mk (And.intro r1 (And.intro r2 (HO.out.low.trans (r3.mono HO.out.low.size))))
 clear r1 r2 r3
 go_wp2
 go_ret2
 exact ⟨G2, cap2, rfl, HZ.out.1, HZ.out.2.1, HZ.out.2.2⟩
end Go.Proofs.Ytgjdgbonmekpiaa
namespace Go.Proofs.Ytgjdgbonmekpiaa
open Go Ieee Go.RowKit Go.Proofs.Ytgjdgbonmekpiaa.Fl Go.Proofs.Ytgjdgbonmekpiaa.Fx Go.Proofs.Ytgjdgbonmekpiaa.P Go.Proofs.YtgjdgbonmekpiaaW.PrintWords Go.Proofs.YtgjdgbonmekpiaaW.PrintLast Go.Proofs.YtgjdgbonmekpiaaW.PrintMore
set_option linter.unusedVariables false
set_option linter.unusedSimpArgs false
attribute [local go_sem] run_add run_sub run_mul run_quo run_cadd run_csub run_neg run_cneg run_store_cx
def one_n : Nat × Nat := (4607182418800017408, 0)
def monG (xs : Cs) (q : Nat × Nat) : Nat → Int → Option Cs
 | 0, _ => some [one_n]
 | k + 1, i => (stp quoO (at_ xs i).1 (at_ xs i).2 q.1 q.2).bind fun z => (monG xs q k (i + 1)).map (z :: ·)
def monL (xs : Cs) : Option Cs := monG xs (at_ xs ((xs.length : Int) - 1)) (xs.length - 1) 0
def monP (xs : Cs) : Cs × Int := if polyB xs then (match monL xs with | some zs => (zs, 0) | none => ([], 3)) else ([], 1)
theorem monG_len (xs : Cs) (q : Nat × Nat) : ∀ (k : Nat) (i : Int) (zs : Cs), monG xs q k i = some zs → zs.length = k + 1 ∧ at_ zs k = one_n
 | 0, _, zs, h => by cases h; exact ⟨rfl, rfl⟩
 | k + 1, i, zs, h => by
  unfold monG at h
  obtain ⟨z, _, h2⟩ := Option.bind_eq_some_iff.1 h
  obtain ⟨l, h3, rfl⟩ := Option.map_eq_some_iff.1 h2
  obtain ⟨h4, h5⟩ := monG_len xs q k (i + 1) l h3
  exact ⟨by rw [List.length_cons, h4], h5⟩
structure Mons (xs : Cs) (q : Nat × Nat) (R : Option Cs) (os : Cs) (k : Nat) (i : Int) : Prop where
 ok : finL os = true → R = (monG xs q k i).map (os ++ ·)
 no : finL os = false → R = none
theorem Mons.next {xs : Cs} {q : Nat × Nat} {R : Option Cs} {os : Cs} {k : Nat} {i : Int} {a b : Nat} (h : Mons xs q R os (k + 1) i) (ha : can a = (quoO (at_ xs i).1 (at_ xs i).2 q.1 q.2).1) (hb : can b = (quoO (at_ xs i).1 (at_ xs i).2 q.1 q.2).2) : Mons xs q R (os ++ [(a, b)]) k (i + 1) := by
 have e := stp_of ha hb
 have key : monG xs q (k + 1) i = ((stp quoO (at_ xs i).1 (at_ xs i).2 q.1 q.2).bind fun z => (monG xs q k (i + 1)).map (z :: ·)) := rfl
 rw [e] at key
 constructor
 ·intro hf
  rw [finL_append, finL_one, Bool.and_eq_true] at hf
  rw [h.ok hf.1, key, if_pos hf.2]
  cases monG xs q k (i + 1) <;> simp
 ·intro hf
  rw [finL_append, finL_one] at hf
  cases h1 : finL os
  ·exact h.no h1
  ·rw [h1, Bool.true_and] at hf
   rw [h.ok h1, key, hf]
   rfl
theorem Mons.done {xs : Cs} {q : Nat × Nat} {R : Option Cs} {os : Cs} {i : Int} (h : Mons xs q R os 0 i) : R = if finL (os ++ [one_n]) then some (os ++ [one_n]) else none := by
 rw [finL_append, show finL [one_n] = true by decide, Bool.and_true]
 cases h1 : finL os
 ·exact h.no h1
 ·rw [h.ok h1]; rfl
structure MonAt (xs : Cs) (q : Nat × Nat) (R : Option Cs) (w w' : World) (v : Value) (g : Nat) (i : Int) : Prop where
 at_ : ∃ os, Own w w' v os ∧ Mons xs q R os g i ∧ (os.length : Int) = i ∧ i + g = (xs.length : Int) - 1
set_option maxRecDepth 100000 in
set_option maxHeartbeats 4000000 in
theorem monic_calls (A : Option Addr) (c : Nat) (xs : Cs) (w : World) (hr : cxk.C w A xs.length xs) (hl : xs.length ≤ 13) (h2 : 1 ≤ xs.length) (hc : xs.length ≤ c) (hq : (at_ xs ((xs.length : Int) - 1)).1 < 2 ^ 64 ∧ (at_ xs ((xs.length : Int) - 1)).2 < 2 ^ 64) : Calls Try.prog 40 #[.slice A xs.length c] w fun e w' => ∃ v zs, e = .returned v ∧ Own w w' v zs ∧ zs.length = xs.length ∧ monL xs = if finL zs then some zs else none := by
 have HR := Aside0.mk hr; have HL := Aside0.mk (And.intro hl (And.intro h2 hc))
 obtain ⟨N, hN⟩ : ∃ N : Int, (xs.length : Int) = N := ⟨_, rfl⟩
 obtain ⟨ad, rfl, hlast⟩ := cx_last hr hN (by omega) (by omega)
 obtain ⟨q, hqq⟩ : ∃ q, at_ xs ((xs.length : Int) - 1) = q := ⟨_, rfl⟩
 obtain ⟨R, hR⟩ : ∃ R, monL xs = R := ⟨_, rfl⟩
 rw [hR]
 unfold monL at hR
 rw [hqq] at hR hlast hq
 obtain ⟨q1, q2⟩ := q
 have HLA := Aside0.mk hlast
 have HQ := Aside0.mk hq
 have HRR := Aside0.mk hR
 have HN := Aside0.mk hN
 have w3 : wrap64 (N - 1) = N - 1 := w64 (by omega) (by omega)
 obtain ⟨K, hK⟩ : ∃ K, xs.length - 1 = K := ⟨_, rfl⟩
 have HK := Aside0.mk hK
 obtain ⟨KI, hKI⟩ : ∃ KI : Int, (K : Int) = KI := ⟨_, rfl⟩
 have HKI := Aside0.mk (show N - 1 = KI by omega)
 obtain ⟨i0, hi0, -, -, -⟩ := info_parts info_cx
 have hsl := cut_to (P := Try.prog) 24 32 .i64 Try.underlying24 hi0 (some ad) xs.length c (N - 1) (by omega) (by omega) hc
 rw [show (N - 1).toNat = K by omega] at hsl
 clear hi0 hr hl h2 hc hq hR hqq hlast hK
 go_enter Try.func40, Try.ntmps40
 have HO := Aside0.mk (Own.empty (Below.refl w.heap.size w))
 go_wp2_with fail
 try simp only [w3]
 go_loopg [3, 15] K (fun g v u w' => ∃ (i : Int), u = .int .i64 i ∧ Aside0 (MonAt xs (q1, q2) R w w' v g i))
 case atStart => exact ⟨0, rfl, ⟨⟨[], HO.out, ⟨fun _ => by rw [HK.out] at HRR; rw [← HRR.out]; cases monG xs (q1, q2) K 0 <;> rfl, fun h => by cases h⟩, rfl, by have := HK.out; have := HL.out; omega⟩⟩⟩
 case round =>
  clear HO HRR
  obtain ⟨i, rfl, hj⟩ := hrel
  obtain ⟨os, ho, hd, hos, hg⟩ := hj.out.at_
  clear hj
  cases gk with
  | succ k =>
   have HO := Aside0.mk ho
   have HJ := Aside0.mk (show 0 ≤ i ∧ i < KI ∧ i ≤ 12 ∧ (os.length : Int) = i ∧ i + k + 1 = N - 1 by have h1 := HL.out; have h2 := HN.out; have h3 := HKI.out; omega)
   have hl' : decide (i < KI) = true := decide_eq_true HJ.out.2.1
   obtain ⟨ad', e', hx⟩ := cx_at (Kd.C_below HR.out ho.low) i HJ.out.1 (by have := HJ.out; have := HN.out; omega)
   cases e'
   have hy := pw_cell_below ho.low HLA.out
   obtain ⟨⟨x1, x2⟩, hxx⟩ : ∃ z, rdOf (0, 0) xs i = z := ⟨_, rfl⟩
   rw [hxx] at hx
   have HX := Aside0.mk (show at_ xs i = (x1, x2) from hxx)
   have HD := Aside0.mk hd
   have q0 := eq_true HJ.out.1
   have q1' := eq_true HJ.out.2.1
   have p0 : 0 < N := by have := HL.out; omega
   have p1 : N ≤ 13 := by have := HL.out; omega
   clear ho hd hos hg hxx
   go_wp2_with fail
   refine (divide_calls x1 x2 q1 q2 HQ.out.1 HQ.out.2 _).mono ?_
   rintro e w2 ⟨⟨v2, rfl, r, ri, rfl, hr, hi⟩, n3, rfl⟩
   have HD2 := Aside0.mk (HD.out.next (a := r) (b := ri) (by rw [HX.out]; exact hr) (by rw [HX.out]; exact hi))
   clear hr hi
   go_wp2_with (first | ((with_reducible refine gate_builtin (b := .append) (xs := #[.tmp 19, .tmp 26]) rfl ?_); at_builtin; refine Kd.R_append cxk (w0 := w) w.heap.size rfl (.tmp 19) (.tmp 26) 24 32 (.complex .f64 0 0) 16 rfl Try.underlying24 info_cx rfl (by decide) (by omega) _ os (r, ri) [.complex .f64 _ _] (fun _ => True) (fun _ => False) rfl rfl ?aP (fun _ hk => hk.elim) ?aF ?aO ?aB ?aS ?aL ?_; (case aP => exact rfl); (case aF => exact (fun _ _ => trivial)); (case aB => repeat (first | exact HO.out.low | (with_reducible refine pw_below_drewN ?_ _))); (case aO => repeat (first | exact HO.out.row | (with_reducible refine Kd.R_drewN ?_ _))); (case aS => exact HO.out.low.size); (case aL => have h1 := HJ.out; omega); intro v1 w4 ho hb hg hat))
   have EO := Aside0.mk (Own.mk ho hb)
   clear ho hb hg hat
   go_wp2_with fail
   go_roundg k
   case measure => omega
   case rel =>
    have e : wrap64 (i + 1) = i + 1 := by have := HJ.out; exact w64 (by omega) (by omega)
    exact ⟨i + 1, by first | rfl | rw [e], ⟨⟨_, EO.out, HD2.out, by have := HJ.out; simp; omega, by have := HJ.out; have := HN.out; omega⟩⟩⟩
  | zero =>
   have hl' : decide (i < KI) = false := decide_eq_false (by have := HN.out; have := HKI.out; omega)
   have HD := Aside0.mk hd.done
   have HO := Aside0.mk ho
   have HJ := Aside0.mk (show os.length + 1 = xs.length by have := HL.out; omega)
   clear ho hd hos hg
   go_wp2_with (first | ((with_reducible refine gate_builtin (b := .append) (xs := #[.tmp 29, .tmp 30]) rfl ?_); at_builtin; refine Kd.R_append cxk (w0 := w) w.heap.size rfl (.tmp 29) (.tmp 30) 24 32 (.complex .f64 0 0) 16 rfl Try.underlying24 info_cx rfl (by decide) (by omega) _ os one_n [.complex .f64 _ _] (fun _ => True) (fun _ => False) rfl rfl ?bP (fun _ hk => hk.elim) ?bF ?bO ?bB ?bS ?bL ?_; (case bP => exact rfl); (case bF => exact (fun _ _ => trivial)); (case bB => repeat (first | exact HO.out.low | (with_reducible refine pw_below_drewN ?_ _))); (case bO => repeat (first | exact HO.out.row | (with_reducible refine Kd.R_drewN ?_ _))); (case bS => exact HO.out.low.size); (case bL => have h1 := HJ.out; have h2 := HL.out; omega); intro v1 w4 ho hb hg hat))
   have EO := Aside0.mk (Own.mk ho hb)
   clear ho hb hg hat
   go_wp2
   go_ret
   exact ⟨_, _, rfl, EO.out, by rw [List.length_append, List.length_singleton]; exact HJ.out, HD.out⟩
theorem words_at {P : Cs} (h : ∀ p ∈ P, p.1 < 2 ^ 64 ∧ p.2 < 2 ^ 64) (j : Int) (h0 : 0 ≤ j) (h1 : j < P.length) : (at_ P j).1 < 2 ^ 64 ∧ (at_ P j).2 < 2 ^ 64 := by
 apply h
 unfold at_ rdOf
 rw [List.getD_eq_getElem?_getD, List.getElem?_eq_getElem (by omega)]
 exact List.getElem_mem _
set_option maxRecDepth 100000 in
theorem MakeMonic_calls (A : Option Addr) (c : Nat) (xs : Cs) (w : World) (hr : cxk.C w A xs.length xs) (hl : xs.length ≤ 1000000000) (hc : xs.length ≤ c) (hw : ∀ p ∈ xs, p.1 < 2 ^ 64 ∧ p.2 < 2 ^ 64) : Calls Try.prog 13 #[.slice A xs.length c] w fun e w' => Res w (monP xs) e w' := by
 have HR := Aside0.mk hr; have HL := Aside0.mk hl; have HC := Aside0.mk hc; have HW := Aside0.mk hw; clear hr hl hc hw
 unfold monP
 cases h1 : polyB xs
 ·go_enter Try.func13, Try.ntmps13
  go_wp2_with fail
  refine (IsPolynomial_calls A c xs _ HR.out HL.out).mono ?_
  rintro e w1 ⟨rfl, n, rfl⟩
  rw [h1]
  go_wp2
  go_ret2
  exact Res.none_ (drawn_below _)
 rw [if_pos rfl]
 obtain ⟨X, hX⟩ : ∃ X, (match monL xs with | some zs => (zs, 0) | none => (([], 3) : Cs × Int)) = X := ⟨_, rfl⟩
 rw [hX]
 have HX := Aside0.mk hX
 clear hX
 have P1 := Aside0.mk (polyB_of h1)
 go_enter Try.func13, Try.ntmps13
 go_wp2_with fail
 refine (IsPolynomial_calls A c xs _ HR.out HL.out).mono ?_
 rintro e w1 ⟨rfl, n, rfl⟩
 rw [h1]
 go_wp2_with fail
 refine (monic_calls A c xs _ (Kd.C_drewN HR.out _) P1.out.2.1 (by have := P1.out.1; omega) HC.out (words_at HW.out _ (by have := P1.out.1; omega) (by omega))).mono ?_
 rintro e w2 ⟨v, zs, rfl, ho, hz, hm⟩
 rw [hm] at HX
 have HO := Aside0.mk (ho.lower (drawn_below _))
 have HZ := Aside0.mk hz
 clear ho hz hm
 obtain ⟨B, d, rfl, hd, hB⟩ := HO.out.reads
 have HB := Aside0.mk (And.intro hd hB)
 clear hd hB
 cases hf : finL zs
 ·rw [hf] at HX
  go_wp2_with fail
  refine (listOr_calls B d zs _ HB.out.2 (by have := HZ.out; have := P1.out.2.1; omega)).mono ?_
  rintro e w3 ⟨rfl, n3, rfl⟩
  rw [hf]
  go_wp2
  all_goals
   go_ret2
   rw [← HX.out]
   exact Res.none_ (by repeat (first | exact HO.out.low | refine pw_below_drewN ?_ _))
 ·rw [hf] at HX
  go_wp2_with fail
  refine (listOr_calls B d zs _ HB.out.2 (by have := HZ.out; have := P1.out.2.1; omega)).mono ?_
  rintro e w3 ⟨rfl, n3, rfl⟩
  rw [hf]
  go_wp2
  go_ret2
  rw [← HX.out]
  exact ⟨B, d, rfl, Kd.C_drewN HB.out.2 _, HB.out.1, pw_below_drewN HO.out.low _⟩
end Go.Proofs.Ytgjdgbonmekpiaa
namespace Go.Proofs.Ytgjdgbonmekpiaa
open Go Ieee Go.RowKit Go.Proofs.Ytgjdgbonmekpiaa.Fl Go.Proofs.Ytgjdgbonmekpiaa.Fx Go.Proofs.Ytgjdgbonmekpiaa.P Go.Proofs.YtgjdgbonmekpiaaW.PrintWords Go.Proofs.YtgjdgbonmekpiaaW.PrintLast Go.Proofs.YtgjdgbonmekpiaaW.PrintMore
set_option linter.unusedVariables false
set_option linter.unusedSimpArgs false
attribute [local go_sem] run_add run_sub run_mul run_quo run_cadd run_csub run_neg run_cneg run_store_cx
structure MonBt (xs : Cs) (q : Nat × Nat) (R : Option Cs) (w w' : World) (v : Value) (g : Nat) (i : Int) : Prop where
 at_ : ∃ os, Own w w' v os ∧ R = (monG xs q g i).map (os ++ ·) ∧ (os.length : Int) = i ∧ i + g = (xs.length : Int) - 1
set_option maxRecDepth 100000 in
set_option maxHeartbeats 4000000 in
theorem l04Monic_calls (A : Option Addr) (c : Nat) (xs : Cs) (w : World) (hr : cxk.C w A xs.length xs) (hl : xs.length ≤ 13) (h2 : 1 ≤ xs.length) (hf : finL xs = true) (hz : lastZ xs = false) : Calls Try.prog 42 #[.slice A xs.length c] w fun e w' => ResB w (monL xs) e w' := by
 have HR := Aside0.mk hr; have HL := Aside0.mk (And.intro hl h2); have HF := Aside0.mk hf
 obtain ⟨N, hN⟩ : ∃ N : Int, (xs.length : Int) = N := ⟨_, rfl⟩
 obtain ⟨ad, rfl, hlast⟩ := cx_last hr hN (by omega) (by omega)
 have hfq := fin_at hf ((xs.length : Int) - 1) (by omega) (by omega)
 obtain ⟨q, hqq⟩ : ∃ q, at_ xs ((xs.length : Int) - 1) = q := ⟨_, rfl⟩
 obtain ⟨R, hR⟩ : ∃ R, monL xs = R := ⟨_, rfl⟩
 rw [hR]
 unfold monL at hR
 unfold lastZ at hz
 rw [show rdOf (0, 0) xs ((xs.length : Int) - 1) = q from hqq, Bool.and_eq_true] at hfq
 rw [hqq] at hR hlast hz
 obtain ⟨q1, q2⟩ := q
 have HLA := Aside0.mk hlast
 have HQ := Aside0.mk (And.intro hfq.1 (And.intro hfq.2 (show isZ q1 q2 = false from hz)))
 have HRR := Aside0.mk hR
 have HN := Aside0.mk hN
 have w3 : wrap64 (N - 1) = N - 1 := w64 (by omega) (by omega)
 obtain ⟨K, hK⟩ : ∃ K, xs.length - 1 = K := ⟨_, rfl⟩
 have HK := Aside0.mk hK
 have p0 : 0 < N := by omega
 have p1 : N ≤ 13 := by omega
 clear hr hl h2 hz hf hR hqq hlast hK hfq
 go_enter Try.func42, Try.ntmps42
 have HO := Aside0.mk (Own.empty (Below.refl w.heap.size w))
 go_wp2_with fail
 go_loopg [4, 6] K (fun g v u w' => ∃ (i : Int), u = .int .i64 i ∧ Aside0 (MonBt xs (q1, q2) R w w' v g i))
 case atStart => exact ⟨0, rfl, ⟨⟨[], HO.out, by rw [HK.out] at HRR; rw [← HRR.out]; cases monG xs (q1, q2) K 0 <;> rfl, rfl, by have := HK.out; have := HL.out; omega⟩⟩⟩
 case round =>
  clear HO HRR
  obtain ⟨i, rfl, hj⟩ := hrel
  obtain ⟨os, ho, hd, hos, hg⟩ := hj.out.at_
  clear hj
  have e3 : wrap64 (i + 1) = i + 1 := by have := HL.out; have := HN.out; exact w64 (by omega) (by omega)
  cases gk with
  | succ k =>
   have HO := Aside0.mk ho
   have HJ := Aside0.mk (show 0 ≤ i ∧ i < N ∧ i ≤ 12 ∧ (os.length : Int) = i ∧ i + k + 1 = N - 1 by have h1 := HL.out; have h2 := HN.out; omega)
   have hl' : decide (i + 1 < N) = true := decide_eq_true (by have := HJ.out; omega)
   obtain ⟨ad', e', hx⟩ := cx_at (Kd.C_below HR.out ho.low) i HJ.out.1 (by have := HJ.out; have := HN.out; omega)
   cases e'
   have hy := pw_cell_below ho.low HLA.out
   obtain ⟨⟨x1, x2⟩, hxx⟩ : ∃ z, rdOf (0, 0) xs i = z := ⟨_, rfl⟩
   have hfx := fin_at HF.out i HJ.out.1 (by have := HJ.out; have := HN.out; omega)
   rw [hxx, Bool.and_eq_true] at hfx
   rw [hxx] at hx
   have HX := Aside0.mk (And.intro (show at_ xs i = (x1, x2) from hxx) hfx)
   have HD := Aside0.mk hd
   have q0 := eq_true HJ.out.1
   have q1' := eq_true HJ.out.2.1
   have q2' := eq_true (show 1 ≤ N by omega)
   have q3' := eq_true (show N - 1 < N by omega)
   clear ho hd hos hg hxx hfx
   go_wp2_with fail
   refine start_ (n := 11) (S := fun w' => w'.cell? (ad.add i.toNat) = some (.complex .f64 x1 x2) ∧ w'.cell? (ad.add (N.toNat - 1)) = some (.complex .f64 q1 q2)) (ds := [9]) #[false, false, false, false, false, false, false, false, false, false, false] (by kernel_rfl) rfl rfl ⟨hx, hy⟩ (fun hHeld => ?_)
   have DW := Aside0.mk ((Below.refl wr.heap.size wr).drew)
   generalize wr.drew = W at hHeld DW ⊢
   refine pure_ (i := 0) (N := some 17) (v := ?_) (a' := ?_) #[true, false, false, false, false, false, false, false, false, false, false] rfl rfl (by kernel_rfl) (fun _ _ _ h => h) (Or.inl ⟨by rfl, ?_⟩) ?_ ?_
   rotate_left
   ·intro w'
    go_simp
    with_reducible rfl
   rotate_left
   ·simp only [Act.put, List.setIfInBounds_toArray, List.set_cons_zero, List.set_cons_succ, i64_w, i32_w]
    rfl
   refine pure_ (i := 1) (N := some 18) (v := ?_) (a' := ?_) #[true, true, false, false, false, false, false, false, false, false, false] rfl rfl (by kernel_rfl) (fun _ _ _ h => h) (Or.inl ⟨by rfl, ?_⟩) ?_ ?_
   rotate_left
   ·intro w'
    go_simp
    with_reducible rfl
   rotate_left
   ·simp only [Act.put, List.setIfInBounds_toArray, List.set_cons_zero, List.set_cons_succ, i64_w, i32_w]
    rfl
   refine pure_ (i := 2) (N := some 19) (v := ?_) (a' := ?_) #[true, true, true, false, false, false, false, false, false, false, false] rfl rfl (by kernel_rfl) (fun _ _ _ h => h) (Or.inl ⟨by rfl, ?_⟩) ?_ ?_
   rotate_left
   ·intro w'
    go_simp
    with_reducible rfl
   rotate_left
   ·simp only [Act.put, List.setIfInBounds_toArray, List.set_cons_zero, List.set_cons_succ, i64_w, i32_w]
    rfl
   refine pure_ (i := 4) (N := some 21) (v := ?_) (a' := ?_) #[true, true, true, false, true, false, false, false, false, false, false] rfl rfl (by kernel_rfl) (fun _ _ _ h => h) (Or.inl ⟨by rfl, ?_⟩) ?_ ?_
   rotate_left
   ·intro w'
    go_simp
    with_reducible rfl
   rotate_left
   ·simp only [Act.put, List.setIfInBounds_toArray, List.set_cons_zero, List.set_cons_succ, i64_w, i32_w]
    rfl
   refine pure_ (i := 5) (N := some 22) (v := ?_) (a' := ?_) #[true, true, true, false, true, true, false, false, false, false, false] rfl rfl (by kernel_rfl) (fun _ _ _ h => h) (Or.inl ⟨by rfl, ?_⟩) ?_ ?_
   rotate_left
   ·intro w'
    go_simp
    with_reducible rfl
   rotate_left
   ·simp only [Act.put, List.setIfInBounds_toArray, List.set_cons_zero, List.set_cons_succ, i64_w, i32_w]
    rfl
   refine pure_ (i := 6) (N := some 23) (v := ?_) (a' := ?_) #[true, true, true, false, true, true, true, false, false, false, false] rfl rfl (by kernel_rfl) (fun _ _ _ h => h) (Or.inl ⟨by rfl, ?_⟩) ?_ ?_
   rotate_left
   ·intro w'
    go_simp
    with_reducible rfl
   rotate_left
   ·simp only [Act.put, List.setIfInBounds_toArray, List.set_cons_zero, List.set_cons_succ, i64_w, i32_w]
    rfl
   refine pure_ (i := 7) (N := some 24) (v := ?_) (a' := ?_) #[true, true, true, false, true, true, true, true, false, false, false] rfl rfl (by kernel_rfl) (fun _ _ _ h => h) (Or.inl ⟨by rfl, ?_⟩) ?_ ?_
   rotate_left
   ·intro w'
    go_simp
    with_reducible rfl
   rotate_left
   ·simp only [Act.put, List.setIfInBounds_toArray, List.set_cons_zero, List.set_cons_succ, i64_w, i32_w]
    rfl
   refine take_ (i := 3) (N := some 20) (v := ?_) (a' := ?_) #[true, true, true, true, true, true, true, true, false, false, false] rfl rfl (by kernel_rfl) (fun _ _ _ h => h) (Or.inl ⟨by rfl, ?_⟩) hHeld ?_ ?_
   rotate_left
   ·rintro w' ⟨s0, s1⟩
    go_simp
    with_reducible rfl
   rotate_left
   ·simp only [Act.put, List.setIfInBounds_toArray, List.set_cons_zero, List.set_cons_succ, i64_w, i32_w]
    rfl
   refine take_ (i := 8) (N := some 25) (v := ?_) (a' := ?_) #[true, true, true, true, true, true, true, true, true, false, false] rfl rfl (by kernel_rfl) (fun _ _ _ h => h) (Or.inl ⟨by rfl, ?_⟩) hHeld ?_ ?_
   rotate_left
   ·rintro w' ⟨s0, s1⟩
    go_simp
    with_reducible rfl
   rotate_left
   ·simp only [Act.put, List.setIfInBounds_toArray, List.set_cons_zero, List.set_cons_succ, i64_w, i32_w]
    rfl
   refine last_ (i := 9) (N := some 26) #[true, true, true, true, true, true, true, true, true, true, false] rfl rfl (by kernel_rfl) (by decide) (fun K hK => ?_)
   obtain ⟨r, ri, n3, hqr, hra, hrb⟩ := run_cquo (P := Try.prog) 32 x1 x2 q1 q2 W HX.out.2.1 HX.out.2.2 HQ.out.1 HQ.out.2.1 HQ.out.2.2
   refine value_ (w1 := ?_) (v := ?_) (by rfl) rfl ?_ ?_
   rotate_left 2
   ·go_simp
    constructor
    ·rfl
    ·rfl
   refine hK.out _ _ ?_
   clear hK K
   refine norm_ (a' := ?_) ?_ ?_
   rotate_left
   ·show Act.put _ (some 26) _ = _
    simp only [Act.put, List.setIfInBounds_toArray, List.set_cons_zero, List.set_cons_succ, i64_w, i32_w]
    rfl
   refine pure_ (i := 10) (N := some 7) (v := ?_) (a' := ?_) #[true, true, true, true, true, true, true, true, true, true, true] rfl rfl (by kernel_rfl) (fun _ _ _ h => h) (Or.inl ⟨by rfl, ?_⟩) ?_ ?_
   rotate_left
   ·intro w'
    go_simp
    with_reducible rfl
   rotate_left
   ·simp only [Act.put, List.setIfInBounds_toArray, List.set_cons_zero, List.set_cons_succ, i64_w, i32_w]
    rfl
   refine done_ (by kernel_rfl) ?_
   have key : monG xs (q1, q2) (k + 1) i = ((stp quoO x1 x2 q1 q2).bind fun z => (monG xs (q1, q2) k (i + 1)).map (z :: ·)) := by
    show ((stp quoO (at_ xs i).1 (at_ xs i).2 q1 q2).bind fun z => (monG xs (q1, q2) k (i + 1)).map (z :: ·)) = _
    rw [HX.out.1]
   rw [stp_of hra hrb] at key
   have HKE := Aside0.mk (HD.out.trans (congrArg (Option.map (os ++ ·)) key))
   have HOW := Aside0.mk (HO.out.below DW.out)
   clear key hra hrb hqr hx hy q0 q1' q2' q3'
   cases hg : (isFin r && isFin ri)
   ·have HRN := Aside0.mk (show R = none by have h := HKE.out; rw [hg] at h; exact h)
    go_wp2_with fail
    refine (l01Finite_calls r ri _).mono ?_
    rintro e w4 ⟨rfl, n6, rfl⟩
    rw [hg]
    go_wp2
    go_ret2
    rw [HRN.out]
    exact ResB.none_ (by repeat (first | exact HOW.out.low | refine pw_below_drewN ?_ _))
   ·have HR2 := Aside0.mk (show R = (monG xs (q1, q2) k (i + 1)).map ((os ++ [(r, ri)]) ++ ·) by
     have h := HKE.out
     rw [hg, if_pos rfl] at h
     rw [h]
     cases monG xs (q1, q2) k (i + 1) <;> simp)
    go_wp2_with fail
    refine (l01Finite_calls r ri _).mono ?_
    rintro e w4 ⟨rfl, n6, rfl⟩
    rw [hg]
    go_wp2_with (first | ((with_reducible refine gate_builtin (b := .append) (xs := #[.tmp 30, .tmp 32]) rfl ?_); at_builtin; refine Kd.R_append cxk (w0 := w) w.heap.size rfl (.tmp 30) (.tmp 32) 24 32 (.complex .f64 0 0) 16 rfl Try.underlying24 info_cx rfl (by decide) (by omega) _ os (r, ri) [.complex .f64 _ _] (fun _ => True) (fun _ => False) rfl rfl ?aP (fun _ hk => hk.elim) ?aF ?aO ?aB ?aS ?aL ?_; (case aP => exact rfl); (case aF => exact (fun _ _ => trivial)); (case aB => repeat (first | exact HOW.out.low | (with_reducible refine pw_below_drewN ?_ _))); (case aO => repeat (first | exact HOW.out.row | (with_reducible refine Kd.R_drewN ?_ _))); (case aS => exact HOW.out.low.size); (case aL => have h1 := HJ.out; omega); intro v1 w4 ho hb hg hat))
    have EO := Aside0.mk (Own.mk ho hb)
    clear ho hb hg hat
    go_wp2_with fail
    go_roundg k
    case measure => omega
    case rel => exact ⟨i + 1, by first | rfl | rw [e3], ⟨⟨_, EO.out, HR2.out, by have := HJ.out; simp; omega, by have := HJ.out; have := HN.out; omega⟩⟩⟩
  | zero =>
   have hl' : decide (i + 1 < N) = false := decide_eq_false (by have := HN.out; omega)
   have HD := Aside0.mk (show R = some (os ++ [one_n]) from hd)
   have HO := Aside0.mk ho
   have HJ := Aside0.mk (show os.length + 1 = xs.length by have := HL.out; omega)
   clear ho hd hos hg
   go_wp2_with (first | ((with_reducible refine gate_builtin (b := .append) (xs := #[.tmp 34, .tmp 35]) rfl ?_); at_builtin; refine Kd.R_append cxk (w0 := w) w.heap.size rfl (.tmp 34) (.tmp 35) 24 32 (.complex .f64 0 0) 16 rfl Try.underlying24 info_cx rfl (by decide) (by omega) _ os one_n [.complex .f64 _ _] (fun _ => True) (fun _ => False) rfl rfl ?bP (fun _ hk => hk.elim) ?bF ?bO ?bB ?bS ?bL ?_; (case bP => exact rfl); (case bF => exact (fun _ _ => trivial)); (case bB => repeat (first | exact HO.out.low | (with_reducible refine pw_below_drewN ?_ _))); (case bO => repeat (first | exact HO.out.row | (with_reducible refine Kd.R_drewN ?_ _))); (case bS => exact HO.out.low.size); (case bL => have h1 := HJ.out; have h2 := HL.out; omega); intro v1 w4 ho hb hg hat))
   have EO := Aside0.mk (Own.mk ho hb)
   clear ho hb hg hat
   go_wp2
   go_ret2
   rw [HD.out]
   exact ResB.some_ EO.out
set_option maxRecDepth 100000 in
theorem specMakeMonic_calls (A : Option Addr) (c : Nat) (xs : Cs) (w : World) (hr : cxk.C w A xs.length xs) (hl : xs.length ≤ 1000000000) : Calls Try.prog 14 #[.slice A xs.length c] w fun e w' => Res w (monP xs) e w' := by
 have HR := Aside0.mk hr; have HL := Aside0.mk hl; clear hr hl
 unfold monP
 cases h1 : polyB xs
 ·go_enter Try.func14, Try.ntmps14
  go_wp2_with fail
  refine (l04Is_calls A c xs _ HR.out HL.out).mono ?_
  rintro e w1 ⟨rfl, n, rfl⟩
  rw [h1]
  go_wp2
  go_ret2
  exact Res.none_ (drawn_below _)
 rw [if_pos rfl]
 have P1 := Aside0.mk (polyB_of h1)
 cases hm : monL xs with
 | none =>
  go_enter Try.func14, Try.ntmps14
  go_wp2_with fail
  refine (l04Is_calls A c xs _ HR.out HL.out).mono ?_
  rintro e w1 ⟨rfl, n, rfl⟩
  rw [h1]
  go_wp2_with fail
  refine (l04Monic_calls A c xs _ (Kd.C_drewN HR.out _) P1.out.2.1 (by have := P1.out.1; omega) P1.out.2.2.1 P1.out.2.2.2).mono ?_
  rw [hm]
  rintro e w2 ⟨G, cap, rfl, k1, k2, k3⟩
  have LB := Aside0.mk (show Below w.heap.size w w2 from (drawn_below (w := w) n).trans k3)
  clear k1 k2 k3
  go_wp2
  go_ret2
  exact Res.none_ LB.out
 | some zs =>
  go_enter Try.func14, Try.ntmps14
  go_wp2_with fail
  refine (l04Is_calls A c xs _ HR.out HL.out).mono ?_
  rintro e w1 ⟨rfl, n, rfl⟩
  rw [h1]
  go_wp2_with fail
  refine (l04Monic_calls A c xs _ (Kd.C_drewN HR.out _) P1.out.2.1 (by have := P1.out.1; omega) P1.out.2.2.1 P1.out.2.2.2).mono ?_
  rw [hm]
  rintro e w2 ⟨G, cap, rfl, k1, k2, k3⟩
  have LB := Aside0.mk (show Below w.heap.size w w2 from (drawn_below (w := w) n).trans k3)
  have HK := Aside0.mk (And.intro k1 k2)
  clear k1 k2 k3
  go_wp2
  go_ret2
  exact ⟨G, cap, rfl, HK.out.1, HK.out.2, LB.out⟩
end Go.Proofs.Ytgjdgbonmekpiaa
namespace Go.Proofs.Ytgjdgbonmekpiaa
open Go Ieee Go.RowKit Go.Proofs.Ytgjdgbonmekpiaa.Fl Go.Proofs.Ytgjdgbonmekpiaa.Fx Go.Proofs.Ytgjdgbonmekpiaa.P Go.Proofs.YtgjdgbonmekpiaaW.PrintWords Go.Proofs.YtgjdgbonmekpiaaW.PrintLast Go.Proofs.YtgjdgbonmekpiaaW.PrintMore
set_option linter.unusedVariables false
set_option linter.unusedSimpArgs false
theorem hlf_inf {x : Nat} (h : isFin x = false) (hn : isN x = false) : ∃ y, hlf (some x) = some y := by
 cases hr : double.read x with
 | nan s t => unfold isN at hn; rw [show rd64 x = _ from hr] at hn; cases hn
 | number s m p => rw [fin_of hr] at h; cases h
 | infinity s =>
  refine ⟨double.write (.infinity (s ^^ false)), ?_⟩
  show ((double.read x).product (double.read 4602678819172646912)).map double.write = _
  rw [hr, half_read]
  rfl
theorem dbl_some {x : Nat} (hn : isN x = false) : ∃ y, dbl (some x) = some y ∧ isN y = false := by
 cases h : isFin x
 ·obtain ⟨y, h1, _, h3⟩ := dbl_inf h hn
  exact ⟨y, h1, h3⟩
 ·obtain ⟨y, hy⟩ := fb_mul_some (y := 4611686018427387904) h (by decide)
  exact ⟨y, hy, fb_notnan hy⟩
theorem hlf_some {x : Nat} (hn : isN x = false) : ∃ y, hlf (some x) = some y ∧ isN y = false := by
 cases h : isFin x
 ·obtain ⟨y, h1⟩ := hlf_inf h hn
  exact ⟨y, h1, fb_notnan (show fb .mul x 4602678819172646912 = some y from h1)⟩
 ·obtain ⟨y, hy⟩ := fb_mul_some (y := 4602678819172646912) h (by decide)
  exact ⟨y, hy, fb_notnan hy⟩
theorem rep_some {f : Option Nat → Option Nat} (hf : ∀ {x : Nat}, isN x = false → ∃ y, f (some x) = some y ∧ isN y = false) : ∀ (n : Nat) {x : Nat}, isN x = false → ∃ y, rep f n (some x) = some y
 | 0, x, _ => ⟨x, rfl⟩
 | n + 1, x, h => by
  obtain ⟨y, h1, h2⟩ := hf h
  obtain ⟨z, hz⟩ := rep_some hf n h2
  exact ⟨z, by show rep f n (f (some x)) = _; rw [h1]; exact hz⟩
def scF (k : Int) (x : Nat) : Nat := (scK k (some x)).getD 0
theorem scF_some {x : Nat} (k : Int) (h : isFin x = true) : scK k (can x) = some (scF k x) := by
 rw [can_fin h]
 have hn := isN_fin h
 obtain ⟨y, hy⟩ : ∃ y, scK k (some x) = some y := by
  unfold scK
  split
  ·exact rep_some hlf_some _ hn
  ·exact rep_some dbl_some _ hn
 unfold scF
 rw [hy]
 rfl
def sclG (xs : Cs) (k : Int) : Nat → Int → Cs
 | 0, _ => []
 | n + 1, i => (scF (k * i) (at_ xs i).1, scF (k * i) (at_ xs i).2) :: sclG xs k n (i + 1)
def sclL (xs : Cs) (k : Int) : Cs := sclG xs k xs.length 0
theorem sclG_len (xs : Cs) (k : Int) : ∀ (n : Nat) (i : Int), (sclG xs k n i).length = n
 | 0, _ => rfl
 | n + 1, i => by unfold sclG; rw [List.length_cons, sclG_len xs k n (i + 1)]
def sclP (xs : Cs) (k : Int) : Cs × Int := if polyB xs then (if decide (-60 ≤ k ∧ k ≤ 60) then (if polyB (sclL xs k) then (sclL xs k, 0) else ([], 3)) else ([], 2)) else ([], 1)
end Go.Proofs.Ytgjdgbonmekpiaa
namespace Go.Proofs.Ytgjdgbonmekpiaa
open Go Ieee Go.RowKit Go.Proofs.Ytgjdgbonmekpiaa.Fl Go.Proofs.Ytgjdgbonmekpiaa.Fx Go.Proofs.Ytgjdgbonmekpiaa.P Go.Proofs.YtgjdgbonmekpiaaW.PrintWords Go.Proofs.YtgjdgbonmekpiaaW.PrintLast Go.Proofs.YtgjdgbonmekpiaaW.PrintMore
set_option linter.unusedVariables false
set_option linter.unusedSimpArgs false
attribute [local go_sem] run_add run_sub run_mul run_quo run_cadd run_csub run_neg run_cneg run_store_cx
structure SclAt (xs : Cs) (k : Int) (w w' : World) (v : Value) (g : Nat) (i : Int) : Prop where
 at_ : ∃ os, Own w w' v os ∧ os ++ sclG xs k g i = sclL xs k ∧ (os.length : Int) = i ∧ i + g = (xs.length : Int)
set_option maxRecDepth 100000 in
set_option maxHeartbeats 4000000 in
theorem ScalePolynomial_calls (A : Option Addr) (c : Nat) (xs : Cs) (k : Int) (w : World) (hr : cxk.C w A xs.length xs) (hl : xs.length ≤ 1000000000) : Calls Try.prog 19 #[.slice A xs.length c, .int .i64 k] w fun e w' => Res w (sclP xs k) e w' := by
 have HR := Aside0.mk hr; have HL := Aside0.mk hl; clear hr hl
 unfold sclP
 cases h1 : polyB xs
 ·go_enter Try.func19, Try.ntmps19
  go_wp2_with fail
  refine (IsPolynomial_calls A c xs _ HR.out HL.out).mono ?_
  rintro e w1 ⟨rfl, n, rfl⟩
  rw [h1]
  go_wp2
  go_ret2
  exact Res.none_ (drawn_below _)
 rw [if_pos rfl]
 have P1 := Aside0.mk (polyB_of h1)
 cases hk : decide (-60 ≤ k ∧ k ≤ 60)
 ·go_enter Try.func19, Try.ntmps19
  go_wp2_with fail
  refine (IsPolynomial_calls A c xs _ HR.out HL.out).mono ?_
  rintro e w1 ⟨rfl, n, rfl⟩
  rw [h1]
  go_wp2_with fail
  refine (between_calls k (-60) 60 _).mono ?_
  rintro e w1 ⟨rfl, n2, rfl⟩
  rw [hk]
  go_wp2
  go_ret2
  exact Res.none_ (by repeat (first | exact Below.refl _ _ | refine pw_below_drewN ?_ _))
 rw [if_pos rfl]
 have HKB := Aside0.mk (of_decide_eq_true hk)
 obtain ⟨X, hX⟩ : ∃ X, (if polyB (sclL xs k) then (sclL xs k, 0) else (([], 3) : Cs × Int)) = X := ⟨_, rfl⟩
 rw [hX]
 have HX := Aside0.mk hX
 clear hX
 obtain ⟨N, hN⟩ : ∃ N : Int, (xs.length : Int) = N := ⟨_, rfl⟩
 have HN := Aside0.mk hN
 go_enter Try.func19, Try.ntmps19
 go_wp2_with fail
 refine (IsPolynomial_calls A c xs _ HR.out HL.out).mono ?_
 rintro e w1 ⟨rfl, n1, rfl⟩
 rw [h1]
 go_wp2_with fail
 refine (between_calls k (-60) 60 _).mono ?_
 rintro e w1 ⟨rfl, n2, rfl⟩
 rw [hk]
 have HO := Aside0.mk (Own.empty (w := w) (w' := (w.drewN n1).drewN n2) (by repeat (first | exact Below.refl _ _ | refine pw_below_drewN ?_ _)))
 clear hk h1
 go_wp2_with fail
 go_loopg [6, 20] xs.length (fun g v u w' => ∃ (i : Int), u = .int .i64 i ∧ Aside0 (SclAt xs k w w' v g i))
 case atStart => exact ⟨0, rfl, ⟨⟨[], by simpa using HO.out, rfl, rfl, by omega⟩⟩⟩
 case round =>
  clear HO
  obtain ⟨i, rfl, hj⟩ := hrel
  obtain ⟨os, ho, hd, hos, hg⟩ := hj.out.at_
  clear hj
  cases gk with
  | succ m =>
   have HO := Aside0.mk ho
   have HJ := Aside0.mk (show 0 ≤ i ∧ i < N ∧ i ≤ 12 ∧ (os.length : Int) = i ∧ i + m + 1 = N by have h1 := P1.out.2.1; omega)
   have hl' : decide (i < N) = true := decide_eq_true HJ.out.2.1
   obtain ⟨ad, rfl, hx⟩ := cx_at (Kd.C_below HR.out ho.low) i HJ.out.1 (by have := HJ.out; have := HN.out; omega)
   obtain ⟨⟨x1, x2⟩, hxx⟩ : ∃ z, rdOf (0, 0) xs i = z := ⟨_, rfl⟩
   have hfi := fin_at P1.out.2.2.1 i HJ.out.1 (by have := HJ.out; have := HN.out; omega)
   unfold sclG at_ at hd
   rw [hxx] at hx hd hfi
   rw [Bool.and_eq_true] at hfi
   have HFI := Aside0.mk hfi
   have HD := Aside0.mk (show (os ++ [(scF (k * i) x1, scF (k * i) x2)]) ++ sclG xs k m (i + 1) = sclL xs k by rw [← hd]; simp)
   have hki : -720 ≤ k * i ∧ k * i ≤ 720 := by
    have h1 := HKB.out; have h2 := HJ.out
    constructor
    ·have := Int.mul_le_mul_of_nonneg_right h1.1 h2.1; omega
    ·have := Int.mul_le_mul_of_nonneg_right h1.2 h2.1; omega
   have HKI := Aside0.mk hki
   have w5 : wrap64 (k * i) = k * i := w64 (by omega) (by omega)
   have q0 := eq_true HJ.out.1
   have q1 := eq_true HJ.out.2.1
   clear ho hd hos hg hxx hfi hki
   go_wp2_with fail
   refine (scale_calls' x1 x2 (k * i) (by have := HKI.out; omega) (by have := HKI.out; omega) _).mono ?_
   rintro e w2 ⟨⟨v2, rfl, r, ri, rfl, hr, hi⟩, n3, rfl⟩
   have e1 : r = scF (k * i) x1 := can_some (hr.trans (scF_some (k * i) HFI.out.1))
   have e2 : ri = scF (k * i) x2 := can_some (hi.trans (scF_some (k * i) HFI.out.2))
   clear hr hi
   subst e1 e2
   go_wp2_with (first | ((with_reducible refine gate_builtin (b := .append) (xs := #[.tmp 25, .tmp 31]) rfl ?_); at_builtin; refine Kd.R_append cxk (w0 := w) w.heap.size rfl (.tmp 25) (.tmp 31) 24 32 (.complex .f64 0 0) 16 rfl Try.underlying24 info_cx rfl (by decide) (by omega) _ os (scF (k * i) x1, scF (k * i) x2) [.complex .f64 _ _] (fun _ => True) (fun _ => False) rfl rfl ?aP (fun _ hk => hk.elim) ?aF ?aO ?aB ?aS ?aL ?_; (case aP => exact rfl); (case aF => exact (fun _ _ => trivial)); (case aB => repeat (first | exact HO.out.low | (with_reducible refine pw_below_drewN ?_ _))); (case aO => repeat (first | exact HO.out.row | (with_reducible refine Kd.R_drewN ?_ _))); (case aS => exact HO.out.low.size); (case aL => have h1 := HJ.out; omega); intro v1 w4 ho hb hg hat))
   have EO := Aside0.mk (Own.mk ho hb)
   clear ho hb hg hat
   go_wp2_with fail
   go_roundg m
   case measure => omega
   case rel =>
    have e : wrap64 (i + 1) = i + 1 := by have := HJ.out; exact w64 (by omega) (by omega)
    exact ⟨i + 1, by first | rfl | rw [e], ⟨⟨_, EO.out, HD.out, by have := HJ.out; simp; omega, by have := HJ.out; have := HN.out; omega⟩⟩⟩
  | zero =>
   have hl' : decide (i < N) = false := decide_eq_false (by have := HN.out; omega)
   have hzs : os = sclL xs k := by rw [← hd]; exact (List.append_nil _).symm
   rw [← hzs] at HX
   have HLZ := Aside0.mk (show 2 ≤ os.length ∧ os.length ≤ 13 by have h1 := P1.out; omega)
   obtain ⟨G, cap, rfl, hcap, hC⟩ := ho.reads
   obtain ⟨M, hM⟩ : ∃ M : Int, (os.length : Int) = M := ⟨_, rfl⟩
   obtain ⟨ad, rfl, hx⟩ := cx_last hC hM (by have := HLZ.out; omega) (by have := HLZ.out; omega)
   have HC := Aside0.mk (And.intro hcap (And.intro hC ho.low))
   have p0 : 0 < M := by have := HLZ.out; omega
   have p1 : M ≤ 13 := by have := HLZ.out; omega
   clear hd ho hos hg hcap hC hzs
   cases hz : lastZ os
   ·have hz' := hz
    unfold lastZ zero_ isZ at hz'
    rw [hM] at hz'
    cases hf : finL os
    ·have HX2 := Aside0.mk (show (([], 3) : Cs × Int) = X by rw [← HX.out]; simp [polyB, hf])
     go_wp2_with fail
     refine (listOr_calls (some ad) cap os _ HC.out.2.1 (by have := HLZ.out; omega)).mono ?_
     rintro e w3 ⟨rfl, n3, rfl⟩
     rw [hf]
     go_wp2
     all_goals
      go_ret2
      rw [← HX2.out]
      exact Res.none_ (by repeat (first | exact HC.out.2.2 | refine pw_below_drewN ?_ _))
    ·have HX2 := Aside0.mk (show (os, 0) = X by rw [← HX.out]; simp [polyB, hf, hz, HLZ.out.1, HLZ.out.2])
     go_wp2_with fail
     refine (listOr_calls (some ad) cap os _ HC.out.2.1 (by have := HLZ.out; omega)).mono ?_
     rintro e w3 ⟨rfl, n3, rfl⟩
     rw [hf]
     go_wp2
     go_ret2
     rw [← HX2.out]
     exact ⟨some ad, cap, rfl, by repeat (first | exact HC.out.2.1 | refine Kd.C_drewN ?_ _), HC.out.1, by repeat (first | exact HC.out.2.2 | refine pw_below_drewN ?_ _)⟩
   ·have HX2 := Aside0.mk (show (([], 3) : Cs × Int) = X by rw [← HX.out]; simp [polyB, hz])
    unfold lastZ zero_ isZ at hz
    rw [hM] at hz
    go_wp2
    go_ret2
    rw [← HX2.out]
    exact Res.none_ (by repeat (first | exact HC.out.2.2 | refine pw_below_drewN ?_ _))
end Go.Proofs.Ytgjdgbonmekpiaa
