/- Monic polynomials, the reference's. No conditions beyond those of each theorem. Printed by genpw10.py. -/
import Derived.Test.YtdjkcpmoigemdaaG18
import Derived.Test.YtdjkcpmoigemdaaG9
namespace Go.Proofs.Ytdjkcpmoigemdaa
open Go Ieee Go.RowKit Go.Proofs.Ytdjkcpmoigemdaa.Fl Go.Proofs.Ytdjkcpmoigemdaa.Fx Go.Proofs.Ytdjkcpmoigemdaa.P Go.Proofs.YtdjkcpmoigemdaaW.PrintWords Go.Proofs.YtdjkcpmoigemdaaW.PrintLast Go.Proofs.YtdjkcpmoigemdaaW.PrintMore
set_option linter.unusedVariables false
set_option linter.unusedSimpArgs false
attribute [local go_sem] run_add run_sub run_mul run_quo run_cadd run_csub run_neg run_cneg run_store_cx
structure MonBt (xs : Cs) (q : Nat × Nat) (R : Option Cs) (w w' : World) (v : Value) (g : Nat) (i : Int) : Prop where
 at_ : ∃ os, Own w w' v os ∧ R = (monG xs q g i).map (os ++ ·) ∧ (os.length : Int) = i ∧ i + g = (xs.length : Int) - 1
set_option maxRecDepth 100000 in
set_option maxHeartbeats 4000000 in
theorem l04Monic_calls (A : Option Addr) (c : Nat) (xs : Cs) (w : World) (hr : cxk.C w A xs.length xs) (hl : xs.length ≤ 13) (h2 : 1 ≤ xs.length) (hf : finL xs = true) (hz : lastZ xs = false) : Calls Try.prog 41 #[.slice A xs.length c] w fun e w' => ResB w (monL xs) e w' := by
 have HR := Aside0.mk hr; have HL := Aside0.mk (And.intro hl h2); have HF := Aside0.mk hf
 obtain ⟨N, hN⟩ : ∃ N : Int, (xs.length : Int) = N := ⟨_, rfl⟩
 obtain ⟨ad, rfl, hlast⟩ := cx_last hr hN (by omega) (by omega)
 have hfq := fin_at hf ((xs.length : Int) - 1) (by omega) (by omega)
 obtain ⟨q, hqq⟩ : ∃ q, at_ xs ((xs.length : Int) - 1) = q := ⟨_, rfl⟩
 obtain ⟨R, hR⟩ : ∃ R, monL xs = R := ⟨_, rfl⟩
 rw [hR]
 unfold monL at hR
 unfold lastZ at hz
 rw [show rdOf (0, 0) xs ((xs.length : Int) - 1) = q from hqq, Bool.and_eq_true] at hfq
 rw [hqq] at hR hlast hz
 obtain ⟨q1, q2⟩ := q
 have HLA := Aside0.mk hlast
 have HQ := Aside0.mk (And.intro hfq.1 (And.intro hfq.2 (show isZ q1 q2 = false from hz)))
 have HRR := Aside0.mk hR
 have HN := Aside0.mk hN
 have w3 : wrap64 (N - 1) = N - 1 := w64 (by omega) (by omega)
 obtain ⟨K, hK⟩ : ∃ K, xs.length - 1 = K := ⟨_, rfl⟩
 have HK := Aside0.mk hK
 have p0 : 0 < N := by omega
 have p1 : N ≤ 13 := by omega
 clear hr hl h2 hz hf hR hqq hlast hK hfq
 go_enter Try.func41, Try.ntmps41
 have HO := Aside0.mk (Own.empty (Below.refl w.heap.size w))
 go_wp2_with fail
 go_loopg [4, 6] K (fun g v u w' => ∃ (i : Int), u = .int .i64 i ∧ Aside0 (MonBt xs (q1, q2) R w w' v g i))
 case atStart => exact ⟨0, rfl, ⟨⟨[], HO.out, by rw [HK.out] at HRR; rw [← HRR.out]; cases monG xs (q1, q2) K 0 <;> rfl, rfl, by have := HK.out; have := HL.out; omega⟩⟩⟩
 case round =>
  clear HO HRR
  obtain ⟨i, rfl, hj⟩ := hrel
  obtain ⟨os, ho, hd, hos, hg⟩ := hj.out.at_
  clear hj
  have e3 : wrap64 (i + 1) = i + 1 := by have := HL.out; have := HN.out; exact w64 (by omega) (by omega)
  cases gk with
  | succ k =>
   have HO := Aside0.mk ho
   have HJ := Aside0.mk (show 0 ≤ i ∧ i < N ∧ i ≤ 12 ∧ (os.length : Int) = i ∧ i + k + 1 = N - 1 by have h1 := HL.out; have h2 := HN.out; omega)
   have hl' : decide (i + 1 < N) = true := decide_eq_true (by have := HJ.out; omega)
   obtain ⟨ad', e', hx⟩ := cx_at (Kd.C_below HR.out ho.low) i HJ.out.1 (by have := HJ.out; have := HN.out; omega)
   cases e'
   have hy := pw_cell_below ho.low HLA.out
   obtain ⟨⟨x1, x2⟩, hxx⟩ : ∃ z, rdOf (0, 0) xs i = z := ⟨_, rfl⟩
   have hfx := fin_at HF.out i HJ.out.1 (by have := HJ.out; have := HN.out; omega)
   rw [hxx, Bool.and_eq_true] at hfx
   rw [hxx] at hx
   have HX := Aside0.mk (And.intro (show at_ xs i = (x1, x2) from hxx) hfx)
   have HD := Aside0.mk hd
   have q0 := eq_true HJ.out.1
   have q1' := eq_true HJ.out.2.1
   have q2' := eq_true (show 1 ≤ N by omega)
   have q3' := eq_true (show N - 1 < N by omega)
   clear ho hd hos hg hxx hfx
   go_wp2_with fail
   refine start_ (n := 11) (S := fun w' => w'.cell? (ad.add i.toNat) = some (.complex .f64 x1 x2) ∧ w'.cell? (ad.add (N.toNat - 1)) = some (.complex .f64 q1 q2)) (ds := [9]) #[false, false, false, false, false, false, false, false, false, false, false] (by kernel_rfl) rfl rfl ⟨hx, hy⟩ (fun hHeld => ?_)
   have DW := Aside0.mk ((Below.refl wr.heap.size wr).drew)
   generalize wr.drew = W at hHeld DW ⊢
   refine pure_ (i := 0) (N := some 17) (v := ?_) (a' := ?_) #[true, false, false, false, false, false, false, false, false, false, false] rfl rfl (by kernel_rfl) (fun _ _ _ h => h) (Or.inl ⟨by rfl, ?_⟩) ?_ ?_
   rotate_left
   ·intro w'
    go_simp
    with_reducible rfl
   rotate_left
   ·simp only [Act.put, List.setIfInBounds_toArray, List.set_cons_zero, List.set_cons_succ, i64_w, i32_w]
    rfl
   refine pure_ (i := 1) (N := some 18) (v := ?_) (a' := ?_) #[true, true, false, false, false, false, false, false, false, false, false] rfl rfl (by kernel_rfl) (fun _ _ _ h => h) (Or.inl ⟨by rfl, ?_⟩) ?_ ?_
   rotate_left
   ·intro w'
    go_simp
    with_reducible rfl
   rotate_left
   ·simp only [Act.put, List.setIfInBounds_toArray, List.set_cons_zero, List.set_cons_succ, i64_w, i32_w]
    rfl
   refine pure_ (i := 2) (N := some 19) (v := ?_) (a' := ?_) #[true, true, true, false, false, false, false, false, false, false, false] rfl rfl (by kernel_rfl) (fun _ _ _ h => h) (Or.inl ⟨by rfl, ?_⟩) ?_ ?_
   rotate_left
   ·intro w'
    go_simp
    with_reducible rfl
   rotate_left
   ·simp only [Act.put, List.setIfInBounds_toArray, List.set_cons_zero, List.set_cons_succ, i64_w, i32_w]
    rfl
   refine pure_ (i := 4) (N := some 21) (v := ?_) (a' := ?_) #[true, true, true, false, true, false, false, false, false, false, false] rfl rfl (by kernel_rfl) (fun _ _ _ h => h) (Or.inl ⟨by rfl, ?_⟩) ?_ ?_
   rotate_left
   ·intro w'
    go_simp
    with_reducible rfl
   rotate_left
   ·simp only [Act.put, List.setIfInBounds_toArray, List.set_cons_zero, List.set_cons_succ, i64_w, i32_w]
    rfl
   refine pure_ (i := 5) (N := some 22) (v := ?_) (a' := ?_) #[true, true, true, false, true, true, false, false, false, false, false] rfl rfl (by kernel_rfl) (fun _ _ _ h => h) (Or.inl ⟨by rfl, ?_⟩) ?_ ?_
   rotate_left
   ·intro w'
    go_simp
    with_reducible rfl
   rotate_left
   ·simp only [Act.put, List.setIfInBounds_toArray, List.set_cons_zero, List.set_cons_succ, i64_w, i32_w]
    rfl
   refine pure_ (i := 6) (N := some 23) (v := ?_) (a' := ?_) #[true, true, true, false, true, true, true, false, false, false, false] rfl rfl (by kernel_rfl) (fun _ _ _ h => h) (Or.inl ⟨by rfl, ?_⟩) ?_ ?_
   rotate_left
   ·intro w'
    go_simp
    with_reducible rfl
   rotate_left
   ·simp only [Act.put, List.setIfInBounds_toArray, List.set_cons_zero, List.set_cons_succ, i64_w, i32_w]
    rfl
   refine pure_ (i := 7) (N := some 24) (v := ?_) (a' := ?_) #[true, true, true, false, true, true, true, true, false, false, false] rfl rfl (by kernel_rfl) (fun _ _ _ h => h) (Or.inl ⟨by rfl, ?_⟩) ?_ ?_
   rotate_left
   ·intro w'
    go_simp
    with_reducible rfl
   rotate_left
   ·simp only [Act.put, List.setIfInBounds_toArray, List.set_cons_zero, List.set_cons_succ, i64_w, i32_w]
    rfl
   refine take_ (i := 3) (N := some 20) (v := ?_) (a' := ?_) #[true, true, true, true, true, true, true, true, false, false, false] rfl rfl (by kernel_rfl) (fun _ _ _ h => h) (Or.inl ⟨by rfl, ?_⟩) hHeld ?_ ?_
   rotate_left
   ·rintro w' ⟨s0, s1⟩
    go_simp
    with_reducible rfl
   rotate_left
   ·simp only [Act.put, List.setIfInBounds_toArray, List.set_cons_zero, List.set_cons_succ, i64_w, i32_w]
    rfl
   refine take_ (i := 8) (N := some 25) (v := ?_) (a' := ?_) #[true, true, true, true, true, true, true, true, true, false, false] rfl rfl (by kernel_rfl) (fun _ _ _ h => h) (Or.inl ⟨by rfl, ?_⟩) hHeld ?_ ?_
   rotate_left
   ·rintro w' ⟨s0, s1⟩
    go_simp
    with_reducible rfl
   rotate_left
   ·simp only [Act.put, List.setIfInBounds_toArray, List.set_cons_zero, List.set_cons_succ, i64_w, i32_w]
    rfl
   refine last_ (i := 9) (N := some 26) #[true, true, true, true, true, true, true, true, true, true, false] rfl rfl (by kernel_rfl) (by decide) (fun K hK => ?_)
   obtain ⟨r, ri, n3, hqr, hra, hrb⟩ := run_cquo (P := Try.prog) 34 x1 x2 q1 q2 W HX.out.2.1 HX.out.2.2 HQ.out.1 HQ.out.2.1 HQ.out.2.2
   refine value_ (w1 := ?_) (v := ?_) (by rfl) rfl ?_ ?_
   rotate_left 2
   ·go_simp
    constructor
    ·rfl
    ·rfl
   refine hK.out _ _ ?_
   clear hK K
   refine norm_ (a' := ?_) ?_ ?_
   rotate_left
   ·show Act.put _ (some 26) _ = _
    simp only [Act.put, List.setIfInBounds_toArray, List.set_cons_zero, List.set_cons_succ, i64_w, i32_w]
    rfl
   refine pure_ (i := 10) (N := some 7) (v := ?_) (a' := ?_) #[true, true, true, true, true, true, true, true, true, true, true] rfl rfl (by kernel_rfl) (fun _ _ _ h => h) (Or.inl ⟨by rfl, ?_⟩) ?_ ?_
   rotate_left
   ·intro w'
    go_simp
    with_reducible rfl
   rotate_left
   ·simp only [Act.put, List.setIfInBounds_toArray, List.set_cons_zero, List.set_cons_succ, i64_w, i32_w]
    rfl
   refine done_ (by kernel_rfl) ?_
   have key : monG xs (q1, q2) (k + 1) i = ((stp quoO x1 x2 q1 q2).bind fun z => (monG xs (q1, q2) k (i + 1)).map (z :: ·)) := by
    show ((stp quoO (at_ xs i).1 (at_ xs i).2 q1 q2).bind fun z => (monG xs (q1, q2) k (i + 1)).map (z :: ·)) = _
    rw [HX.out.1]
   rw [stp_of hra hrb] at key
   have HKE := Aside0.mk (HD.out.trans (congrArg (Option.map (os ++ ·)) key))
   have HOW := Aside0.mk (HO.out.below DW.out)
   clear key hra hrb hqr hx hy q0 q1' q2' q3'
   cases hg : (isFin r && isFin ri)
   ·have HRN := Aside0.mk (show R = none by have h := HKE.out; rw [hg] at h; exact h)
    go_wp2_with fail
    refine (l01Finite_calls r ri _).mono ?_
    rintro e w4 ⟨rfl, n6, rfl⟩
    rw [hg]
    go_wp2
    go_ret2
    rw [HRN.out]
    exact ResB.none_ (by repeat (first | exact HOW.out.low | refine pw_below_drewN ?_ _))
   ·have HR2 := Aside0.mk (show R = (monG xs (q1, q2) k (i + 1)).map ((os ++ [(r, ri)]) ++ ·) by
     have h := HKE.out
     rw [hg, if_pos rfl] at h
     rw [h]
     cases monG xs (q1, q2) k (i + 1) <;> simp)
    go_wp2_with fail
    refine (l01Finite_calls r ri _).mono ?_
    rintro e w4 ⟨rfl, n6, rfl⟩
    rw [hg]
    go_wp2_with (first | ((with_reducible refine gate_builtin (b := .append) (xs := #[.tmp 30, .tmp 32]) rfl ?_); at_builtin; refine Kd.R_append cxk (w0 := w) w.heap.size rfl (.tmp 30) (.tmp 32) 24 34 (.complex .f64 0 0) 16 rfl Try.underlying24 info_cx rfl (by decide) (by omega) _ os (r, ri) [.complex .f64 _ _] (fun _ => True) (fun _ => False) rfl rfl ?aP (fun _ hk => hk.elim) ?aF ?aO ?aB ?aS ?aL ?_; (case aP => exact rfl); (case aF => exact (fun _ _ => trivial)); (case aB => repeat (first | exact HOW.out.low | (with_reducible refine pw_below_drewN ?_ _))); (case aO => repeat (first | exact HOW.out.row | (with_reducible refine Kd.R_drewN ?_ _))); (case aS => exact HOW.out.low.size); (case aL => have h1 := HJ.out; omega); intro v1 w4 ho hb hg hat))
    have EO := Aside0.mk (Own.mk ho hb)
    clear ho hb hg hat
    go_wp2_with fail
    go_roundg k
    case measure => omega
    case rel => exact ⟨i + 1, by first | rfl | rw [e3], ⟨⟨_, EO.out, HR2.out, by have := HJ.out; simp; omega, by have := HJ.out; have := HN.out; omega⟩⟩⟩
  | zero =>
   have hl' : decide (i + 1 < N) = false := decide_eq_false (by have := HN.out; omega)
   have HD := Aside0.mk (show R = some (os ++ [one_n]) from hd)
   have HO := Aside0.mk ho
   have HJ := Aside0.mk (show os.length + 1 = xs.length by have := HL.out; omega)
   clear ho hd hos hg
   go_wp2_with (first | ((with_reducible refine gate_builtin (b := .append) (xs := #[.tmp 34, .tmp 35]) rfl ?_); at_builtin; refine Kd.R_append cxk (w0 := w) w.heap.size rfl (.tmp 34) (.tmp 35) 24 34 (.complex .f64 0 0) 16 rfl Try.underlying24 info_cx rfl (by decide) (by omega) _ os one_n [.complex .f64 _ _] (fun _ => True) (fun _ => False) rfl rfl ?bP (fun _ hk => hk.elim) ?bF ?bO ?bB ?bS ?bL ?_; (case bP => exact rfl); (case bF => exact (fun _ _ => trivial)); (case bB => repeat (first | exact HO.out.low | (with_reducible refine pw_below_drewN ?_ _))); (case bO => repeat (first | exact HO.out.row | (with_reducible refine Kd.R_drewN ?_ _))); (case bS => exact HO.out.low.size); (case bL => have h1 := HJ.out; have h2 := HL.out; omega); intro v1 w4 ho hb hg hat))
   have EO := Aside0.mk (Own.mk ho hb)
   clear ho hb hg hat
   go_wp2
   go_ret2
   rw [HD.out]
   exact ResB.some_ EO.out
end Go.Proofs.Ytdjkcpmoigemdaa
namespace Go.Proofs.Ytdjkcpmoigemdaa
open Go Ieee Go.RowKit Go.Proofs.Ytdjkcpmoigemdaa.Fl Go.Proofs.Ytdjkcpmoigemdaa.Fx Go.Proofs.Ytdjkcpmoigemdaa.P Go.Proofs.YtdjkcpmoigemdaaW.PrintWords Go.Proofs.YtdjkcpmoigemdaaW.PrintLast Go.Proofs.YtdjkcpmoigemdaaW.PrintMore
set_option linter.unusedVariables false
set_option linter.unusedSimpArgs false
theorem hlf_inf {x : Nat} (h : isFin x = false) (hn : isN x = false) : ∃ y, hlf (some x) = some y := by
 cases hr : double.read x with
 | nan s t => unfold isN at hn; rw [show rd64 x = _ from hr] at hn; cases hn
 | number s m p => rw [fin_of hr] at h; cases h
 | infinity s =>
  refine ⟨double.write (.infinity (s ^^ false)), ?_⟩
  show ((double.read x).product (double.read 4602678819172646912)).map double.write = _
  rw [hr, half_read]
  rfl
theorem dbl_some {x : Nat} (hn : isN x = false) : ∃ y, dbl (some x) = some y ∧ isN y = false := by
 cases h : isFin x
 ·obtain ⟨y, h1, _, h3⟩ := dbl_inf h hn
  exact ⟨y, h1, h3⟩
 ·obtain ⟨y, hy⟩ := fb_mul_some (y := 4611686018427387904) h (by decide)
  exact ⟨y, hy, fb_notnan hy⟩
theorem hlf_some {x : Nat} (hn : isN x = false) : ∃ y, hlf (some x) = some y ∧ isN y = false := by
 cases h : isFin x
 ·obtain ⟨y, h1⟩ := hlf_inf h hn
  exact ⟨y, h1, fb_notnan (show fb .mul x 4602678819172646912 = some y from h1)⟩
 ·obtain ⟨y, hy⟩ := fb_mul_some (y := 4602678819172646912) h (by decide)
  exact ⟨y, hy, fb_notnan hy⟩
theorem rep_some {f : Option Nat → Option Nat} (hf : ∀ {x : Nat}, isN x = false → ∃ y, f (some x) = some y ∧ isN y = false) : ∀ (n : Nat) {x : Nat}, isN x = false → ∃ y, rep f n (some x) = some y
 | 0, x, _ => ⟨x, rfl⟩
 | n + 1, x, h => by
  obtain ⟨y, h1, h2⟩ := hf h
  obtain ⟨z, hz⟩ := rep_some hf n h2
  exact ⟨z, by show rep f n (f (some x)) = _; rw [h1]; exact hz⟩
def scF (k : Int) (x : Nat) : Nat := (scK k (some x)).getD 0
theorem scF_some {x : Nat} (k : Int) (h : isFin x = true) : scK k (can x) = some (scF k x) := by
 rw [can_fin h]
 have hn := isN_fin h
 obtain ⟨y, hy⟩ : ∃ y, scK k (some x) = some y := by
  unfold scK
  split
  ·exact rep_some hlf_some _ hn
  ·exact rep_some dbl_some _ hn
 unfold scF
 rw [hy]
 rfl
def sclG (xs : Cs) (k : Int) : Nat → Int → Cs
 | 0, _ => []
 | n + 1, i => (scF (k * i) (at_ xs i).1, scF (k * i) (at_ xs i).2) :: sclG xs k n (i + 1)
def sclL (xs : Cs) (k : Int) : Cs := sclG xs k xs.length 0
theorem sclG_len (xs : Cs) (k : Int) : ∀ (n : Nat) (i : Int), (sclG xs k n i).length = n
 | 0, _ => rfl
 | n + 1, i => by unfold sclG; rw [List.length_cons, sclG_len xs k n (i + 1)]
def sclP (xs : Cs) (k : Int) : Cs × Int := if polyB xs then (if decide (-60 ≤ k ∧ k ≤ 60) then (if polyB (sclL xs k) then (sclL xs k, 0) else ([], 3)) else ([], 2)) else ([], 1)
end Go.Proofs.Ytdjkcpmoigemdaa
namespace Go.Proofs.Ytdjkcpmoigemdaa
open Go Ieee Go.RowKit Go.Proofs.Ytdjkcpmoigemdaa.Fl Go.Proofs.Ytdjkcpmoigemdaa.Fx Go.Proofs.Ytdjkcpmoigemdaa.P Go.Proofs.YtdjkcpmoigemdaaW.PrintWords Go.Proofs.YtdjkcpmoigemdaaW.PrintLast Go.Proofs.YtdjkcpmoigemdaaW.PrintMore
set_option linter.unusedVariables false
set_option linter.unusedSimpArgs false
attribute [local go_sem] run_add run_sub run_mul run_quo run_cadd run_csub run_neg run_cneg run_store_cx
structure SclAt (xs : Cs) (k : Int) (w w' : World) (v : Value) (g : Nat) (i : Int) : Prop where
 at_ : ∃ os, Own w w' v os ∧ os ++ sclG xs k g i = sclL xs k ∧ (os.length : Int) = i ∧ i + g = (xs.length : Int)
end Go.Proofs.Ytdjkcpmoigemdaa
namespace Go.Proofs.Ytdjkcpmoigemdaa
open Go Ieee Go.RowKit Go.Proofs.Ytdjkcpmoigemdaa.Fl Go.Proofs.Ytdjkcpmoigemdaa.Fx Go.Proofs.Ytdjkcpmoigemdaa.P Go.Proofs.YtdjkcpmoigemdaaW.PrintWords Go.Proofs.YtdjkcpmoigemdaaW.PrintLast Go.Proofs.YtdjkcpmoigemdaaW.PrintMore
set_option linter.unusedVariables false
set_option linter.unusedSimpArgs false
attribute [local go_sem] run_add run_sub run_mul run_quo run_cadd run_csub run_neg run_cneg run_store_cx
end Go.Proofs.Ytdjkcpmoigemdaa
namespace Go.Proofs.Ytdjkcpmoigemdaa
open Go Ieee Go.RowKit Go.Proofs.Ytdjkcpmoigemdaa.Fl Go.Proofs.Ytdjkcpmoigemdaa.Fx Go.Proofs.Ytdjkcpmoigemdaa.P Go.Proofs.YtdjkcpmoigemdaaW.PrintWords Go.Proofs.YtdjkcpmoigemdaaW.PrintLast Go.Proofs.YtdjkcpmoigemdaaW.PrintMore
set_option linter.unusedVariables false
set_option linter.unusedSimpArgs false
def subE (p c z : Nat × Nat) : Option (Nat × Nat) := stp (fun a b _ _ => (fop .sub (can a) (mulO c.1 c.2 z.1 z.2).1, fop .sub (can b) (mulO c.1 c.2 z.1 z.2).2)) p.1 p.2 0 0
theorem subE_of {p c z : Nat × Nat} {r i : Nat} (hr : can r = fop .sub (can p.1) (mulO c.1 c.2 z.1 z.2).1) (hi : can i = fop .sub (can p.2) (mulO c.1 c.2 z.1 z.2).2) : subE p c z = if isFin r && isFin i then some (r, i) else none := stp_of hr hi
def stpR (z : Nat × Nat) : Nat × Nat → Cs → Option Cs
 | p, [] => some [p]
 | p, c :: cs => (subE p c z).bind fun r => (stpR z c cs).map (r :: ·)
def ofR : Cs → Cs → Option Cs
 | [], os => some os
 | z :: zs, os => (stpR z (0, 0) os).bind fun os' => ofR zs os'
def rootsT (xs : Cs) : Option Cs := ofR xs [one_n]
def rootsP (xs : Cs) : Cs × Int := if decide (1 ≤ xs.length ∧ xs.length ≤ 12) then (if finL xs then (match rootsT xs with | some zs => (zs, 0) | none => ([], 3)) else ([], 1)) else ([], 2)
theorem stpR_len (z : Nat × Nat) : ∀ (p : Nat × Nat) (cs zs : Cs), stpR z p cs = some zs → zs.length = cs.length + 1 ∧ at_ zs cs.length = at_ (p :: cs) cs.length
 | p, [], zs, h => by cases h; exact ⟨rfl, rfl⟩
 | p, c :: cs, zs, h => by
  unfold stpR at h
  obtain ⟨r, _, h2⟩ := Option.bind_eq_some_iff.1 h
  obtain ⟨l, h3, rfl⟩ := Option.map_eq_some_iff.1 h2
  obtain ⟨h4, h5⟩ := stpR_len z c cs l h3
  exact ⟨by rw [List.length_cons, h4, List.length_cons], h5⟩
theorem ofR_len : ∀ (xs os zs : Cs) (n : Nat), os.length = n + 1 → at_ os n = one_n → ofR xs os = some zs → zs.length = xs.length + n + 1 ∧ at_ zs (xs.length + n : Nat) = one_n
 | [], os, zs, n, h1, h2, h => by cases h; exact ⟨by simp [h1], by simpa using h2⟩
 | z :: xs, os, zs, n, h1, h2, h => by
  unfold ofR at h
  obtain ⟨os', h3, h4⟩ := Option.bind_eq_some_iff.1 h
  obtain ⟨h5, h6⟩ := stpR_len z (0, 0) os os' h3
  rw [h1] at h5 h6
  have h7 : at_ os' (n + 1 : Nat) = one_n := h6.trans h2
  obtain ⟨h8, h9⟩ := ofR_len xs os' zs (n + 1) h5 h7 h4
  refine ⟨by rw [h8, List.length_cons]; omega, ?_⟩
  rw [List.length_cons, show xs.length + 1 + n = xs.length + (n + 1) by omega]
  exact h9
end Go.Proofs.Ytdjkcpmoigemdaa
namespace Go.Proofs.Ytdjkcpmoigemdaa
open Go Ieee Go.RowKit Go.Proofs.Ytdjkcpmoigemdaa.Fl Go.Proofs.Ytdjkcpmoigemdaa.Fx Go.Proofs.Ytdjkcpmoigemdaa.P Go.Proofs.YtdjkcpmoigemdaaW.PrintWords Go.Proofs.YtdjkcpmoigemdaaW.PrintLast Go.Proofs.YtdjkcpmoigemdaaW.PrintMore
set_option linter.unusedVariables false
set_option linter.unusedSimpArgs false
attribute [local go_sem] run_add run_sub run_mul run_quo run_cadd run_csub run_neg run_cneg run_store_cx
theorem Own.one {w w' : World} (h : Below w.heap.size w w') (z : Nat × Nat) : Own w (w'.alloc (.cells #[.complex .f64 z.1 z.2] 34)) (.slice (some ⟨w'.heap.size, 0, none⟩) 1 1) [z] := by
 have k := World.ownsRow_lit (base := w.heap.size) (e := 34) (size := 1) w' #[.complex .f64 z.1 z.2] 1 h.size (by unfold maxLen; omega) (by simp)
 exact ⟨Kd.R_of_own (by simpa [encs, cxv] using k) (fun k hk => trivial), h.alloc h.size _⟩
def ResO (w : World) (o : Option Cs) : Ending → World → Prop := fun e w' => match o with
 | none => e = .returned (.tuple #[.slice none 0 0, .bool false]) ∧ Below w.heap.size w w'
 | some zs => ∃ v, e = .returned (.tuple #[v, .bool true]) ∧ Own w w' v zs
def prv (os : Cs) (n : Int) : Nat × Nat := at_ ((0, 0) :: os) n
theorem prv_next (os : Cs) (n : Int) (h : 0 ≤ n) : prv os (n + 1) = at_ os n := by
 obtain ⟨k, rfl⟩ : ∃ k : Nat, n = k := ⟨n.toNat, by omega⟩
 rfl
theorem subE_fin {p c z r : Nat × Nat} (h : subE p c z = some r) : (isFin r.1 && isFin r.2) = true := by
 unfold subE stp at h
 split at h
 ·split at h
  ·rename_i hf
   cases h
   exact hf
  ·cases h
 ·cases h
theorem stpR_fin (z : Nat × Nat) : ∀ (p : Nat × Nat) (cs zs : Cs), (isFin p.1 && isFin p.2) = true → finL cs = true → stpR z p cs = some zs → finL zs = true
 | p, [], zs, hp, _, h => by cases h; show ((isFin p.1 && isFin p.2) && true) = true; rw [hp]; rfl
 | p, c :: cs, zs, hp, hc, h => by
  unfold stpR at h
  obtain ⟨r, h1, h2⟩ := Option.bind_eq_some_iff.1 h
  obtain ⟨l, h3, rfl⟩ := Option.map_eq_some_iff.1 h2
  have hc' : ((isFin c.1 && isFin c.2) && finL cs) = true := hc
  rw [Bool.and_eq_true] at hc'
  show ((isFin r.1 && isFin r.2) && finL l) = true
  rw [subE_fin h1, stpR_fin z c cs l hc'.1 hc'.2 h3]
  rfl
structure RtOut (xs : Cs) (R : Option Cs) (w w' : World) (v : Value) (g : Nat) (k : Int) : Prop where
 at_ : ∃ os, Own w w' v os ∧ ofR (xs.drop k.toNat) os = R ∧ 0 ≤ k ∧ k + g = xs.length ∧ (os.length : Int) = k + 1 ∧ finL os = true
structure RtIn (os : Cs) (z : Nat × Nat) (S : Option Cs) (w w' : World) (v : Value) (g : Nat) (n : Int) : Prop where
 at_ : ∃ ds, Own w w' v ds ∧ (ds.length : Int) = n ∧ n + g = (os.length : Int) + 1 ∧ (n ≤ os.length → S = (stpR z (prv os n) (os.drop n.toNat)).map (ds ++ ·)) ∧ (n = (os.length : Int) + 1 → S = some ds)
theorem RtIn.step {os : Cs} {z : Nat × Nat} {S : Option Cs} {ds : Cs} {n : Int} {r i : Nat} (h0 : 0 ≤ n) (h1 : n < os.length) (h : S = (stpR z (prv os n) (os.drop n.toNat)).map (ds ++ ·)) (hr : can r = fop .sub (can (prv os n).1) (mulO (rdOf (0, 0) os n).1 (rdOf (0, 0) os n).2 z.1 z.2).1) (hi : can i = fop .sub (can (prv os n).2) (mulO (rdOf (0, 0) os n).1 (rdOf (0, 0) os n).2 z.1 z.2).2) :
  if isFin r && isFin i then S = (stpR z (prv os (n + 1)) (os.drop (n + 1).toNat)).map ((ds ++ [(r, i)]) ++ ·) else S = none := by
 rw [drop_cons os n h0 h1] at h
 unfold stpR at h
 rw [subE_of hr hi] at h
 cases hf : (isFin r && isFin i)
 ·rw [hf] at h
  exact h
 ·rw [hf, if_pos rfl] at h
  rw [if_pos rfl, h, prv_next os n h0]
  show ((stpR z (rdOf (0, 0) os n) (os.drop (n + 1).toNat)).map ((r, i) :: ·)).map (ds ++ ·) = (stpR z (rdOf (0, 0) os n) (os.drop (n + 1).toNat)).map ((ds ++ [(r, i)]) ++ ·)
  cases stpR z (rdOf (0, 0) os n) (os.drop (n + 1).toNat) <;> simp
set_option maxRecDepth 100000 in
set_option maxHeartbeats 8000000 in
theorem l04OfRoots_calls (A : Option Addr) (c : Nat) (xs : Cs) (w : World) (hr : cxk.C w A xs.length xs) (hl : xs.length ≤ 1000) : Calls Try.prog 28 #[.slice A xs.length c] w fun e w' => ResO w (rootsT xs) e w' := by
 have HR := Aside0.mk hr; have HL := Aside0.mk hl
 obtain ⟨N, hN⟩ : ∃ N : Int, (xs.length : Int) = N := ⟨_, rfl⟩
 have HN := Aside0.mk hN
 obtain ⟨R, hR⟩ : ∃ R, rootsT xs = R := ⟨_, rfl⟩
 rw [hR]
 have HRR := Aside0.mk hR
 clear hr hl hR
 go_enter Try.func28, Try.ntmps28
 have HO := Aside0.mk (Own.one (Below.refl w.heap.size w) one_n)
 go_wp2_with fail
 go_loopg [4, 5] xs.length (fun g v u w' => ∃ (k : Int), u = .int .i64 k ∧ Aside0 (RtOut xs R w w' v g k))
 case atStart => exact ⟨0, rfl, ⟨⟨[one_n], HO.out, HRR.out, by omega, by omega, rfl, by decide⟩⟩⟩
 case round =>
  clear HO HRR
  obtain ⟨k, rfl, hj⟩ := hrel
  obtain ⟨os, ho, hd, hk0, hkg, hos, hfo⟩ := hj.out.at_
  clear hj
  cases gk with
  | succ m =>
   have HKB := Aside0.mk (show 0 ≤ k ∧ k < N ∧ k + m + 1 = N ∧ (os.length : Int) = k + 1 by omega)
   have hl' : decide (k < N) = true := decide_eq_true HKB.out.2.1
   obtain ⟨w9, hw9⟩ : ∃ w9, w9 = wr := ⟨_, rfl⟩
   subst hw9
   have HLW := Aside0.mk ho.low
   have HFO := Aside0.mk (fin_at hfo)
   have HFS := Aside0.mk hfo
   clear hfo
   obtain ⟨G, cap, rfl, hcap, hC⟩ := ho.reads
   have HC := Aside0.mk hC
   obtain ⟨L, hL⟩ : ∃ L : Int, (os.length : Int) = L := ⟨_, rfl⟩
   have HL2 := Aside0.mk (show (os.length : Int) = L ∧ 1 ≤ L ∧ L ≤ 1000 by have := HL.out; omega)
   rw [drop_cons xs k hk0 (by omega)] at hd
   obtain ⟨ad, rfl, hzc⟩ := cx_at (Kd.C_below HR.out ho.low) k hk0 (by omega)
   obtain ⟨⟨z1, z2⟩, hzz⟩ : ∃ z, rdOf (0, 0) xs k = z := ⟨_, rfl⟩
   rw [hzz] at hzc hd
   have HZC := Aside0.mk hzc
   obtain ⟨S, hS⟩ : ∃ S, stpR (z1, z2) (0, 0) os = S := ⟨_, rfl⟩
   unfold ofR at hd
   rw [hS] at hd
   have HRS := Aside0.mk hd
   have HS := Aside0.mk hS
   have HO := Aside0.mk (Own.empty (Below.refl w9.heap.size w9))
   have HSS := Aside0.mk hS
   clear ho hd hkg hos hcap hC hzc hzz hS hk0
   go_wp2_with fail
   go_loopg [6, 7] (os.length + 1) (fun g v u w' => ∃ (n : Int), u = .int .i64 n ∧ Aside0 (RtIn os (z1, z2) S w9 w' v g n))
   case atStart => exact ⟨0, rfl, ⟨⟨[], HO.out, rfl, by omega, fun _ => by rw [← HS.out]; show _ = (stpR (z1, z2) (0, 0) os).map _; cases stpR (z1, z2) (0, 0) os <;> rfl, fun h => by omega⟩⟩⟩
   case round =>
    clear HO HS
    obtain ⟨n, rfl, hj⟩ := hrel
    obtain ⟨ds, ho, hn, hng, hd1, hd2⟩ := hj.out.at_
    clear hj
    have HO := Aside0.mk ho
    have HD := Aside0.mk (And.intro hd1 hd2)
    cases gk with
    | succ q =>
     have HJ := Aside0.mk (show 0 ≤ n ∧ n + q = L ∧ (ds.length : Int) = n by have := HL2.out; omega)
     have hl2 : decide (n ≤ L) = true := decide_eq_true (by have := HJ.out; omega)
     clear ho hn hng hd1 hd2
     by_cases hp : n > 0
     ·have d1 : decide (n > 0) = true := decide_eq_true hp
      obtain ⟨ga, eg, hpx⟩ := cx_at (Kd.C_below HC.out HO.out.low) (n - 1) (by omega) (by have := HJ.out; have := HL2.out; omega)
      subst eg
      obtain ⟨⟨p1, p2⟩, hpp⟩ : ∃ c, rdOf (0, 0) os (n - 1) = c := ⟨_, rfl⟩
      rw [hpp, show (n - 1).toNat = n.toNat - 1 by omega] at hpx
      have HPV := Aside0.mk (show prv os n = (p1, p2) by have h := prv_next os (n - 1) (by omega); rw [show n - 1 + 1 = n by omega] at h; rw [h]; exact hpp)
      have w7 : wrap64 (n - 1) = n - 1 := by have := HJ.out; have := HL2.out; exact w64 (by omega) (by omega)
      have nb : n ≤ 1000 := by have := HJ.out; have := HL2.out; omega
      have HPV2 := Aside0.mk hpp
      clear hpp
      by_cases hb : n < L
      ·have d2 : decide (n < L) = true := decide_eq_true hb
       obtain ⟨ga', eg', hx⟩ := cx_at (Kd.C_below HC.out HO.out.low) n HJ.out.1 (by have := HJ.out; have := HL2.out; omega)
       cases eg'
       obtain ⟨⟨c1, c2⟩, hcc⟩ : ∃ c, rdOf (0, 0) os n = c := ⟨_, rfl⟩
       rw [hcc] at hx
       have HCV := Aside0.mk hcc
       have hz := pw_cell_below HO.out.low HZC.out
       have q0 := eq_true HJ.out.1
       have q1 := eq_true (show n < L by omega)
       have q2 := eq_true HKB.out.1
       have q3 := eq_true HKB.out.2.1
       clear hcc
       go_wp2_with fail
       refine start_ (n := 12) (S := fun w' => w'.cell? (ga.add n.toNat) = some (.complex .f64 c1 c2) ∧ w'.cell? (ad.add k.toNat) = some (.complex .f64 z1 z2)) (ds := [9, 10]) #[false, false, false, false, false, false, false, false, false, false, false, false] (by kernel_rfl) rfl rfl ⟨hx, hz⟩ (fun hHeld => ?_)
       have DW := Aside0.mk ((Below.refl wr.heap.size wr).drew)
       generalize wr.drew = W at hHeld DW ⊢
       refine pure_ (i := 0) (N := some 34) (v := ?_) (a' := ?_) #[true, false, false, false, false, false, false, false, false, false, false, false] rfl rfl (by kernel_rfl) (fun _ _ _ h => h) (Or.inl ⟨by rfl, ?_⟩) ?_ ?_
       rotate_left
       ·intro w'
        go_simp
        with_reducible rfl
       rotate_left
       ·simp only [Act.put, List.setIfInBounds_toArray, List.set_cons_zero, List.set_cons_succ, i64_w, i32_w]
        rfl
       refine pure_ (i := 1) (N := some 35) (v := ?_) (a' := ?_) #[true, true, false, false, false, false, false, false, false, false, false, false] rfl rfl (by kernel_rfl) (fun _ _ _ h => h) (Or.inl ⟨by rfl, ?_⟩) ?_ ?_
       rotate_left
       ·intro w'
        go_simp
        with_reducible rfl
       rotate_left
       ·simp only [Act.put, List.setIfInBounds_toArray, List.set_cons_zero, List.set_cons_succ, i64_w, i32_w]
        rfl
       refine pure_ (i := 2) (N := some 36) (v := ?_) (a' := ?_) #[true, true, true, false, false, false, false, false, false, false, false, false] rfl rfl (by kernel_rfl) (fun _ _ _ h => h) (Or.inl ⟨by rfl, ?_⟩) ?_ ?_
       rotate_left
       ·intro w'
        go_simp
        with_reducible rfl
       rotate_left
       ·simp only [Act.put, List.setIfInBounds_toArray, List.set_cons_zero, List.set_cons_succ, i64_w, i32_w]
        rfl
       refine pure_ (i := 3) (N := some 37) (v := ?_) (a' := ?_) #[true, true, true, true, false, false, false, false, false, false, false, false] rfl rfl (by kernel_rfl) (fun _ _ _ h => h) (Or.inl ⟨by rfl, ?_⟩) ?_ ?_
       rotate_left
       ·intro w'
        go_simp
        with_reducible rfl
       rotate_left
       ·simp only [Act.put, List.setIfInBounds_toArray, List.set_cons_zero, List.set_cons_succ, i64_w, i32_w]
        rfl
       refine pure_ (i := 5) (N := some 39) (v := ?_) (a' := ?_) #[true, true, true, true, false, true, false, false, false, false, false, false] rfl rfl (by kernel_rfl) (fun _ _ _ h => h) (Or.inl ⟨by rfl, ?_⟩) ?_ ?_
       rotate_left
       ·intro w'
        go_simp
        with_reducible rfl
       rotate_left
       ·simp only [Act.put, List.setIfInBounds_toArray, List.set_cons_zero, List.set_cons_succ, i64_w, i32_w]
        rfl
       refine pure_ (i := 6) (N := some 40) (v := ?_) (a' := ?_) #[true, true, true, true, false, true, true, false, false, false, false, false] rfl rfl (by kernel_rfl) (fun _ _ _ h => h) (Or.inl ⟨by rfl, ?_⟩) ?_ ?_
       rotate_left
       ·intro w'
        go_simp
        with_reducible rfl
       rotate_left
       ·simp only [Act.put, List.setIfInBounds_toArray, List.set_cons_zero, List.set_cons_succ, i64_w, i32_w]
        rfl
       refine pure_ (i := 7) (N := some 41) (v := ?_) (a' := ?_) #[true, true, true, true, false, true, true, true, false, false, false, false] rfl rfl (by kernel_rfl) (fun _ _ _ h => h) (Or.inl ⟨by rfl, ?_⟩) ?_ ?_
       rotate_left
       ·intro w'
        go_simp
        with_reducible rfl
       rotate_left
       ·simp only [Act.put, List.setIfInBounds_toArray, List.set_cons_zero, List.set_cons_succ, i64_w, i32_w]
        rfl
       refine take_ (i := 4) (N := some 38) (v := ?_) (a' := ?_) #[true, true, true, true, true, true, true, true, false, false, false, false] rfl rfl (by kernel_rfl) (fun _ _ _ h => h) (Or.inl ⟨by rfl, ?_⟩) hHeld ?_ ?_
       rotate_left
       ·rintro w' ⟨s0, s1⟩
        go_simp
        with_reducible rfl
       rotate_left
       ·simp only [Act.put, List.setIfInBounds_toArray, List.set_cons_zero, List.set_cons_succ, i64_w, i32_w]
        rfl
       refine take_ (i := 8) (N := some 42) (v := ?_) (a' := ?_) #[true, true, true, true, true, true, true, true, true, false, false, false] rfl rfl (by kernel_rfl) (fun _ _ _ h => h) (Or.inl ⟨by rfl, ?_⟩) hHeld ?_ ?_
       rotate_left
       ·rintro w' ⟨s0, s1⟩
        go_simp
        with_reducible rfl
       rotate_left
       ·simp only [Act.put, List.setIfInBounds_toArray, List.set_cons_zero, List.set_cons_succ, i64_w, i32_w]
        rfl
       refine last_ (i := 9) (N := some 43) #[true, true, true, true, true, true, true, true, true, true, false, false] rfl rfl (by kernel_rfl) (by decide) (fun K hK => ?_)
       refine goes_ Try.func64 (by kernel_rfl) rfl #[.complex .f64 c1 c2, .complex .f64 z1 z2] (by rfl) rfl rfl (by simp only [List.map_toArray, List.map_cons, List.map_nil]; rfl) ?_
       with_reducible refine (l01Times_calls c1 c2 z1 z2 _).mono ?_
       rintro e w2 ⟨⟨v2, rfl, pr, pi, rfl, hr, hi⟩, n3, rfl⟩
       refine ⟨_, rfl, ?_⟩
       refine hK.out _ _ ?_
       clear hK K
       refine norm_ (a' := ?_) ?_ ?_
       rotate_left
       ·show Act.put _ (some 43) _ = _
        simp only [Act.put, List.setIfInBounds_toArray, List.set_cons_zero, List.set_cons_succ, i64_w, i32_w]
        rfl
       refine last_ (i := 10) (N := some 44) #[true, true, true, true, true, true, true, true, true, true, true, false] rfl rfl (by kernel_rfl) (by decide) (fun K hK => ?_)
       refine value_ (w1 := ?_) (v := ?_) (by rfl) rfl ?_ ?_
       rotate_left 2
       ·go_simp
        constructor
        ·rfl
        ·rfl
       refine hK.out _ _ ?_
       clear hK K
       refine norm_ (a' := ?_) ?_ ?_
       rotate_left
       ·show Act.put _ (some 44) _ = _
        simp only [Act.put, List.setIfInBounds_toArray, List.set_cons_zero, List.set_cons_succ, i64_w, i32_w]
        rfl
       refine pure_ (i := 11) (N := some 8) (v := ?_) (a' := ?_) #[true, true, true, true, true, true, true, true, true, true, true, true] rfl rfl (by kernel_rfl) (fun _ _ _ h => h) (Or.inl ⟨by rfl, ?_⟩) ?_ ?_
       rotate_left
       ·intro w'
        go_simp
        with_reducible rfl
       rotate_left
       ·simp only [Act.put, List.setIfInBounds_toArray, List.set_cons_zero, List.set_cons_succ, i64_w, i32_w]
        rfl
       refine done_ (by kernel_rfl) ?_
       have HOW := Aside0.mk (HO.out.below DW.out)
       obtain ⟨r, hrr⟩ : ∃ r, fr .sub p1 pr (W.drewN n3) = r := ⟨_, rfl⟩
       obtain ⟨ri, hri⟩ : ∃ r, fr .sub p2 pi (W.drewN (n3 + fn .sub p1 pr)) = r := ⟨_, rfl⟩
       rw [hrr, hri]
       have HST := Aside0.mk (RtIn.step HJ.out.1 (by have := HJ.out; have := HL2.out; omega) (HD.out.1 (by have := HJ.out; have := HL2.out; omega)) (r := r) (i := ri) (by rw [← hrr, can_fr, HPV.out, HCV.out, hr]) (by rw [← hri, can_fr, HPV.out, HCV.out, hi]))
       clear hrr hri hr hi hx hz q0 q1 q2 q3
       cases hg' : (isFin r && isFin ri)
       ·have HSN := Aside0.mk (show S = none by have h := HST.out; rw [hg'] at h; exact h)
        go_wp2_with fail
        refine (l01Finite_calls r ri _).mono ?_
        rintro e w4 ⟨rfl, n6, rfl⟩
        rw [hg']
        have HRN := Aside0.mk (show R = none by rw [← HRS.out, HSN.out]; rfl)
        go_wp2
        go_ret2
        rw [HRN.out]
        exact ⟨rfl, HLW.out.trans ((by repeat (first | exact HOW.out.low | refine pw_below_drewN ?_ _) : Below w9.heap.size w9 _).mono HLW.out.size)⟩
       ·have HST2 := Aside0.mk (show S = (stpR (z1, z2) (prv os (n + 1)) (os.drop (n + 1).toNat)).map ((ds ++ [(r, ri)]) ++ ·) by have h := HST.out; rw [hg', if_pos rfl] at h; exact h)
        go_wp2_with fail
        refine (l01Finite_calls r ri _).mono ?_
        rintro e w4 ⟨rfl, n6, rfl⟩
        rw [hg']
        go_wp2_with (first | ((with_reducible refine gate_builtin (b := .append) (xs := #[.tmp 48, .tmp 50]) rfl ?_); at_builtin; refine Kd.R_append cxk (w0 := w9) w9.heap.size rfl (.tmp 48) (.tmp 50) 24 34 (.complex .f64 0 0) 16 rfl Try.underlying24 info_cx rfl (by decide) (by omega) _ ds (r, ri) [.complex .f64 _ _] (fun _ => True) (fun _ => False) rfl rfl ?aP (fun _ hk => hk.elim) ?aF ?aO ?aB ?aS ?aL ?_; (case aP => exact rfl); (case aF => exact (fun _ _ => trivial)); (case aB => repeat (first | exact HOW.out.low | (with_reducible refine pw_below_drewN ?_ _))); (case aO => repeat (first | exact HOW.out.row | (with_reducible refine Kd.R_drewN ?_ _))); (case aS => exact HOW.out.low.size); (case aL => have h1 := HJ.out; have h2 := HL2.out; omega); intro v1 w4 ho hb hg hat))
        have EO := Aside0.mk (Own.mk ho hb)
        clear ho hb hg hat
        go_wp2_with fail
        go_roundg q
        case measure => omega
        case rel =>
         have e : wrap64 (n + 1) = n + 1 := by have := HJ.out; have := HL2.out; exact w64 (by omega) (by omega)
         exact ⟨n + 1, by first | rfl | rw [e], ⟨⟨_, EO.out, by have := HJ.out; simp; omega, by have := HJ.out; omega, fun _ => HST2.out, fun h => by have := HJ.out; omega⟩⟩⟩
      ·have d2 : decide (n < L) = false := decide_eq_false hb
       have hfe := HD.out.1 (by have := HJ.out; have := HL2.out; omega)
       rw [List.drop_eq_nil_of_le (show os.length ≤ n.toNat by have := HJ.out; have := HL2.out; omega), HPV.out] at hfe
       have HSE := Aside0.mk (show S = some (ds ++ [(p1, p2)]) from hfe)
       clear hfe
       cases hg' : (isFin p1 && isFin p2)
       ·exact absurd (HFO.out (n - 1) (by have := HJ.out; omega) (by have := HJ.out; have := HL2.out; omega)) (by rw [HPV2.out]; simp [hg'])
       ·have q8 := eq_true (show 1 ≤ n by omega)
        have q9 := eq_true (show n - 1 < L by have := HJ.out; omega)
        have HB := Aside0.mk hb
        clear hb
        go_wp2_with fail
        refine (l01Finite_calls p1 p2 _).mono ?_
        rintro e w4 ⟨rfl, n6, rfl⟩
        rw [hg']
        go_wp2_with (first | ((with_reducible refine gate_builtin (b := .append) (xs := #[.tmp 48, .tmp 50]) rfl ?_); at_builtin; refine Kd.R_append cxk (w0 := w9) w9.heap.size rfl (.tmp 48) (.tmp 50) 24 34 (.complex .f64 0 0) 16 rfl Try.underlying24 info_cx rfl (by decide) (by omega) _ ds (p1, p2) [.complex .f64 _ _] (fun _ => True) (fun _ => False) rfl rfl ?dP (fun _ hk => hk.elim) ?dF ?dO ?dB ?dS ?dL ?_; (case dP => exact rfl); (case dF => exact (fun _ _ => trivial)); (case dB => repeat (first | exact HO.out.low | (with_reducible refine pw_below_drewN ?_ _))); (case dO => repeat (first | exact HO.out.row | (with_reducible refine Kd.R_drewN ?_ _))); (case dS => exact HO.out.low.size); (case dL => have h1 := HJ.out; have h2 := HL2.out; omega); intro v1 w4 ho hb hg hat))
        have EO := Aside0.mk (Own.mk ho hb)
        clear ho hb hg hat
        go_wp2_with fail
        go_roundg q
        case measure => omega
        case rel =>
         have e : wrap64 (n + 1) = n + 1 := by have := HJ.out; have := HL2.out; exact w64 (by omega) (by omega)
         exact ⟨n + 1, by first | rfl | rw [e], ⟨⟨_, EO.out, by have := HJ.out; simp; omega, by have := HJ.out; have := HL2.out; omega, fun h => by have := HJ.out; have := HL2.out; have := HB.out; omega, fun _ => HSE.out⟩⟩⟩
     ·have d1 : decide (n > 0) = false := decide_eq_false hp
      have HPV := Aside0.mk (show prv os n = (0, 0) by rw [show n = 0 by have := HJ.out; omega]; rfl)
      obtain ⟨ga, eg, _⟩ := cx_at HC.out 0 (by omega) (by have := HL2.out; omega)
      subst eg
      have nb : n ≤ 1000 := by omega
      have hb : n < L := by have := HL2.out; omega
      have d2 : decide (n < L) = true := decide_eq_true hb
      clear hp
      obtain ⟨ga', eg', hx⟩ := cx_at (Kd.C_below HC.out HO.out.low) n HJ.out.1 (by have := HJ.out; have := HL2.out; omega)
      cases eg'
      obtain ⟨⟨c1, c2⟩, hcc⟩ : ∃ c, rdOf (0, 0) os n = c := ⟨_, rfl⟩
      rw [hcc] at hx
      have HCV := Aside0.mk hcc
      have hz := pw_cell_below HO.out.low HZC.out
      have q0 := eq_true HJ.out.1
      have q1 := eq_true (show n < L by omega)
      have q2 := eq_true HKB.out.1
      have q3 := eq_true HKB.out.2.1
      clear hcc
      go_wp2_with fail
      refine start_ (n := 12) (S := fun w' => w'.cell? (ga.add n.toNat) = some (.complex .f64 c1 c2) ∧ w'.cell? (ad.add k.toNat) = some (.complex .f64 z1 z2)) (ds := [9, 10]) #[false, false, false, false, false, false, false, false, false, false, false, false] (by kernel_rfl) rfl rfl ⟨hx, hz⟩ (fun hHeld => ?_)
      have DW := Aside0.mk ((Below.refl wr.heap.size wr).drew)
      generalize wr.drew = W at hHeld DW ⊢
      refine pure_ (i := 0) (N := some 34) (v := ?_) (a' := ?_) #[true, false, false, false, false, false, false, false, false, false, false, false] rfl rfl (by kernel_rfl) (fun _ _ _ h => h) (Or.inl ⟨by rfl, ?_⟩) ?_ ?_
      rotate_left
      ·intro w'
       go_simp
       with_reducible rfl
      rotate_left
      ·simp only [Act.put, List.setIfInBounds_toArray, List.set_cons_zero, List.set_cons_succ, i64_w, i32_w]
       rfl
      refine pure_ (i := 1) (N := some 35) (v := ?_) (a' := ?_) #[true, true, false, false, false, false, false, false, false, false, false, false] rfl rfl (by kernel_rfl) (fun _ _ _ h => h) (Or.inl ⟨by rfl, ?_⟩) ?_ ?_
      rotate_left
      ·intro w'
       go_simp
       with_reducible rfl
      rotate_left
      ·simp only [Act.put, List.setIfInBounds_toArray, List.set_cons_zero, List.set_cons_succ, i64_w, i32_w]
       rfl
      refine pure_ (i := 2) (N := some 36) (v := ?_) (a' := ?_) #[true, true, true, false, false, false, false, false, false, false, false, false] rfl rfl (by kernel_rfl) (fun _ _ _ h => h) (Or.inl ⟨by rfl, ?_⟩) ?_ ?_
      rotate_left
      ·intro w'
       go_simp
       with_reducible rfl
      rotate_left
      ·simp only [Act.put, List.setIfInBounds_toArray, List.set_cons_zero, List.set_cons_succ, i64_w, i32_w]
       rfl
      refine pure_ (i := 3) (N := some 37) (v := ?_) (a' := ?_) #[true, true, true, true, false, false, false, false, false, false, false, false] rfl rfl (by kernel_rfl) (fun _ _ _ h => h) (Or.inl ⟨by rfl, ?_⟩) ?_ ?_
      rotate_left
      ·intro w'
       go_simp
       with_reducible rfl
      rotate_left
      ·simp only [Act.put, List.setIfInBounds_toArray, List.set_cons_zero, List.set_cons_succ, i64_w, i32_w]
       rfl
      refine pure_ (i := 5) (N := some 39) (v := ?_) (a' := ?_) #[true, true, true, true, false, true, false, false, false, false, false, false] rfl rfl (by kernel_rfl) (fun _ _ _ h => h) (Or.inl ⟨by rfl, ?_⟩) ?_ ?_
      rotate_left
      ·intro w'
       go_simp
       with_reducible rfl
      rotate_left
      ·simp only [Act.put, List.setIfInBounds_toArray, List.set_cons_zero, List.set_cons_succ, i64_w, i32_w]
       rfl
      refine pure_ (i := 6) (N := some 40) (v := ?_) (a' := ?_) #[true, true, true, true, false, true, true, false, false, false, false, false] rfl rfl (by kernel_rfl) (fun _ _ _ h => h) (Or.inl ⟨by rfl, ?_⟩) ?_ ?_
      rotate_left
      ·intro w'
       go_simp
       with_reducible rfl
      rotate_left
      ·simp only [Act.put, List.setIfInBounds_toArray, List.set_cons_zero, List.set_cons_succ, i64_w, i32_w]
       rfl
      refine pure_ (i := 7) (N := some 41) (v := ?_) (a' := ?_) #[true, true, true, true, false, true, true, true, false, false, false, false] rfl rfl (by kernel_rfl) (fun _ _ _ h => h) (Or.inl ⟨by rfl, ?_⟩) ?_ ?_
      rotate_left
      ·intro w'
       go_simp
       with_reducible rfl
      rotate_left
      ·simp only [Act.put, List.setIfInBounds_toArray, List.set_cons_zero, List.set_cons_succ, i64_w, i32_w]
       rfl
      refine take_ (i := 4) (N := some 38) (v := ?_) (a' := ?_) #[true, true, true, true, true, true, true, true, false, false, false, false] rfl rfl (by kernel_rfl) (fun _ _ _ h => h) (Or.inl ⟨by rfl, ?_⟩) hHeld ?_ ?_
      rotate_left
      ·rintro w' ⟨s0, s1⟩
       go_simp
       with_reducible rfl
      rotate_left
      ·simp only [Act.put, List.setIfInBounds_toArray, List.set_cons_zero, List.set_cons_succ, i64_w, i32_w]
       rfl
      refine take_ (i := 8) (N := some 42) (v := ?_) (a' := ?_) #[true, true, true, true, true, true, true, true, true, false, false, false] rfl rfl (by kernel_rfl) (fun _ _ _ h => h) (Or.inl ⟨by rfl, ?_⟩) hHeld ?_ ?_
      rotate_left
      ·rintro w' ⟨s0, s1⟩
       go_simp
       with_reducible rfl
      rotate_left
      ·simp only [Act.put, List.setIfInBounds_toArray, List.set_cons_zero, List.set_cons_succ, i64_w, i32_w]
       rfl
      refine last_ (i := 9) (N := some 43) #[true, true, true, true, true, true, true, true, true, true, false, false] rfl rfl (by kernel_rfl) (by decide) (fun K hK => ?_)
      refine goes_ Try.func64 (by kernel_rfl) rfl #[.complex .f64 c1 c2, .complex .f64 z1 z2] (by rfl) rfl rfl (by simp only [List.map_toArray, List.map_cons, List.map_nil]; rfl) ?_
      with_reducible refine (l01Times_calls c1 c2 z1 z2 _).mono ?_
      rintro e w2 ⟨⟨v2, rfl, pr, pi, rfl, hr, hi⟩, n3, rfl⟩
      refine ⟨_, rfl, ?_⟩
      refine hK.out _ _ ?_
      clear hK K
      refine norm_ (a' := ?_) ?_ ?_
      rotate_left
      ·show Act.put _ (some 43) _ = _
       simp only [Act.put, List.setIfInBounds_toArray, List.set_cons_zero, List.set_cons_succ, i64_w, i32_w]
       rfl
      refine last_ (i := 10) (N := some 44) #[true, true, true, true, true, true, true, true, true, true, true, false] rfl rfl (by kernel_rfl) (by decide) (fun K hK => ?_)
      refine value_ (w1 := ?_) (v := ?_) (by rfl) rfl ?_ ?_
      rotate_left 2
      ·go_simp
       constructor
       ·rfl
       ·rfl
      refine hK.out _ _ ?_
      clear hK K
      refine norm_ (a' := ?_) ?_ ?_
      rotate_left
      ·show Act.put _ (some 44) _ = _
       simp only [Act.put, List.setIfInBounds_toArray, List.set_cons_zero, List.set_cons_succ, i64_w, i32_w]
       rfl
      refine pure_ (i := 11) (N := some 8) (v := ?_) (a' := ?_) #[true, true, true, true, true, true, true, true, true, true, true, true] rfl rfl (by kernel_rfl) (fun _ _ _ h => h) (Or.inl ⟨by rfl, ?_⟩) ?_ ?_
      rotate_left
      ·intro w'
       go_simp
       with_reducible rfl
      rotate_left
      ·simp only [Act.put, List.setIfInBounds_toArray, List.set_cons_zero, List.set_cons_succ, i64_w, i32_w]
       rfl
      refine done_ (by kernel_rfl) ?_
      have HOW := Aside0.mk (HO.out.below DW.out)
      obtain ⟨r, hrr⟩ : ∃ r, fr .sub 0 pr (W.drewN n3) = r := ⟨_, rfl⟩
      obtain ⟨ri, hri⟩ : ∃ r, fr .sub 0 pi (W.drewN (n3 + fn .sub 0 pr)) = r := ⟨_, rfl⟩
      rw [hrr, hri]
      have HST := Aside0.mk (RtIn.step HJ.out.1 (by have := HJ.out; have := HL2.out; omega) (HD.out.1 (by have := HJ.out; have := HL2.out; omega)) (r := r) (i := ri) (by rw [← hrr, can_fr, HPV.out, HCV.out, hr]) (by rw [← hri, can_fr, HPV.out, HCV.out, hi]))
      clear hrr hri hr hi hx hz q0 q1 q2 q3
      cases hg' : (isFin r && isFin ri)
      ·have HSN := Aside0.mk (show S = none by have h := HST.out; rw [hg'] at h; exact h)
       go_wp2_with fail
       refine (l01Finite_calls r ri _).mono ?_
       rintro e w4 ⟨rfl, n6, rfl⟩
       rw [hg']
       have HRN := Aside0.mk (show R = none by rw [← HRS.out, HSN.out]; rfl)
       go_wp2
       go_ret2
       rw [HRN.out]
       exact ⟨rfl, HLW.out.trans ((by repeat (first | exact HOW.out.low | refine pw_below_drewN ?_ _) : Below w9.heap.size w9 _).mono HLW.out.size)⟩
      ·have HST2 := Aside0.mk (show S = (stpR (z1, z2) (prv os (n + 1)) (os.drop (n + 1).toNat)).map ((ds ++ [(r, ri)]) ++ ·) by have h := HST.out; rw [hg', if_pos rfl] at h; exact h)
       go_wp2_with fail
       refine (l01Finite_calls r ri _).mono ?_
       rintro e w4 ⟨rfl, n6, rfl⟩
       rw [hg']
       go_wp2_with (first | ((with_reducible refine gate_builtin (b := .append) (xs := #[.tmp 48, .tmp 50]) rfl ?_); at_builtin; refine Kd.R_append cxk (w0 := w9) w9.heap.size rfl (.tmp 48) (.tmp 50) 24 34 (.complex .f64 0 0) 16 rfl Try.underlying24 info_cx rfl (by decide) (by omega) _ ds (r, ri) [.complex .f64 _ _] (fun _ => True) (fun _ => False) rfl rfl ?bP (fun _ hk => hk.elim) ?bF ?bO ?bB ?bS ?bL ?_; (case bP => exact rfl); (case bF => exact (fun _ _ => trivial)); (case bB => repeat (first | exact HOW.out.low | (with_reducible refine pw_below_drewN ?_ _))); (case bO => repeat (first | exact HOW.out.row | (with_reducible refine Kd.R_drewN ?_ _))); (case bS => exact HOW.out.low.size); (case bL => have h1 := HJ.out; have h2 := HL2.out; omega); intro v1 w4 ho hb hg hat))
       have EO := Aside0.mk (Own.mk ho hb)
       clear ho hb hg hat
       go_wp2_with fail
       go_roundg q
       case measure => omega
       case rel =>
        have e : wrap64 (n + 1) = n + 1 := by have := HJ.out; have := HL2.out; exact w64 (by omega) (by omega)
        exact ⟨n + 1, by first | rfl | rw [e], ⟨⟨_, EO.out, by have := HJ.out; simp; omega, by have := HJ.out; omega, fun _ => HST2.out, fun h => by have := HJ.out; omega⟩⟩⟩
    | zero =>
     have hl2 : decide (n ≤ L) = false := decide_eq_false (by have := HL2.out; omega)
     have hS := hd2 (by omega)
     have HRD := Aside0.mk (show ofR (xs.drop (k + 1).toNat) ds = R by rw [← HRS.out, hS]; rfl)
     have HFD := Aside0.mk (stpR_fin (z1, z2) (0, 0) os ds (by decide) HFS.out (HSS.out.trans hS))
     have HJ := Aside0.mk (show (ds.length : Int) = k + 2 by have := HKB.out; omega)
     clear ho hn hng hd1 hd2 hS
     go_wp2_with fail
     go_roundg m
     case measure => omega
     case rel =>
      have e : wrap64 (k + 1) = k + 1 := by have := HKB.out; have := HL.out; have := HN.out; exact w64 (by omega) (by omega)
      exact ⟨k + 1, by first | rfl | rw [e], ⟨⟨ds, HO.out.lower HLW.out, HRD.out, by have := HKB.out; omega, by have := HKB.out; have := HN.out; omega, by have := HJ.out; omega, HFD.out⟩⟩⟩
  | zero =>
   have hl' : decide (k < N) = false := decide_eq_false (by omega)
   rw [List.drop_eq_nil_of_le (show xs.length ≤ k.toNat by omega)] at hd
   have HRD := Aside0.mk (show R = some os from hd.symm)
   have HO := Aside0.mk ho
   clear ho hd hkg hos hk0
   go_wp2
   go_ret2
   rw [HRD.out]
   exact ⟨_, rfl, HO.out⟩
end Go.Proofs.Ytdjkcpmoigemdaa
namespace Go.Proofs.Ytdjkcpmoigemdaa
open Go Ieee Go.RowKit Go.Proofs.Ytdjkcpmoigemdaa.Fl Go.Proofs.Ytdjkcpmoigemdaa.Fx Go.Proofs.Ytdjkcpmoigemdaa.P Go.Proofs.YtdjkcpmoigemdaaW.PrintWords Go.Proofs.YtdjkcpmoigemdaaW.PrintLast Go.Proofs.YtdjkcpmoigemdaaW.PrintMore
set_option linter.unusedVariables false
set_option linter.unusedSimpArgs false
attribute [local go_sem] run_add run_sub run_mul run_quo run_cadd run_csub run_neg run_cneg run_store_cx
theorem fin_terms_sub {x y r : Nat} (h : fb .sub x y = some r) (hf : isFin r = true) : isFin x = true ∧ isFin y = true := by
 have hw : ∀ s, isFin (double.write (.infinity s)) = false := by intro s; cases s <;> decide
 have h' : ((double.read x).sum (double.read y).opposite).map double.write = some r := h
 cases hx : double.read x <;> cases hy : double.read y <;> rw [hx, hy] at h' <;> simp only [Datum.opposite, Datum.sum, Option.map_none, Option.map_some] at h' <;> first | (cases h'; done) | skip
 ·exact ⟨fin_of hx, fin_of hy⟩
 ·rw [← Option.some.inj h', hw] at hf; cases hf
 ·rw [← Option.some.inj h', hw] at hf; cases hf
 ·split at h'
  ·simp only [Option.map_some] at h'
   rw [← Option.some.inj h', hw] at hf; cases hf
  ·cases h'
theorem fop_fin_sub {x y r : Nat} (h : can r = fop .sub (can x) (can y)) (hf : isFin r = true) : isFin y = true := by
 have hr : can r = some r := can_fin hf
 rw [hr] at h
 cases hx : can x with
 | none => rw [hx] at h; cases can y <;> simp [fop] at h
 | some a =>
  cases hy : can y with
  | none => rw [hx, hy] at h; simp [fop] at h
  | some b =>
   rw [hx, hy] at h
   have h2 := (fin_terms_sub (show fb .sub a b = some r from h.symm) hf).2
   rwa [← can_some hy] at h2
theorem rootsP_big {xs : Cs} (h : decide (1 ≤ xs.length ∧ xs.length ≤ 12) = false) : rootsP xs = ([], 2) := by
 unfold rootsP; rw [h]; rfl
theorem rootsP_inf {xs : Cs} (h : decide (1 ≤ xs.length ∧ xs.length ≤ 12) = true) (h2 : finL xs = false) : rootsP xs = ([], 1) := by
 unfold rootsP; rw [h, h2]; rfl
theorem rootsP_of {xs : Cs} (h : decide (1 ≤ xs.length ∧ xs.length ≤ 12) = true) (h2 : finL xs = true) : rootsP xs = (match rootsT xs with | some zs => (zs, 0) | none => ([], 3)) := by
 unfold rootsP; rw [h, h2]; rfl
end Go.Proofs.Ytdjkcpmoigemdaa
namespace Go.Proofs.Ytdjkcpmoigemdaa
open Go Ieee Go.RowKit Go.Proofs.Ytdjkcpmoigemdaa.Fl Go.Proofs.Ytdjkcpmoigemdaa.Fx Go.Proofs.Ytdjkcpmoigemdaa.P Go.Proofs.YtdjkcpmoigemdaaW.PrintWords Go.Proofs.YtdjkcpmoigemdaaW.PrintLast Go.Proofs.YtdjkcpmoigemdaaW.PrintMore
set_option linter.unusedVariables false
set_option linter.unusedSimpArgs false
attribute [local go_sem] run_add run_sub run_mul run_quo run_cadd run_csub run_neg run_cneg run_store_cx
theorem size_calls (A : Option Addr) (n c : Nat) (w : World) (hn : n ≤ 1000000000) : Calls Try.prog 43 #[.slice A n c] w fun e w' => e = .returned (.int .i64 n) ∧ ∃ n, w' = w.drewN n := by
 have e1 : wrap64 (n : Int) = n := w64 (by omega) (by omega)
 go_enter Try.func43, Try.ntmps43
 go_wp2
 go_ret
 exact ⟨by first | rfl | rw [e1], 0, rfl⟩
theorem prv_drop (os : Cs) (n : Int) (h0 : 0 ≤ n) (h1 : n ≤ os.length) : ((0, 0) :: os : Cs).drop n.toNat = prv os n :: ((0, 0) :: os : Cs).drop (n + 1).toNat := drop_cons ((0, 0) :: os) n h0 (by rw [List.length_cons]; omega)
structure RtIm (os : Cs) (z : Nat × Nat) (S : Option Cs) (w w' : World) (v : Value) (g : Nat) (n : Int) : Prop where
 at_ : ∃ ds, Own w w' v (ds ++ ((0, 0) :: os : Cs).drop n.toNat) ∧ (ds.length : Int) = n ∧ n + g = os.length ∧ S = (stpR z (prv os n) (os.drop n.toNat)).map (ds ++ ·)
theorem RtIm.last {os ds : Cs} {z : Nat × Nat} {S : Option Cs} {n : Int} (h0 : 0 ≤ n) (h : n = os.length) (hs : S = (stpR z (prv os n) (os.drop n.toNat)).map (ds ++ ·)) : S = some (ds ++ ((0, 0) :: os : Cs).drop n.toNat) := by
 rw [hs, prv_drop os n h0 (by omega), List.drop_eq_nil_of_le (show os.length ≤ n.toNat by omega), List.drop_eq_nil_of_le (show ((0, 0) :: os : Cs).length ≤ (n + 1).toNat by rw [List.length_cons]; omega)]
 rfl
def outP (R : Option Cs) : Cs × Int := match R with
 | some zs => (zs, 0)
 | none => ([], 3)
set_option maxRecDepth 100000 in
set_option maxHeartbeats 8000000 in
theorem PolynomialOfRoots_calls (A : Option Addr) (c : Nat) (xs : Cs) (w : World) (hr : cxk.C w A xs.length xs) (hl : xs.length ≤ 1000000000) : Calls Try.prog 12 #[.slice A xs.length c] w fun e w' => Res w (rootsP xs) e w' := by
 have HR := Aside0.mk hr; have HL := Aside0.mk hl
 obtain ⟨N, hN⟩ : ∃ N : Int, (xs.length : Int) = N := ⟨_, rfl⟩
 have HN := Aside0.mk hN
 have hb : decide (1 ≤ N ∧ N ≤ 12) = decide (1 ≤ xs.length ∧ xs.length ≤ 12) := by
  rw [decide_eq_decide]; omega
 clear hr hl
 cases h0 : decide (1 ≤ xs.length ∧ xs.length ≤ 12)
 ·rw [rootsP_big h0]
  rw [h0] at hb
  clear h0
  go_enter Try.func12, Try.ntmps12
  go_wp2_with fail
  refine (size_calls A xs.length c _ HL.out).mono ?_
  rintro e w1 ⟨rfl, n0, rfl⟩
  rw [hN]
  go_wp2_with fail
  refine (between_calls N 1 12 _).mono ?_
  rintro e w1 ⟨rfl, n1, rfl⟩
  rw [hb]
  go_wp2
  go_ret2
  exact Res.none_ (by repeat (first | exact Below.refl _ _ | refine pw_below_drewN ?_ _))
 rw [h0] at hb
 have HB := Aside0.mk (of_decide_eq_true h0)
 cases h2 : finL xs
 ·rw [rootsP_inf h0 h2]
  clear h0
  go_enter Try.func12, Try.ntmps12
  go_wp2_with fail
  refine (size_calls A xs.length c _ HL.out).mono ?_
  rintro e w1 ⟨rfl, n0, rfl⟩
  rw [hN]
  go_wp2_with fail
  refine (between_calls N 1 12 _).mono ?_
  rintro e w1 ⟨rfl, n1, rfl⟩
  rw [hb]
  go_wp2_with fail
  refine (areFinite_calls A c xs _ (Kd.C_drewN HR.out _) HL.out).mono ?_
  rintro e w1 ⟨rfl, n2, rfl⟩
  rw [h2]
  go_wp2
  go_ret2
  exact Res.none_ (by repeat (first | exact Below.refl _ _ | refine pw_below_drewN ?_ _))
 rw [rootsP_of h0 h2]
 obtain ⟨R, hR⟩ : ∃ R, rootsT xs = R := ⟨_, rfl⟩
 rw [hR]
 obtain ⟨X, hX⟩ : ∃ X, outP R = X := ⟨_, rfl⟩
 refine Calls.mono (show Calls Try.prog 12 #[.slice A xs.length c] w fun e w' => Res w X e w' from ?_) (fun e w' h => by rw [← hX] at h; cases R <;> exact h)
 have HX := Aside0.mk hX
 have HRR := Aside0.mk hR
 clear h0 hR hX
 go_enter Try.func12, Try.ntmps12
 go_wp2_with fail
 refine (size_calls A xs.length c _ HL.out).mono ?_
 rintro e w1 ⟨rfl, n0, rfl⟩
 rw [hN]
 go_wp2_with fail
 refine (between_calls N 1 12 _).mono ?_
 rintro e w1 ⟨rfl, n1, rfl⟩
 rw [hb]
 go_wp2_with fail
 refine (areFinite_calls A c xs _ (Kd.C_drewN HR.out _) HL.out).mono ?_
 rintro e w1 ⟨rfl, n2, rfl⟩
 rw [h2]
 clear hb h2
 have HO := Aside0.mk (Own.one (w := w) (w' := w.drewN (n0 + n1 + n2)) (by repeat (first | exact Below.refl _ _ | refine pw_below_drewN ?_ _)) one_n)
 go_wp2_with fail
 go_loopg [4, 23] xs.length (fun g v u w' => ∃ (k : Int), u = .int .i64 k ∧ Aside0 (RtOut xs R w w' v g k))
 case atStart => exact ⟨0, rfl, ⟨⟨[one_n], HO.out, HRR.out, by omega, by omega, rfl, by decide⟩⟩⟩
 case round =>
  clear HO HRR
  obtain ⟨k, rfl, hj⟩ := hrel
  obtain ⟨os, ho, hd, hk0, hkg, hos, hfo⟩ := hj.out.at_
  clear hj
  cases gk with
  | succ m =>
   have HKB := Aside0.mk (show 0 ≤ k ∧ k < N ∧ k + m + 1 = N ∧ (os.length : Int) = k + 1 by omega)
   have hl' : decide (k < N) = true := decide_eq_true HKB.out.2.1
   obtain ⟨w9, hw9⟩ : ∃ w9, w9 = wr := ⟨_, rfl⟩
   subst hw9
   have HLW := Aside0.mk ho.low
   have HFS := Aside0.mk hfo
   clear hfo
   obtain ⟨G, cap, rfl, hcap, hC⟩ := ho.reads
   have HC := Aside0.mk hC
   obtain ⟨L, hL⟩ : ∃ L : Int, (os.length : Int) = L := ⟨_, rfl⟩
   have HL2 := Aside0.mk (show (os.length : Int) = L ∧ 1 ≤ L ∧ L ≤ 13 by have := HB.out; omega)
   rw [drop_cons xs k hk0 (by omega)] at hd
   obtain ⟨ad, rfl, hzc⟩ := cx_at (Kd.C_below HR.out ho.low) k hk0 (by omega)
   obtain ⟨⟨z1, z2⟩, hzz⟩ : ∃ z, rdOf (0, 0) xs k = z := ⟨_, rfl⟩
   rw [hzz] at hzc hd
   obtain ⟨S, hS⟩ : ∃ S, stpR (z1, z2) (0, 0) os = S := ⟨_, rfl⟩
   unfold ofR at hd
   rw [hS] at hd
   have HRS := Aside0.mk hd
   have HS := Aside0.mk hS
   have HO := Aside0.mk (Own.one (Below.refl w9.heap.size w9) (0, 0))
   have HA := Aside0.mk (Kd.C_alloc hC (.cells #[.complex .f64 0 0] 34))
   have q0 := eq_true HKB.out.1
   have q1 := eq_true HKB.out.2.1
   clear ho hd hkg hos hcap hC hzz hS hk0
   go_wp2_with (first | ((with_reducible refine gate_builtin (b := .append) (xs := #[.tmp 27, .tmp 28]) rfl ?_); at_builtin; refine Kd.R_append_row cxv (0, 0) (h1 := fun _ => rfl) (w0 := w9) w9.heap.size rfl (.tmp 27) (.tmp 28) 24 34 (.complex .f64 0 0) 16 rfl Try.underlying24 info_cx rfl (by omega) _ [(0, 0)] os G os.length cap (fun _ => True) rfl rfl (fun _ _ => trivial) HO.out.row HA.out HO.out.low HO.out.low.size (by have := HL2.out; simp; omega) ?_; intro v1 w4 ho hb hg hat))
   have EO := Aside0.mk (Own.mk ho hb)
   obtain ⟨gb, cap2, eo, -, -, -⟩ := Kd.R_form EO.out.row (by simp)
   subst eo
   clear ho hb hg hat HO HA hzc q0 q1
   obtain ⟨L1, hL1⟩ : ∃ L1 : Nat, ([(0, 0)] ++ os : Cs).length = L1 := ⟨_, rfl⟩
   rw [hL1] at EO ⊢
   have HL3 := Aside0.mk (show (L1 : Int) = L + 1 by rw [← hL1]; simp; have := HL2.out; omega)
   clear hL1
   go_wp2_with fail
   go_loopg [32] os.length (fun g u w' => ∃ (n : Int), u = .int .i64 n ∧ Aside0 (RtIm os (z1, z2) S w9 w' (.slice (some ⟨gb, 0, none⟩) L1 cap2) g n))
   case atStart => exact ⟨0, rfl, ⟨⟨[], EO.out, rfl, by omega, by rw [← HS.out]; show _ = (stpR (z1, z2) (0, 0) os).map _; cases stpR (z1, z2) (0, 0) os <;> rfl⟩⟩⟩
   case round =>
    clear EO
    obtain ⟨n, rfl, hj⟩ := hrel
    obtain ⟨ds, ho, hn, hng, hd1⟩ := hj.out.at_
    clear hj
    cases gk with
    | succ q =>
     have HJ := Aside0.mk (show 0 ≤ n ∧ n < L ∧ n + q + 1 = L ∧ (ds.length : Int) = n by have := HL2.out; omega)
     have hl2 : decide (n < L) = true := decide_eq_true HJ.out.2.1
     obtain ⟨ga, rfl, hx⟩ := cx_at (Kd.C_below HC.out ho.low) n HJ.out.1 (by have := HJ.out; have := HL2.out; omega)
     obtain ⟨⟨c1, c2⟩, hcc⟩ : ∃ c, rdOf (0, 0) os n = c := ⟨_, rfl⟩
     rw [prv_drop os n HJ.out.1 (by have := HJ.out; have := HL2.out; omega)] at ho
     obtain ⟨⟨p1, p2⟩, hpp⟩ : ∃ c, prv os n = c := ⟨_, rfl⟩
     obtain ⟨rs, hrs⟩ : ∃ rs, ((0, 0) :: os : Cs).drop (n + 1).toNat = rs := ⟨_, rfl⟩
     have HST := Aside0.mk (fun (r i : Nat) => RtIn.step (r := r) (i := i) HJ.out.1 (by have := HJ.out; have := HL2.out; omega) hd1)
     rw [hpp, hrs] at ho
     rw [hcc] at hx
     rw [hpp, hcc] at HST
     obtain ⟨hy, hfz⟩ := Kd.R_celln (enc := cxv) (h1 := fun _ => rfl) (0, 0) ho.row n HJ.out.1 (by have := HJ.out; have := HL3.out; omega)
     rw [show rdOf (0, 0) (ds ++ (p1, p2) :: rs) n = (p1, p2) by rw [← HJ.out.2.2.2]; exact rdOf_mid _ _ _ _] at hy
     have HO := Aside0.mk ho
     have HRS2 := Aside0.mk hrs
     have q0 := eq_true HJ.out.1
     have q1 := eq_true HJ.out.2.1
     have q2 := eq_true (show n < (L1 : Int) by have := HJ.out; have := HL3.out; omega)
     clear ho hn hng hd1 hcc hpp hrs
     simp only [cxv] at hy
     go_wp2_with fail
     refine (multiply_calls c1 c2 z1 z2 _).mono ?_
     rintro e w2 ⟨⟨v2, rfl, pr, pi, rfl, hr, hi⟩, n3, rfl⟩
     go_wp2_with fail
     refine (subtract_calls p1 p2 pr pi _).mono ?_
     rintro e w2 ⟨⟨v2, rfl, r, ri, rfl, kr, ki⟩, n4, rfl⟩
     have HF := Aside0.mk (show (isFin r && isFin ri) = true → (isFin pr && isFin pi) = true from fun h => by
      rw [Bool.and_eq_true] at h ⊢
      exact ⟨fop_fin_sub kr h.1, fop_fin_sub ki h.2⟩)
     replace HST := Aside0.mk (HST.out r ri (by rw [kr]; show fop .sub (can p1) (can pr) = _; rw [hr]) (by rw [ki]; show fop .sub (can p2) (can pi) = _; rw [hi]))
     clear hr hi kr ki hfz
     obtain ⟨hy2, hfz⟩ := Kd.R_celln (enc := cxv) (h1 := fun _ => rfl) (0, 0) (HO.out.drewN (n3 + n4)).row n HJ.out.1 (by have := HJ.out; have := HL3.out; omega)
     have hs : (ds ++ (p1, p2) :: rs).set n.toNat (r, ri) = (ds ++ [(r, ri)]) ++ rs := by rw [show n.toNat = ds.length by have := HJ.out; omega]; exact set_mid _ _ _ _
     have ho := (HO.out.drewN (n3 + n4)).put n (r, ri)
     rw [hs] at ho
     have EO := Aside0.mk ho
     have LB := Aside0.mk (HLW.out.trans (ho.low.mono HLW.out.size))
     clear ho hs
     go_wp2_with fail
     refine (isFinite_calls pr pi _).mono ?_
     rintro e w4 ⟨rfl, n6, rfl⟩
     obtain ⟨hx3, -⟩ := Kd.R_celln (enc := cxv) (h1 := fun _ => rfl) (0, 0) (EO.out.drewN n6).row n HJ.out.1 (by have := HJ.out; have := HL3.out; omega)
     rw [show rdOf (0, 0) ((ds ++ [(r, ri)]) ++ rs) n = (r, ri) by rw [List.append_assoc, ← HJ.out.2.2.2]; exact rdOf_mid _ _ _ _] at hx3
     simp only [cxv] at hx3
     clear hx hy hy2 hfz
     cases hg' : (isFin r && isFin ri)
     ·have HSN := Aside0.mk (show S = none by have h := HST.out; rw [hg'] at h; exact h)
      have HRN := Aside0.mk (show R = none by rw [← HRS.out, HSN.out]; rfl)
      cases hgp : (isFin pr && isFin pi)
      ·go_wp2
       go_ret2
       rw [← HX.out, HRN.out]
       exact Res.none_ (by repeat (first | exact LB.out | refine pw_below_drewN ?_ _))
      ·go_wp2_with fail
       refine (isFinite_calls r ri _).mono ?_
       rintro e w5 ⟨rfl, n7, rfl⟩
       rw [hg']
       go_wp2
       go_ret2
       rw [← HX.out, HRN.out]
       exact Res.none_ (by repeat (first | exact LB.out | refine pw_below_drewN ?_ _))
     ·have HST2 := Aside0.mk (show S = (stpR (z1, z2) (prv os (n + 1)) (os.drop (n + 1).toNat)).map ((ds ++ [(r, ri)]) ++ ·) by have h := HST.out; rw [hg', if_pos rfl] at h; exact h)
      rw [HF.out hg']
      go_wp2_with fail
      refine (isFinite_calls r ri _).mono ?_
      rintro e w5 ⟨rfl, n7, rfl⟩
      rw [hg']
      go_wp2_with fail
      go_roundg q
      case measure => omega
      case rel =>
       have e : wrap64 (n + 1) = n + 1 := by have := HJ.out; have := HL2.out; exact w64 (by omega) (by omega)
       exact ⟨n + 1, by first | rfl | rw [e], ⟨⟨ds ++ [(r, ri)], by rw [HRS2.out]; repeat (first | exact EO.out | refine Own.drewN ?_ _), by have := HJ.out; simp; omega, by have := HJ.out; have := HL2.out; omega, HST2.out⟩⟩⟩
    | zero =>
     have hl2 : decide (n < L) = false := decide_eq_false (by have := HL2.out; omega)
     have hz := RtIm.last (by omega) (by omega) hd1
     obtain ⟨zs, hzs⟩ : ∃ zs, ds ++ ((0, 0) :: os : Cs).drop n.toNat = zs := ⟨_, rfl⟩
     rw [hzs] at ho hz
     have HRD := Aside0.mk (show ofR (xs.drop (k + 1).toNat) zs = R by rw [← HRS.out, hz]; rfl)
     have HFD := Aside0.mk (stpR_fin (z1, z2) (0, 0) os zs (by decide) HFS.out (HS.out.trans hz))
     have HJ := Aside0.mk (show (zs.length : Int) = k + 2 by have := HKB.out; have := (stpR_len _ _ _ _ (HS.out.trans hz)).1; omega)
     have HO := Aside0.mk ho
     clear ho hn hng hd1 hz hzs
     go_wp2_with fail
     go_roundg m
     case measure => omega
     case rel =>
      have e : wrap64 (k + 1) = k + 1 := by have := HKB.out; have := HB.out; have := HN.out; exact w64 (by omega) (by omega)
      exact ⟨k + 1, by first | rfl | rw [e], ⟨⟨zs, HO.out.lower HLW.out, HRD.out, by have := HKB.out; omega, by have := HKB.out; have := HN.out; omega, by have := HJ.out; omega, HFD.out⟩⟩⟩
  | zero =>
   have hl' : decide (k < N) = false := decide_eq_false (by omega)
   rw [List.drop_eq_nil_of_le (show xs.length ≤ k.toNat by omega)] at hd
   have HRD := Aside0.mk (show some os = R from hd)
   have HO := Aside0.mk ho
   obtain ⟨G, cap, rfl, k1, k2⟩ := ho.reads
   have HK := Aside0.mk (And.intro k1 k2)
   clear ho hd hkg hos hk0 k1 k2
   go_wp2
   go_ret2
   rw [← HX.out, ← HRD.out]
   exact ⟨G, cap, rfl, HK.out.2, HK.out.1, HO.out.low⟩
end Go.Proofs.Ytdjkcpmoigemdaa
namespace Go.Proofs.Ytdjkcpmoigemdaa
open Go Ieee Go.RowKit Go.Proofs.Ytdjkcpmoigemdaa.Fl Go.Proofs.Ytdjkcpmoigemdaa.Fx Go.Proofs.Ytdjkcpmoigemdaa.P Go.Proofs.YtdjkcpmoigemdaaW.PrintWords Go.Proofs.YtdjkcpmoigemdaaW.PrintLast Go.Proofs.YtdjkcpmoigemdaaW.PrintMore
set_option linter.unusedVariables false
set_option linter.unusedSimpArgs false
attribute [local go_sem] run_add run_sub run_mul run_quo run_cadd run_csub run_neg run_cneg conv_f
def Wo (xs : Cs) : Prop := ∀ p ∈ xs, p.1 < 2 ^ 64 ∧ p.2 < 2 ^ 64
theorem Src.under {W w0 w w1 : World} {g base : Nat} (h : Src W w0 w g) (hb : Below base w w1) (h1 : g < base) (h2 : W.heap.size ≤ base) : Src W w0 w1 g := by
 obtain ⟨l, a, k, hi, p2, p3, p4, p5, p6⟩ := h
 have hge := hi.ge
 obtain ⟨A0, c0, q1, q2, q3⟩ := hi
 refine ⟨l, a, k, ⟨A0, c0, by rw [hb.block g h1]; exact q1, q2, q3⟩, p2, p3, p4, p5.trans (hb.mono (by omega)), Nat.le_trans p6.1 hb.size, fun i hi hg hr => ?_⟩
 rw [hb.block i (by omega)]
 exact p6.2 i hi hg hr
theorem Src.trans {W w0 w w1 : World} {g : Nat} (h : Src W w0 w g) (k : Src w w0 w1 g) : Src W w0 w1 g := by
 obtain ⟨l, a, d, hi, p2, p3, p4, p5, p6⟩ := k
 exact ⟨l, a, d, hi, p2, p3, p4, p5, KeepBut.trans h.keep p6 (.inl rfl)⟩
structure Rw (g : Nat) (w w1 : World) (v : Value) (xs : Cs) : Prop where
 row : cxk.R 34 w1 w.heap.size (fun b => b ≠ g) v xs
 words : Wo xs
theorem Rw.keep {g : Nat} {w w1 w2 : World} {v : Value} {xs : Cs} (h : Rw g w w1 v xs) (hk : KeepBut w1 w2 g none) : Rw g w w2 v xs := ⟨Kd.R_keep h.row hk (fun _ h => h), h.words⟩
theorem Rw.drewN {g : Nat} {w w1 : World} {v : Value} {xs : Cs} (h : Rw g w w1 v xs) (m : Nat) : Rw g w (w1.drewN m) v xs := ⟨Kd.R_drewN h.row m, h.words⟩
theorem Wo.snoc {xs : Cs} {a b : Nat} (h : Wo xs) (ha : a < 2 ^ 64) (hb : b < 2 ^ 64) : Wo (xs ++ [(a, b)]) := fun p hp => by
 rcases List.mem_append.1 hp with hp | hp
 ·exact h p hp
 ·rw [List.mem_singleton.1 hp]; exact ⟨ha, hb⟩
theorem rdOf_mem (xs : Cs) (i : Int) (h0 : 0 ≤ i) (h1 : i < xs.length) : rdOf (0, 0) xs i ∈ xs := by
 have h := drop_cons xs i h0 h1
 exact List.mem_of_mem_drop (i := i.toNat) (by rw [h]; exact List.mem_cons_self)
theorem Rw.empty {g : Nat} {w w1 : World} (h : w.heap.size ≤ w1.heap.size) (hg : g < w.heap.size) : Rw g w (w1.alloc (.cells #[] 34)) (.slice (some ⟨w1.heap.size, 0, none⟩) 0 0) [] := ⟨cx_empty w1 _ _ h (by show w1.heap.size ≠ g; omega), fun p hp => by cases hp⟩
set_option maxRecDepth 100000 in
set_option maxHeartbeats 1000000 in
theorem number_calls {W : World} (w0 w : World) (g : Nat) (h : Src W w0 w g) : Calls Try.prog 63 #[.pointer (some ⟨g, 0, none⟩)] w fun e w' => (∃ v, e = .returned v ∧ Cv v) ∧ Src W w0 w' g := by
 have HS := Aside0.mk h; clear h
 go_enter Try.func63, Try.ntmps63
 go_wp2_with fail
 refine (next_calls w0 _ g _ (HS.out)).mono ?_
 rintro e w_r ⟨r, rfl, hs, hr⟩
 replace HS := Aside0.mk hs; clear hs hr
 by_cases cr0 : r = 0
 ·have dr0 : (r == 0) = true := by simpa using cr0
  clear cr0
  go_wp2_with fail
  refine (next_calls w0 _ g _ (HS.out)).mono ?_
  rintro e w_q ⟨q, rfl, hs, hr⟩
  replace HS := Aside0.mk hs; clear hs hr
  go_wp2_with fail
  refine (next_calls w0 _ g _ (HS.out)).mono ?_
  rintro e w_u ⟨u, rfl, hs, hr⟩
  replace HS := Aside0.mk hs; clear hs hr
  go_wp2
  go_ret
  exact ⟨⟨_, rfl, _, _, rfl, foi_lt _, foi_lt _⟩, HS.out⟩
 ·have dr0 : (r == 0) = false := by simpa using cr0
  clear cr0
  by_cases cr1 : r = 1
  ·have dr1 : (r == 1) = true := by simpa using cr1
   clear cr1
   go_wp2_with fail
   refine (next_calls w0 _ g _ (HS.out)).mono ?_
   rintro e w_q ⟨q, rfl, hs, hr⟩
   replace HS := Aside0.mk hs; clear hs hr
   go_wp2
   go_ret
   exact ⟨⟨_, rfl, _, _, rfl, foi_lt _, by decide⟩, HS.out⟩
  ·have dr1 : (r == 1) = false := by simpa using cr1
   clear cr1
   by_cases cr2 : r = 2
   ·have dr2 : (r == 2) = true := by simpa using cr2
    clear cr2
    go_wp2_with fail
    refine (next_calls w0 _ g _ (HS.out)).mono ?_
    rintro e w_q ⟨q, rfl, hs, hr⟩
    replace HS := Aside0.mk hs; clear hs hr
    go_wp2_with fail
    refine (next_calls w0 _ g _ (HS.out.drewN _)).mono ?_
    rintro e w_u ⟨u, rfl, hs, hr⟩
    replace HS := Aside0.mk hs; clear hs hr
    go_wp2
    go_ret
    exact ⟨⟨_, rfl, _, _, rfl, fr_lt _ _ _ _, fr_lt _ _ _ _⟩, HS.out.drewN _⟩
   ·have dr2 : (r == 2) = false := by simpa using cr2
    clear cr2
    go_wp2_with fail
    refine (next_calls w0 _ g _ (HS.out)).mono ?_
    rintro e w_q ⟨q, rfl, hs, hr⟩
    replace HS := Aside0.mk hs; clear hs hr
    go_wp2_with fail
    refine (pick_calls w0 _ g [7, 100, 1000] _ HS.out (by simp) (by simp)).mono ?_
    rintro e w_u ⟨u, rfl, hs, hr⟩
    replace HS := Aside0.mk hs; clear hs hr
    go_wp2_with fail
    refine (next_calls w0 _ g _ (HS.out.drewN _)).mono ?_
    rintro e w_q2 ⟨q2, rfl, hs, hr⟩
    replace HS := Aside0.mk hs; clear hs hr
    go_wp2_with fail
    refine (pick_calls w0 _ g [7, 100, 1000] _ HS.out (by simp) (by simp)).mono ?_
    rintro e w_u2 ⟨u2, rfl, hs, hr⟩
    replace HS := Aside0.mk hs; clear hs hr
    go_wp2
    go_ret
    exact ⟨⟨_, rfl, _, _, rfl, fr_lt _ _ _ _, fr_lt _ _ _ _⟩, HS.out.drewN _⟩
set_option maxRecDepth 100000 in
set_option maxHeartbeats 4000000 in
theorem roots_calls {W : World} (w0 w : World) (g : Nat) (n : Int) (h : Src W w0 w g) (hn0 : 0 ≤ n) (hn1 : n ≤ 1000) : Calls Try.prog 27 #[.pointer (some ⟨g, 0, none⟩), .int .i64 n] w fun e w' => ∃ v xs, e = .returned v ∧ Rw g w w' v xs ∧ (xs.length : Int) = n ∧ Src W w0 w' g := by
 have HS0 := Aside0.mk h
 have HG := Aside0.mk h.lt
 have HN := Aside0.mk (And.intro hn0 hn1)
 clear h hn0 hn1
 have HS := Aside0.mk (HS0.out.from_.under (below_alloc (Below.refl w.heap.size w) (.cells #[] 34)) HG.out (Nat.le_refl _))
 have HM := Aside0.mk (Rw.empty (g := g) (Nat.le_refl w.heap.size) HG.out)
 go_enter Try.func27, Try.ntmps27
 go_wp2_with fail
 go_loopg [1, 5] n.toNat (fun q u v w' => ∃ (xs : Cs) (j : Int), u = .int .i64 j ∧ Aside0 (Rw g w w' v xs ∧ Src w w0 w' g ∧ (q : Int) = j ∧ (xs.length : Int) + j = n))
 case atStart => exact ⟨[], n, rfl, ⟨HM.out, HS.out, by have := HN.out; omega, by simp⟩⟩
 case round =>
  clear HM HS
  obtain ⟨xs, j, rfl, hj⟩ := hrel
  have HM := Aside0.mk hj.out.1; have HS := Aside0.mk hj.out.2.1; have HJ := Aside0.mk hj.out.2.2; clear hj
  cases gk with
  | succ d =>
   have hl' : decide (j > 0) = true := decide_eq_true (by have := HJ.out; omega)
   obtain ⟨A, c, rfl⟩ := Kd.R_slice HM.out.row
   obtain ⟨M, hM⟩ : ∃ M : Int, (xs.length : Int) = M := ⟨_, rfl⟩
   have HM2 := Aside0.mk hM
   by_cases hp : M > 0
   ·have d1 : decide (M > 0) = true := decide_eq_true hp
    have HP := Aside0.mk hp
    clear hp
    go_wp2_with fail
    refine (next_calls w0 _ g _ (HS.out).from_).mono ?_
    rintro e w_ ⟨r, rfl, hs, hr⟩
    replace HM := Aside0.mk (HM.out.keep hs.keep)
    replace HS := Aside0.mk ((HS.out).trans hs); clear hs
    clear hr
    by_cases c1 : r = 0
    ·have e1 : (r == 0) = true := by simpa using c1
     clear c1
     go_wp2_with fail
     refine (next_calls w0 _ g _ (HS.out).from_).mono ?_
     rintro e w_ ⟨q, rfl, hs, hr⟩
     replace HM := Aside0.mk (HM.out.keep hs.keep)
     replace HS := Aside0.mk ((HS.out).trans hs); clear hs
     have HQ := Aside0.mk (hr (by have := HP.out; omega))
     have HZ := Aside0.mk HS.out.keep.1
     clear hr
     obtain ⟨ad, rfl, hx⟩ := cx_at (Kd.R_reads' HM.out.row).2.2 q HQ.out.1 (by have := HQ.out; have := HM2.out; omega)
     have HW := Aside0.mk (HM.out.words _ (rdOf_mem xs q HQ.out.1 (by have := HQ.out; have := HM2.out; omega)))
     obtain ⟨⟨a, b⟩, hab⟩ : ∃ z, rdOf (0, 0) xs q = z := ⟨_, rfl⟩
     rw [hab] at hx HW
     have q0 := eq_true HQ.out.1
     have q1 := eq_true HQ.out.2
     clear hab
     go_wp2_with (first | ((with_reducible refine gate_builtin (b := .append) (xs := #[.tmp 19, .tmp 27]) rfl ?_); at_builtin; refine Kd.R_append cxk (w0 := w_) w.heap.size rfl (.tmp 19) (.tmp 27) 24 34 (.complex .f64 0 0) 16 rfl Try.underlying24 info_cx rfl (by decide) (by omega) _ xs (a, b) [.complex .f64 _ _] (fun b => b ≠ g) (fun _ => False) rfl rfl ?aP (fun _ hk => hk.elim) ?aF ?aO ?aB ?aS ?aL ?_; (case aP => exact rfl); (case aF => exact (fun k hk => by have := HG.out; have := HZ.out; show k ≠ g; omega)); (case aB => repeat (first | exact Below.refl _ _ | (with_reducible refine pw_below_drewN ?_ _))); (case aO => repeat (first | exact HM.out.row | (with_reducible refine Kd.R_drewN ?_ _))); (case aS => exact HZ.out); (case aL => have h1 := HJ.out; have h2 := HN.out; omega); intro v1 w4 ho hb hg hat))
     have EM := Aside0.mk (Rw.mk ho (HM.out.words.snoc HW.out.1 HW.out.2))
     have ES := Aside0.mk (HS.out.under hb HG.out (Nat.le_refl _))
     clear ho hb hg hat
     go_wp2_with fail
     go_roundg d
     case measure => omega
     case rel =>
      have e : wrap64 (j - 1) = j - 1 := by have := HJ.out; have := HN.out; exact w64 (by omega) (by omega)
      exact ⟨_, j - 1, by first | rfl | rw [e], ⟨EM.out, ES.out, by have := HJ.out; omega, by have := HJ.out; simp; omega⟩⟩
    ·have e1 : (r == 0) = false := by simpa using c1
     clear c1
     go_wp2_with fail
     refine (number_calls w0 _ g (HS.out).from_).mono ?_
     rintro e w_ ⟨⟨v, rfl, a, b, rfl, ha, hb'⟩, hs⟩
     replace HM := Aside0.mk (HM.out.keep hs.keep)
     replace HS := Aside0.mk ((HS.out).trans hs); clear hs
     have HZ := Aside0.mk HS.out.keep.1
     go_wp2_with (first | ((with_reducible refine gate_builtin (b := .append) (xs := #[.tmp 29, .tmp 32]) rfl ?_); at_builtin; refine Kd.R_append cxk (w0 := w_) w.heap.size rfl (.tmp 29) (.tmp 32) 24 34 (.complex .f64 0 0) 16 rfl Try.underlying24 info_cx rfl (by decide) (by omega) _ xs (a, b) [.complex .f64 _ _] (fun b => b ≠ g) (fun _ => False) rfl rfl ?bP (fun _ hk => hk.elim) ?bF ?bO ?bB ?bS ?bL ?_; (case bP => exact rfl); (case bF => exact (fun k hk => by have := HG.out; have := HZ.out; show k ≠ g; omega)); (case bB => repeat (first | exact Below.refl _ _ | (with_reducible refine pw_below_drewN ?_ _))); (case bO => repeat (first | exact HM.out.row | (with_reducible refine Kd.R_drewN ?_ _))); (case bS => exact HZ.out); (case bL => have h1 := HJ.out; have h2 := HN.out; omega); intro v1 w4 ho hb hg hat))
     have EM := Aside0.mk (Rw.mk ho (HM.out.words.snoc ha hb'))
     have ES := Aside0.mk (HS.out.under hb HG.out (Nat.le_refl _))
     clear ho hb hg hat
     go_wp2_with fail
     go_roundg d
     case measure => omega
     case rel =>
      have e : wrap64 (j - 1) = j - 1 := by have := HJ.out; have := HN.out; exact w64 (by omega) (by omega)
      exact ⟨_, j - 1, by first | rfl | rw [e], ⟨EM.out, ES.out, by have := HJ.out; omega, by have := HJ.out; simp; omega⟩⟩
   ·have d1 : decide (M > 0) = false := decide_eq_false hp
    clear hp
    go_wp2_with fail
    refine (number_calls w0 _ g (HS.out).from_).mono ?_
    rintro e w_ ⟨⟨v, rfl, a, b, rfl, ha, hb'⟩, hs⟩
    replace HM := Aside0.mk (HM.out.keep hs.keep)
    replace HS := Aside0.mk ((HS.out).trans hs); clear hs
    have HZ := Aside0.mk HS.out.keep.1
    go_wp2_with (first | ((with_reducible refine gate_builtin (b := .append) (xs := #[.tmp 29, .tmp 32]) rfl ?_); at_builtin; refine Kd.R_append cxk (w0 := w_) w.heap.size rfl (.tmp 29) (.tmp 32) 24 34 (.complex .f64 0 0) 16 rfl Try.underlying24 info_cx rfl (by decide) (by omega) _ xs (a, b) [.complex .f64 _ _] (fun b => b ≠ g) (fun _ => False) rfl rfl ?cP (fun _ hk => hk.elim) ?cF ?cO ?cB ?cS ?cL ?_; (case cP => exact rfl); (case cF => exact (fun k hk => by have := HG.out; have := HZ.out; show k ≠ g; omega)); (case cB => repeat (first | exact Below.refl _ _ | (with_reducible refine pw_below_drewN ?_ _))); (case cO => repeat (first | exact HM.out.row | (with_reducible refine Kd.R_drewN ?_ _))); (case cS => exact HZ.out); (case cL => have h1 := HJ.out; have h2 := HN.out; omega); intro v1 w4 ho hb hg hat))
    have EM := Aside0.mk (Rw.mk ho (HM.out.words.snoc ha hb'))
    have ES := Aside0.mk (HS.out.under hb HG.out (Nat.le_refl _))
    clear ho hb hg hat
    go_wp2_with fail
    go_roundg d
    case measure => omega
    case rel =>
     have e : wrap64 (j - 1) = j - 1 := by have := HJ.out; have := HN.out; exact w64 (by omega) (by omega)
     exact ⟨_, j - 1, by first | rfl | rw [e], ⟨EM.out, ES.out, by have := HJ.out; omega, by have := HJ.out; simp; omega⟩⟩
  | zero =>
   have hl' : decide (j > 0) = false := decide_eq_false (by have := HJ.out; omega)
   go_wp2
   go_ret
   exact ⟨_, xs, rfl, HM.out, by have := HJ.out; omega, HS0.out.trans HS.out⟩
end Go.Proofs.Ytdjkcpmoigemdaa
namespace Go.Proofs.Ytdjkcpmoigemdaa
open Go Ieee Go.RowKit Go.Proofs.Ytdjkcpmoigemdaa.Fl Go.Proofs.Ytdjkcpmoigemdaa.Fx Go.Proofs.Ytdjkcpmoigemdaa.P Go.Proofs.YtdjkcpmoigemdaaW.PrintWords Go.Proofs.YtdjkcpmoigemdaaW.PrintLast Go.Proofs.YtdjkcpmoigemdaaW.PrintMore
set_option linter.unusedVariables false
set_option linter.unusedSimpArgs false
attribute [local go_sem] run_add run_sub run_mul run_quo run_cadd run_csub run_neg run_cneg conv_f run_store_cx
theorem fop_lt {op : BinOp} {a b : Option Nat} {r : Nat} (h : fop op a b = some r) : r < 2 ^ 64 := by
 unfold fop at h
 obtain ⟨x, _, h2⟩ := Option.bind_eq_some_iff.1 h
 obtain ⟨y, _, h3⟩ := Option.bind_eq_some_iff.1 h2
 exact fb_lt h3
theorem subE_wo {p c z r : Nat × Nat} (h : subE p c z = some r) : r.1 < 2 ^ 64 ∧ r.2 < 2 ^ 64 := by
 unfold subE stp at h
 split at h
 ·rename_i a b h1 h2
  split at h
  ·cases h
   exact ⟨fop_lt h1, fop_lt h2⟩
  ·cases h
 ·cases h
theorem stpR_wo (z : Nat × Nat) : ∀ (p : Nat × Nat) (cs zs : Cs), (p.1 < 2 ^ 64 ∧ p.2 < 2 ^ 64) → Wo cs → stpR z p cs = some zs → Wo zs
 | p, [], zs, hp, _, h => by cases h; intro q hq; rw [List.mem_singleton.1 hq]; exact hp
 | p, c :: cs, zs, hp, hc, h => by
  unfold stpR at h
  obtain ⟨r, h1, h2⟩ := Option.bind_eq_some_iff.1 h
  obtain ⟨l, h3, rfl⟩ := Option.map_eq_some_iff.1 h2
  intro q hq
  rcases List.mem_cons.1 hq with rfl | hq
  ·exact subE_wo h1
  ·exact stpR_wo z c cs l (hc c List.mem_cons_self) (fun x hx => hc x (List.mem_cons_of_mem _ hx)) h3 q hq
theorem ofR_wo : ∀ (xs os zs : Cs), Wo os → ofR xs os = some zs → Wo zs
 | [], os, zs, ho, h => by cases h; exact ho
 | z :: xs, os, zs, ho, h => by
  unfold ofR at h
  obtain ⟨os', h3, h4⟩ := Option.bind_eq_some_iff.1 h
  exact ofR_wo xs os' zs (stpR_wo z (0, 0) os os' ⟨by decide, by decide⟩ ho h3) h4
theorem rootsT_wo {xs zs : Cs} (h : rootsT xs = some zs) : Wo zs := ofR_wo xs [one_n] zs (fun p hp => by rw [List.mem_singleton.1 hp]; decide) h
theorem rootsT_len {xs zs : Cs} (h : rootsT xs = some zs) : zs.length = xs.length + 1 := (ofR_len xs [one_n] zs 0 rfl rfl h).1
theorem Own.rw_ {g : Nat} {w w1 w2 : World} {v : Value} {xs : Cs} (h : Own w1 w2 v xs) (h0 : w.heap.size ≤ w1.heap.size) (hg : g < w1.heap.size) (hw : Wo xs) : Rw g w w2 v xs :=
 ⟨Kd.R_lower (Kd.R_mono (Kd.R_bound h.row) (fun k hk => by have := hk.2.1; show k ≠ g; omega)) h0, hw⟩
theorem Rw.put {g : Nat} {w w1 : World} {gb n cap : Nat} {xs : Cs} (h : Rw g w w1 (.slice (some ⟨gb, 0, none⟩) n cap) xs) (hs : w.heap.size ≤ w1.heap.size) (i : Int) (z : Nat × Nat) (hz : z.1 < 2 ^ 64 ∧ z.2 < 2 ^ 64) : Rw g w (w1.setCell ⟨gb, i.toNat, none⟩ (.complex .f64 z.1 z.2)) (.slice (some ⟨gb, 0, none⟩) n cap) (xs.set i.toNat z) ∧ Below w.heap.size w1 (w1.setCell ⟨gb, i.toNat, none⟩ (.complex .f64 z.1 z.2)) := by
 obtain ⟨h1, h2⟩ := Kd.R_putg (enc := cxv) (h1 := fun _ => rfl) h.row i z
 refine ⟨⟨h1, fun p hp => ?_⟩, pw_below_grown (Below.refl _ _) (some gb) hs h2 (fun k hk => by cases hk; exact Kd.R_base h.row gb rfl)⟩
 rcases List.mem_or_eq_of_mem_set hp with hp | rfl
 ·exact h.words p hp
 ·exact hz
set_option maxRecDepth 100000 in
set_option maxHeartbeats 8000000 in
theorem draw4_calls {W : World} (w0 w : World) (g : Nat) (h : Src W w0 w g) : Calls Try.prog 65 #[.pointer (some ⟨g, 0, none⟩)] w fun e w' => ∃ v xs, e = .returned v ∧ Rw g w w' v xs ∧ 1 ≤ xs.length ∧ xs.length ≤ 13 ∧ Src W w0 w' g := by
 have HS0 := Aside0.mk h
 have HG := Aside0.mk h.lt
 have HS := Aside0.mk h.from_
 clear h
 go_enter Try.func65, Try.ntmps65
 go_wp2_with fail
 refine (next_calls w0 _ g _ (HS.out).from_).mono ?_
 rintro e w_ ⟨r1, rfl, hs, hr1⟩
 replace HS := Aside0.mk ((HS.out).trans hs); clear hs
 go_wp2_with fail
 refine (next_calls w0 _ g _ (HS.out).from_).mono ?_
 rintro e w_ ⟨r2, rfl, hs, hr2⟩
 replace HS := Aside0.mk ((HS.out).trans hs); clear hs
 go_wp2_with fail
 refine (next_calls w0 _ g _ (HS.out).from_).mono ?_
 rintro e w_ ⟨r3, rfl, hs, hr3⟩
 replace HS := Aside0.mk ((HS.out).trans hs); clear hs
 have HB := Aside0.mk (And.intro (hr1 (by omega)) (And.intro (hr2 (by omega)) (hr3 (by omega))))
 clear hr1 hr2 hr3
 go_wp2_with fail
 refine (pick_calls w0 _ g [r1, r2, r3] _ (HS.out).from_ (by simp) (by simp)).mono ?_
 rintro e w_ ⟨K, rfl, hs, hr⟩
 replace HS := Aside0.mk ((HS.out).trans hs); clear hs
 obtain ⟨N, hN⟩ : ∃ N, 1 + K = N := ⟨_, rfl⟩
 have HN := Aside0.mk (show 1 ≤ N ∧ N ≤ 12 by have := HB.out; simp only [List.mem_cons, List.not_mem_nil, or_false] at hr; omega)
 have w1 : wrap64 (1 + K) = N := by have := HN.out; rw [hN]; exact w64 (by omega) (by omega)
 clear hr HB hN
 go_wp2_with fail
 simp only [w1]
 refine (next_calls w0 _ g _ (HS.out).from_).mono ?_
 rintro e w_ ⟨r, rfl, hs, hr⟩
 replace HS := Aside0.mk ((HS.out).trans hs); clear hs
 clear hr w1
 go_upto_if 20 with (fail)
 go_cut [] (fun wc => Aside0 (Src w w0 wc g))
 case first =>
  by_cases c1 : r = 0
  ·have d1 : (r == 0) = true := by simpa using c1
   rw [d1]
   clear c1
   go_wp2_with fail
   refine (roots_calls w0 _ g N HS.out.from_ (by have := HN.out; omega) (by have := HN.out; omega)).mono ?_
   rintro e w3 ⟨v, xs, rfl, hm, hl, hs⟩
   have HZ := Aside0.mk HS.out.keep.1
   replace HS := Aside0.mk (HS.out.trans hs)
   have HL := Aside0.mk hl
   obtain ⟨A, c, rfl, hc, hC⟩ := Kd.R_reads hm.row
   have HC := Aside0.mk hC
   clear hm hl hs hc hC
   go_wp2_with fail
   refine (l04OfRoots_calls A c xs _ HC.out (by have := HL.out; have := HN.out; omega)).mono ?_
   cases hm : rootsT xs with
   | none =>
    rintro e w4 ⟨rfl, hb⟩
    replace HS := Aside0.mk (HS.out.under hb HS.out.lt HS.out.keep.1)
    clear hb hm
    go_wp2_with fail
    go_meet
    case rel => exact ⟨HS.out⟩
   | some zs =>
    rintro e w4 ⟨v, rfl, ho⟩
    have HW := Aside0.mk (And.intro (rootsT_wo hm) (rootsT_len hm))
    have EM := Aside0.mk (ho.rw_ (g := g) (w := w) HS.out.keep.1 HS.out.lt HW.out.1)
    replace HS := Aside0.mk (HS.out.under ho.low HS.out.lt HS.out.keep.1)
    clear ho hm
    go_wp2
    go_ret
    exact ⟨_, zs, rfl, EM.out, by have := HW.out; omega, by have := HW.out; have := HL.out; have := HN.out; omega, HS0.out.trans HS.out⟩
  ·have d1 : (r == 0) = false := by simpa using c1
   rw [d1]
   clear c1
   go_wp2_with fail
   go_meet
   case rel => exact ⟨HS.out⟩
 case rest => as_aux_lemma =>
  clear HS
  have HS := Aside0.mk hcut.out
  clear hcut
  have HM := Aside0.mk (Rw.empty (g := g) HS.out.keep.1 HG.out)
  replace HS := Aside0.mk (HS.out.under (below_alloc (Below.refl _ _) (.cells #[] 34)) HS.out.lt HS.out.keep.1)
  go_wp2_with fail
  go_loopg [6, 7] (N.toNat + 1) (fun q v u w' => ∃ (xs : Cs) (i : Int), u = .int .i64 i ∧ Aside0 (Rw g w w' v xs ∧ Src w w0 w' g ∧ i + q = N + 1 ∧ (xs.length : Int) = i))
  case atStart => exact ⟨[], 0, rfl, ⟨HM.out, HS.out, by have := HN.out; omega, rfl⟩⟩
  case round =>
   clear HM HS
   obtain ⟨xs, i, rfl, hj⟩ := hrel
   have HM := Aside0.mk hj.out.1; have HS := Aside0.mk hj.out.2.1; have HJ := Aside0.mk hj.out.2.2; clear hj
   cases gk with
   | succ d =>
    have hl' : decide (i ≤ N) = true := decide_eq_true (by have := HJ.out; omega)
    obtain ⟨A, c, rfl⟩ := Kd.R_slice HM.out.row
    go_wp2_with fail
    refine (next_calls w0 _ g _ (HS.out).from_).mono ?_
    rintro e w_ ⟨r, rfl, hs, hr⟩
    replace HM := Aside0.mk (HM.out.keep hs.keep)
    replace HS := Aside0.mk ((HS.out).trans hs); clear hs
    clear hr
    by_cases c1 : r = 0
    ·have d1 : (r == 0) = true := by simpa using c1
     clear c1
     go_wp2_with fail
     refine (draw_calls w0 _ g (HS.out).from_).mono ?_
     rintro e w_ ⟨⟨v, rfl, a, b, rfl, ha, hb'⟩, hs⟩
     replace HM := Aside0.mk (HM.out.keep hs.keep)
     replace HS := Aside0.mk ((HS.out).trans hs); clear hs
     have HZ := Aside0.mk HS.out.keep.1
     go_wp2_with (first | ((with_reducible refine gate_builtin (b := .append) (xs := #[.tmp 39, .tmp 42]) rfl ?_); at_builtin; refine Kd.R_append cxk (w0 := w_) w.heap.size rfl (.tmp 39) (.tmp 42) 24 34 (.complex .f64 0 0) 16 rfl Try.underlying24 info_cx rfl (by decide) (by omega) _ xs (a, b) [.complex .f64 _ _] (fun b => b ≠ g) (fun _ => False) rfl rfl ?aP (fun _ hk => hk.elim) ?aF ?aO ?aB ?aS ?aL ?_; (case aP => exact rfl); (case aF => exact (fun k hk => by have := HG.out; have := HZ.out; show k ≠ g; omega)); (case aB => repeat (first | exact Below.refl _ _ | (with_reducible refine pw_below_drewN ?_ _))); (case aO => repeat (first | exact HM.out.row | (with_reducible refine Kd.R_drewN ?_ _))); (case aS => exact HZ.out); (case aL => have h1 := HJ.out; have h2 := HN.out; omega); intro v1 w4 ho hb hg hat))
     have EM := Aside0.mk (Rw.mk ho (HM.out.words.snoc ha hb'))
     have ES := Aside0.mk (HS.out.under hb HG.out (Nat.le_refl _))
     clear ho hb hg hat
     go_wp2_with fail
     go_roundg d
     case measure => omega
     case rel =>
      have e : wrap64 (i + 1) = i + 1 := by have := HJ.out; have := HN.out; exact w64 (by omega) (by omega)
      exact ⟨_, i + 1, by first | rfl | rw [e], ⟨EM.out, ES.out, by have := HJ.out; omega, by have := HJ.out; simp; omega⟩⟩
    ·have d1 : (r == 0) = false := by simpa using c1
     clear c1
     go_wp2_with fail
     refine (number_calls w0 _ g (HS.out).from_).mono ?_
     rintro e w_ ⟨⟨v, rfl, a, b, rfl, ha, hb'⟩, hs⟩
     replace HM := Aside0.mk (HM.out.keep hs.keep)
     replace HS := Aside0.mk ((HS.out).trans hs); clear hs
     have HZ := Aside0.mk HS.out.keep.1
     go_wp2_with (first | ((with_reducible refine gate_builtin (b := .append) (xs := #[.tmp 44, .tmp 47]) rfl ?_); at_builtin; refine Kd.R_append cxk (w0 := w_) w.heap.size rfl (.tmp 44) (.tmp 47) 24 34 (.complex .f64 0 0) 16 rfl Try.underlying24 info_cx rfl (by decide) (by omega) _ xs (a, b) [.complex .f64 _ _] (fun b => b ≠ g) (fun _ => False) rfl rfl ?bP (fun _ hk => hk.elim) ?bF ?bO ?bB ?bS ?bL ?_; (case bP => exact rfl); (case bF => exact (fun k hk => by have := HG.out; have := HZ.out; show k ≠ g; omega)); (case bB => repeat (first | exact Below.refl _ _ | (with_reducible refine pw_below_drewN ?_ _))); (case bO => repeat (first | exact HM.out.row | (with_reducible refine Kd.R_drewN ?_ _))); (case bS => exact HZ.out); (case bL => have h1 := HJ.out; have h2 := HN.out; omega); intro v1 w4 ho hb hg hat))
     have EM := Aside0.mk (Rw.mk ho (HM.out.words.snoc ha hb'))
     have ES := Aside0.mk (HS.out.under hb HG.out (Nat.le_refl _))
     clear ho hb hg hat
     go_wp2_with fail
     go_roundg d
     case measure => omega
     case rel =>
      have e : wrap64 (i + 1) = i + 1 := by have := HJ.out; have := HN.out; exact w64 (by omega) (by omega)
      exact ⟨_, i + 1, by first | rfl | rw [e], ⟨EM.out, ES.out, by have := HJ.out; omega, by have := HJ.out; simp; omega⟩⟩
   | zero =>
    have hl' : decide (i ≤ N) = false := decide_eq_false (by have := HJ.out; omega)
    obtain ⟨gb, cap, rfl, -, -, -⟩ := Kd.R_form HM.out.row (by have := HJ.out; have := HN.out; omega)
    obtain ⟨hx, hfz⟩ := Kd.R_celln (enc := cxv) (h1 := fun _ => rfl) (0, 0) HM.out.row N (by have := HN.out; omega) (by have := HJ.out; omega)
    obtain ⟨⟨x1, x2⟩, hxx⟩ : ∃ z, rdOf (0, 0) xs N = z := ⟨_, rfl⟩
    rw [hxx] at hx
    simp only [cxv] at hx
    obtain ⟨M, hM⟩ : ∃ M : Int, (xs.length : Int) = M := ⟨_, rfl⟩
    have HM2 := Aside0.mk hM
    have q0 := eq_true (show 0 ≤ N by have := HN.out; omega)
    have q1 := eq_true (show N < M by have := HJ.out; omega)
    have HL := Aside0.mk (show 1 ≤ xs.length ∧ xs.length ≤ 13 by have := HJ.out; have := HN.out; omega)
    clear hxx
    cases hz : zero_ (x1, x2)
    ·unfold zero_ isZ at hz
     go_wp2
     go_ret
     first | exact ⟨_, xs, rfl, HM.out, HL.out.1, HL.out.2, HS0.out.trans HS.out⟩ | exact ⟨_, rfl, xs, HM.out, HL.out.1, HL.out.2, HS0.out.trans HS.out⟩
    ·unfold zero_ isZ at hz
     obtain ⟨hp, hb⟩ := HM.out.put HS.out.keep.1 N one_n (by decide)
     have EM := Aside0.mk hp
     have ES := Aside0.mk (HS.out.under hb HG.out (Nat.le_refl _))
     clear hp hb
     go_wp2
     go_ret
     first | exact ⟨_, xs.set N.toNat one_n, rfl, EM.out, by rw [List.length_set]; exact HL.out.1, by rw [List.length_set]; exact HL.out.2, HS0.out.trans ES.out⟩ | exact ⟨_, rfl, xs.set N.toNat one_n, EM.out, by rw [List.length_set]; exact HL.out.1, by rw [List.length_set]; exact HL.out.2, HS0.out.trans ES.out⟩
end Go.Proofs.Ytdjkcpmoigemdaa
namespace Go.Proofs.Ytdjkcpmoigemdaa
open Go Ieee Go.RowKit Go.Proofs.Ytdjkcpmoigemdaa.Fl Go.Proofs.Ytdjkcpmoigemdaa.Fx Go.Proofs.Ytdjkcpmoigemdaa.P Go.Proofs.YtdjkcpmoigemdaaW.PrintWords Go.Proofs.YtdjkcpmoigemdaaW.PrintLast Go.Proofs.YtdjkcpmoigemdaaW.PrintMore
set_option linter.unusedVariables false
set_option linter.unusedSimpArgs false
attribute [local go_sem] run_add run_sub run_mul run_quo run_cadd run_csub run_neg run_cneg conv_f run_store_cx
structure Rdr (g : Nat) (w : World) (A : Option Addr) (c : Nat) (xs : Cs) : Prop where
 C : cxk.C w A xs.length xs
 cap : xs.length ≤ c
 len : xs.length ≤ 30
 words : Wo xs
 far : ∀ ad, A = some ad → 0 < xs.length → ad.block ≠ g
theorem Rdr.keep {g : Nat} {w w' : World} {A : Option Addr} {c : Nat} {xs : Cs} (h : Rdr g w A c xs) (hk : KeepBut w w' g none) : Rdr g w' A c xs := ⟨Kd.C_keep (0, 0) h.C hk h.far, h.cap, h.len, h.words, h.far⟩
theorem Rdr.below {g : Nat} {w w' : World} {A : Option Addr} {c : Nat} {xs : Cs} (h : Rdr g w A c xs) (hk : Below w.heap.size w w') : Rdr g w' A c xs := ⟨Kd.C_below h.C hk, h.cap, h.len, h.words, h.far⟩
theorem Rw.rdr {g : Nat} {w w1 : World} {v : Value} {xs : Cs} (h : Rw g w w1 v xs) (hl : xs.length ≤ 30) : ∃ A c, v = .slice A xs.length c ∧ Rdr g w1 A c xs := by
 obtain ⟨A, c, rfl, hc, hC⟩ := Kd.R_reads h.row
 exact ⟨A, c, rfl, hC, hc, hl, h.words, Kd.far_own h.row (fun e => h.row.1 g e.symm rfl)⟩
theorem Rdr.take {g : Nat} {w : World} {A : Option Addr} {c : Nat} {xs : Cs} (h : Rdr g w A c xs) (m : Nat) (hm : m ≤ xs.length) : Rdr g w A c (xs.take m) := by
 have hl : (xs.take m).length = m := by rw [List.length_take]; omega
 exact ⟨Kd.C_take h.C hm, by rw [hl]; exact Nat.le_trans hm h.cap, by rw [hl]; exact Nat.le_trans hm h.len, fun p hp => h.words p (List.mem_of_mem_take hp), fun ad e h0 => h.far ad e (by omega)⟩
theorem Rdr.drop {g : Nat} {w : World} {A : Option Addr} {c : Nat} {xs : Cs} (h : Rdr g w A c xs) (m : Nat) (hm : m ≤ xs.length) : Rdr g w (if c = m then A else A.map (·.add (m * 1))) (c - m) (xs.drop m) := by
 have hl : (xs.drop m).length = xs.length - m := List.length_drop
 have hc := h.cap
 refine ⟨Kd.C_drop h.C hm hc, by rw [hl]; omega, by rw [hl]; exact Nat.le_trans (Nat.sub_le _ _) h.len, fun p hp => h.words p (List.mem_of_mem_drop hp), fun ad e h0 => ?_⟩
 rw [hl] at h0
 split at e
 ·exact h.far ad e (by omega)
 ·cases A with
  | none => cases e
  | some a =>
   cases e
   show (a.add (m * 1)).block ≠ g
   rw [add_block]
   exact h.far a rfl (by omega)
set_option maxRecDepth 100000 in
set_option maxHeartbeats 8000000 in
theorem spoil4_calls {W : World} (w0 w : World) (g : Nat) (h : Src W w0 w g) : Calls Try.prog 29 #[.pointer (some ⟨g, 0, none⟩)] w fun e w' => ∃ A c xs, e = .returned (.slice A xs.length c) ∧ Rdr g w' A c xs ∧ 1 ≤ xs.length ∧ Src W w0 w' g := by
 refine Calls.mono (show Calls Try.prog 29 #[.pointer (some ⟨g, 0, none⟩)] w fun e w' => ∃ p : Option Addr × Nat × Cs, e = .returned (.slice p.1 p.2.2.length p.2.1) ∧ Rdr g w' p.1 p.2.1 p.2.2 ∧ 1 ≤ p.2.2.length ∧ Src W w0 w' g from ?_) (fun e w' h => by obtain ⟨p, h⟩ := h; exact ⟨p.1, p.2.1, p.2.2, h⟩)
 have HS0 := Aside0.mk h
 have HG := Aside0.mk h.lt
 have HS := Aside0.mk h.from_
 clear h
 go_enter Try.func29, Try.ntmps29
 go_wp2_with fail
 refine (draw4_calls w0 _ g HS.out.from_).mono ?_
 rintro e w_ ⟨v, xs, rfl, hm, hl1, hl2, hs⟩
 have HM := Aside0.mk hm
 have HL := Aside0.mk (And.intro hl1 hl2)
 replace HS := Aside0.mk (HS.out.trans hs)
 clear hm hl1 hl2 hs
 go_wp2_with fail
 refine (next_calls w0 _ g _ (HS.out).from_).mono ?_
 rintro e w_ ⟨r, rfl, hs, hr⟩
 replace HM := Aside0.mk (HM.out.keep hs.keep)
 replace HS := Aside0.mk ((HS.out).trans hs); clear hs
 clear hr
 by_cases c0 : r = 0
 ·have d0 : (r == 0) = true := by simpa using c0
  clear c0
  obtain ⟨M, hM⟩ : ∃ M : Int, (xs.length : Int) = M := ⟨_, rfl⟩
  have HM2 := Aside0.mk hM
  obtain ⟨gb, cap, rfl, -, -, -⟩ := Kd.R_form HM.out.row (by have := HL.out; omega)
  go_wp2_with fail
  refine (next_calls w0 _ g _ (HS.out).from_).mono ?_
  rintro e w_ ⟨q, rfl, hs, hr⟩
  replace HM := Aside0.mk (HM.out.keep hs.keep)
  replace HS := Aside0.mk ((HS.out).trans hs); clear hs
  have HQ := Aside0.mk (hr (by have := HM2.out; have := HL.out; omega))
  clear hr
  go_wp2_with fail
  refine (strange_calls w0 _ g (HS.out).from_).mono ?_
  rintro e w_ ⟨⟨v, rfl, a, rfl, ha⟩, hs⟩
  replace HM := Aside0.mk (HM.out.keep hs.keep)
  replace HS := Aside0.mk ((HS.out).trans hs); clear hs
  obtain ⟨hx, hfz⟩ := Kd.R_celln (enc := cxv) (h1 := fun _ => rfl) (0, 0) HM.out.row q HQ.out.1 (by have := HQ.out; have := HM2.out; omega)
  simp only [cxv] at hx
  obtain ⟨hp, hb⟩ := HM.out.put HS.out.keep.1 q (a, 0) ⟨ha, (by decide : 0 < 2 ^ 64)⟩
  have EM := Aside0.mk hp
  have ES := Aside0.mk (HS.out.under hb HG.out (Nat.le_refl _))
  have q0 := eq_true HQ.out.1
  have q1 := eq_true HQ.out.2
  clear hp hb ha
  obtain ⟨A, c, e1, hR⟩ := EM.out.rdr (by rw [List.length_set]; have := HL.out; omega)
  have HR := Aside0.mk (And.intro e1 hR)
  clear e1 hR
  go_wp2
  go_ret
  refine ⟨(A, c, xs.set q.toNat (a, 0)), by rw [← HR.out.1]; rfl, HR.out.2, by rw [List.length_set]; exact HL.out.1, HS0.out.trans ES.out⟩
 have d0 : (r == 0) = false := by simpa using c0
 clear c0
 by_cases c1 : r = 1
 ·have d1 : (r == 1) = true := by simpa using c1
  clear c1
  have HZ := Aside0.mk HS.out.keep.1
  go_wp2_with (first | ((with_reducible refine gate_builtin (b := .append) (xs := #[.tmp 21, .tmp 22]) rfl ?_); at_builtin; refine Kd.R_append cxk (w0 := w_) w.heap.size rfl (.tmp 21) (.tmp 22) 24 34 (.complex .f64 0 0) 16 rfl Try.underlying24 info_cx rfl (by decide) (by omega) _ xs (0, 0) [.complex .f64 _ _] (fun b => b ≠ g) (fun _ => False) rfl rfl ?aP (fun _ hk => hk.elim) ?aF ?aO ?aB ?aS ?aL ?_; (case aP => exact rfl); (case aF => exact (fun k hk => by have := HG.out; have := HZ.out; show k ≠ g; omega)); (case aB => repeat (first | exact Below.refl _ _ | (with_reducible refine pw_below_drewN ?_ _))); (case aO => repeat (first | exact HM.out.row | (with_reducible refine Kd.R_drewN ?_ _))); (case aS => exact HZ.out); (case aL => have h1 := HL.out; omega); intro v1 w4 ho hb hg hat))
  have EM := Aside0.mk (Rw.mk ho (HM.out.words.snoc (by decide) (by decide)))
  have ES := Aside0.mk (HS.out.under hb HG.out (Nat.le_refl _))
  clear ho hb hg hat
  obtain ⟨A, c, rfl, hR⟩ := EM.out.rdr (by simp; have := HL.out; omega)
  have HR := Aside0.mk hR
  clear hR
  go_wp2
  go_ret
  exact ⟨(A, c, xs ++ [(0, 0)]), rfl, HR.out, by simp, HS0.out.trans ES.out⟩
 have d1 : (r == 1) = false := by simpa using c1
 clear c1
 by_cases c2 : r = 2
 ·have d2 : (r == 2) = true := by simpa using c2
  clear c2
  obtain ⟨A, c, rfl, hR⟩ := HM.out.rdr (by have := HL.out; omega)
  obtain ⟨i0, hi0, -, -, -⟩ := info_parts info_cx
  have hsl := cut_to (P := Try.prog) 24 34 .i64 Try.underlying24 hi0 A xs.length c 1 (by omega) (by have := HL.out; omega) hR.cap
  have hl : (xs.take 1).length = 1 := by rw [List.length_take]; have := HL.out; omega
  have HR := Aside0.mk (hR.take 1 HL.out.1)
  have HE := Aside0.mk hl
  clear hi0 hR hl
  go_wp2
  go_ret
  exact ⟨(A, c, xs.take 1), by simp only [HE.out]; rfl, HR.out, Nat.le_of_eq HE.out.symm, HS0.out.trans HS.out⟩
 have d2 : (r == 2) = false := by simpa using c2
 clear c2
 by_cases c3 : r = 3
 ·have d3 : (r == 3) = true := by simpa using c3
  clear c3
  have HZ := Aside0.mk HS.out.keep.1
  go_wp2_with (first | ((with_reducible refine gate_builtin (b := .append) (xs := #[.tmp 30, .const (.int .i64 12)]) rfl ?_); at_builtin; refine Kd.R_append_zeros cxk (w0 := w_) w.heap.size rfl (.tmp 30) (.const (.int .i64 12)) 24 3 34 (.complex .f64 0 0) 16 rfl Try.underlying24 Try.underlying3 info_cx rfl (by decide) (by omega) _ xs (0, 0) 12 (fun b => b ≠ g) rfl rfl ?bP ?bF ?bO (by omega) ?bB ?bS ?bL ?_; (case bP => exact rfl); (case bF => exact (fun k hk => by have := HG.out; have := HZ.out; show k ≠ g; omega)); (case bB => exact Below.refl _ _); (case bO => exact HM.out.row); (case bS => exact HZ.out); (case bL => have h1 := HL.out; omega); intro v1 w4 ho hb hg hat))
  have EM := Aside0.mk (Rw.mk (g := g) ho (fun p hp => by
   rcases List.mem_append.1 hp with hp | hp
   ·exact HM.out.words p hp
   ·rw [List.eq_of_mem_replicate hp]; decide))
  have ES := Aside0.mk (HS.out.under hb HG.out (Nat.le_refl _))
  clear ho hb hg hat
  obtain ⟨A, c, rfl, hR⟩ := EM.out.rdr (by rw [List.length_append, List.length_replicate]; have := HL.out; have : (12 : Int).toNat = 12 := rfl; omega)
  have HR := Aside0.mk hR
  clear hR
  go_wp2
  go_ret
  exact ⟨(A, c, xs ++ List.replicate (12 : Int).toNat (0, 0)), rfl, HR.out, by rw [List.length_append]; have := HL.out; omega, HS0.out.trans ES.out⟩
 have d3 : (r == 3) = false := by simpa using c3
 clear c3
 obtain ⟨A, c, rfl, hR⟩ := HM.out.rdr (by have := HL.out; omega)
 have HR := Aside0.mk hR
 clear hR
 go_wp2
 go_ret
 exact ⟨(A, c, xs), rfl, HR.out, HL.out.1, HS0.out.trans HS.out⟩
end Go.Proofs.Ytdjkcpmoigemdaa
namespace Go.Proofs.Ytdjkcpmoigemdaa
open Go Ieee Go.RowKit Go.Proofs.Ytdjkcpmoigemdaa.Fl Go.Proofs.Ytdjkcpmoigemdaa.Fx Go.Proofs.Ytdjkcpmoigemdaa.P Go.Proofs.YtdjkcpmoigemdaaW.PrintWords Go.Proofs.YtdjkcpmoigemdaaW.PrintLast Go.Proofs.YtdjkcpmoigemdaaW.PrintMore
set_option linter.unusedVariables false
set_option linter.unusedSimpArgs false
attribute [local go_sem] run_add run_sub run_mul run_quo run_cadd run_csub run_neg run_cneg conv_f run_store_cx
structure Inp (w : World) (A : Option Addr) (c : Nat) (xs : Cs) : Prop where
 C : cxk.C w A xs.length xs
 cap : xs.length ≤ c
 len : xs.length ≤ 30
 words : Wo xs
theorem Inp.below {w w' : World} {A : Option Addr} {c : Nat} {xs : Cs} (h : Inp w A c xs) (hk : Below w.heap.size w w') : Inp w' A c xs := ⟨Kd.C_below h.C hk, h.cap, h.len, h.words⟩
theorem Rdr.inp {g : Nat} {w : World} {A : Option Addr} {c : Nat} {xs : Cs} (h : Rdr g w A c xs) : Inp w A c xs := ⟨h.C, h.cap, h.len, h.words⟩
end Go.Proofs.Ytdjkcpmoigemdaa
namespace Go.Proofs.Ytdjkcpmoigemdaa
open Go Ieee Go.RowKit Go.Proofs.Ytdjkcpmoigemdaa.Fl Go.Proofs.Ytdjkcpmoigemdaa.Fx Go.Proofs.Ytdjkcpmoigemdaa.P Go.Proofs.YtdjkcpmoigemdaaW.PrintWords Go.Proofs.YtdjkcpmoigemdaaW.PrintLast Go.Proofs.YtdjkcpmoigemdaaW.PrintMore
set_option linter.unusedVariables false
set_option linter.unusedSimpArgs false
attribute [local go_sem] run_add run_sub run_mul run_quo run_cadd run_csub run_neg run_cneg conv_f run_store_cx
set_option maxRecDepth 100000 in
set_option maxHeartbeats 4000000 in
theorem list5_self (A B : Option Addr) (c d : Nat) (xs : Cs) (w : World) (hr : cxk.C w A xs.length xs) (hr2 : cxk.C w B xs.length xs) : Calls Try.prog 9 #[.slice A xs.length c, .slice B xs.length d] w fun e w' => e = .returned (.bool true) ∧ Below w.heap.size w w' := by
 have HR := Aside0.mk hr; have HR2 := Aside0.mk hr2; have HL := Aside0.mk (Kd.C_max hr)
 obtain ⟨N, hN⟩ : ∃ N : Int, (xs.length : Int) = N := ⟨_, rfl⟩
 have HN := Aside0.mk hN
 have hne : (N != N) = false := by simp
 clear hr hr2
 go_enter Try.func9, Try.ntmps9
 go_wp2_with fail
 go_loopg [5] xs.length (fun g u w' => ∃ (j : Int), u = .int .i64 j ∧ Aside0 (0 ≤ j ∧ j + g = N ∧ Below w.heap.size w w'))
 case atStart => exact ⟨0, rfl, ⟨by omega, by have := HN.out; omega, Below.refl _ _⟩⟩
 case round =>
  obtain ⟨i, rfl, hj⟩ := hrel
  have HJ := Aside0.mk (And.intro hj.out.1 hj.out.2.1)
  have HB := Aside0.mk hj.out.2.2
  clear hj
  cases gk with
  | succ m =>
   have hl' : decide (i < N) = true := decide_eq_true (by have := HJ.out; omega)
   obtain ⟨ga, rfl, hx⟩ := cx_at (Kd.C_below HR.out HB.out) i HJ.out.1 (by have := HJ.out; have := HN.out; omega)
   obtain ⟨gb, rfl, hy⟩ := cx_at (Kd.C_below HR2.out HB.out) i HJ.out.1 (by have := HJ.out; have := HN.out; omega)
   obtain ⟨⟨x1, x2⟩, hxx⟩ : ∃ z, rdOf (0, 0) xs i = z := ⟨_, rfl⟩
   rw [hxx] at hx hy
   have q0 := eq_true HJ.out.1
   have q1 := eq_true (show i < N by have := HJ.out; omega)
   clear hxx
   go_wp2_with fail
   refine start_ (n := 10) (S := fun w' => w'.cell? (ga.add i.toNat) = some (.complex .f64 x1 x2) ∧ w'.cell? (gb.add i.toNat) = some (.complex .f64 x1 x2)) (ds := [8, 9]) #[false, false, false, false, false, false, false, false, false, false] (by kernel_rfl) rfl rfl ⟨hx, hy⟩ (fun hHeld => ?_)
   have DW := Aside0.mk ((Below.refl wr.heap.size wr).drew)
   generalize wr.drew = W at hHeld DW ⊢
   refine pure_ (i := 0) (N := some 17) (v := ?_) (a' := ?_) #[true, false, false, false, false, false, false, false, false, false] rfl rfl (by kernel_rfl) (fun _ _ _ h => h) (Or.inl ⟨by rfl, ?_⟩) ?_ ?_
   rotate_left
   ·intro w'
    go_simp
    with_reducible rfl
   rotate_left
   ·simp only [Act.put, List.setIfInBounds_toArray, List.set_cons_zero, List.set_cons_succ, i64_w, i32_w]
    rfl
   refine pure_ (i := 1) (N := some 18) (v := ?_) (a' := ?_) #[true, true, false, false, false, false, false, false, false, false] rfl rfl (by kernel_rfl) (fun _ _ _ h => h) (Or.inl ⟨by rfl, ?_⟩) ?_ ?_
   rotate_left
   ·intro w'
    go_simp
    with_reducible rfl
   rotate_left
   ·simp only [Act.put, List.setIfInBounds_toArray, List.set_cons_zero, List.set_cons_succ, i64_w, i32_w]
    rfl
   refine pure_ (i := 2) (N := some 19) (v := ?_) (a' := ?_) #[true, true, true, false, false, false, false, false, false, false] rfl rfl (by kernel_rfl) (fun _ _ _ h => h) (Or.inl ⟨by rfl, ?_⟩) ?_ ?_
   rotate_left
   ·intro w'
    go_simp
    with_reducible rfl
   rotate_left
   ·simp only [Act.put, List.setIfInBounds_toArray, List.set_cons_zero, List.set_cons_succ, i64_w, i32_w]
    rfl
   refine pure_ (i := 4) (N := some 21) (v := ?_) (a' := ?_) #[true, true, true, false, true, false, false, false, false, false] rfl rfl (by kernel_rfl) (fun _ _ _ h => h) (Or.inl ⟨by rfl, ?_⟩) ?_ ?_
   rotate_left
   ·intro w'
    go_simp
    with_reducible rfl
   rotate_left
   ·simp only [Act.put, List.setIfInBounds_toArray, List.set_cons_zero, List.set_cons_succ, i64_w, i32_w]
    rfl
   refine pure_ (i := 5) (N := some 22) (v := ?_) (a' := ?_) #[true, true, true, false, true, true, false, false, false, false] rfl rfl (by kernel_rfl) (fun _ _ _ h => h) (Or.inl ⟨by rfl, ?_⟩) ?_ ?_
   rotate_left
   ·intro w'
    go_simp
    with_reducible rfl
   rotate_left
   ·simp only [Act.put, List.setIfInBounds_toArray, List.set_cons_zero, List.set_cons_succ, i64_w, i32_w]
    rfl
   refine pure_ (i := 6) (N := some 23) (v := ?_) (a' := ?_) #[true, true, true, false, true, true, true, false, false, false] rfl rfl (by kernel_rfl) (fun _ _ _ h => h) (Or.inl ⟨by rfl, ?_⟩) ?_ ?_
   rotate_left
   ·intro w'
    go_simp
    with_reducible rfl
   rotate_left
   ·simp only [Act.put, List.setIfInBounds_toArray, List.set_cons_zero, List.set_cons_succ, i64_w, i32_w]
    rfl
   refine take_ (i := 3) (N := some 20) (v := ?_) (a' := ?_) #[true, true, true, true, true, true, true, false, false, false] rfl rfl (by kernel_rfl) (fun _ _ _ h => h) (Or.inl ⟨by rfl, ?_⟩) hHeld ?_ ?_
   rotate_left
   ·rintro w' ⟨s0, s1⟩
    go_simp
    with_reducible rfl
   rotate_left
   ·simp only [Act.put, List.setIfInBounds_toArray, List.set_cons_zero, List.set_cons_succ, i64_w, i32_w]
    rfl
   refine take_ (i := 7) (N := some 24) (v := ?_) (a' := ?_) #[true, true, true, true, true, true, true, true, false, false] rfl rfl (by kernel_rfl) (fun _ _ _ h => h) (Or.inl ⟨by rfl, ?_⟩) hHeld ?_ ?_
   rotate_left
   ·rintro w' ⟨s0, s1⟩
    go_simp
    with_reducible rfl
   rotate_left
   ·simp only [Act.put, List.setIfInBounds_toArray, List.set_cons_zero, List.set_cons_succ, i64_w, i32_w]
    rfl
   refine last_ (i := 8) (N := some 25) #[true, true, true, true, true, true, true, true, true, false] rfl rfl (by kernel_rfl) (by decide) (fun K hK => ?_)
   refine goes_ Try.func16 (by kernel_rfl) rfl #[.complex .f64 x1 x2, .complex .f64 x1 x2] (by rfl) rfl rfl (by simp only [List.map_toArray, List.map_cons, List.map_nil]; rfl) ?_
   with_reducible refine (same5_self x1 x2 _).mono ?_
   rintro e w2 ⟨rfl, n3, rfl⟩
   refine ⟨_, rfl, ?_⟩
   refine hK.out _ _ ?_
   clear hK K
   refine norm_ (a' := ?_) ?_ ?_
   rotate_left
   ·show Act.put _ (some 25) _ = _
    simp only [Act.put, List.setIfInBounds_toArray, List.set_cons_zero, List.set_cons_succ, i64_w, i32_w]
    rfl
   refine last_ (i := 9) (N := some 26) #[true, true, true, true, true, true, true, true, true, true] rfl rfl (by kernel_rfl) (by decide) (fun K hK => ?_)
   refine value_ (w1 := ?_) (v := ?_) (by rfl) rfl ?_ ?_
   rotate_left 2
   ·go_simp
    constructor
    ·rfl
    ·rfl
   refine hK.out _ _ ?_
   clear hK K
   refine norm_ (a' := ?_) ?_ ?_
   rotate_left
   ·show Act.put _ (some 26) _ = _
    simp only [Act.put, List.setIfInBounds_toArray, List.set_cons_zero, List.set_cons_succ, i64_w, i32_w]
    rfl
   refine done_ (by kernel_rfl) ?_
   have EB := Aside0.mk (show Below w.heap.size w W from HB.out.trans (DW.out.mono HB.out.size))
   clear q0 q1 hx hy
   go_wp2_with fail
   go_roundg m
   case measure => omega
   case rel =>
    have e : wrap64 (i + 1) = i + 1 := by have := HJ.out; have := HN.out; have := HL.out; exact w64 (by omega) (by omega)
    exact ⟨i + 1, by first | rfl | rw [e], ⟨by have := HJ.out; omega, by have := HJ.out; omega, by repeat (first | exact EB.out | refine pw_below_drewN ?_ _)⟩⟩
  | zero =>
   have hl' : decide (i < N) = false := decide_eq_false (by have := HJ.out; omega)
   go_wp2
   go_ret
   exact ⟨rfl, HB.out⟩
end Go.Proofs.Ytdjkcpmoigemdaa
