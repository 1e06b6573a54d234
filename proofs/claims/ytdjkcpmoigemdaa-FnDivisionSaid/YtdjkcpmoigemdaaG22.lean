/- Deflations, values and divisions. No conditions beyond those of each theorem. Printed by genpr7.py. -/
import Derived.Test.YtdjkcpmoigemdaaG21
namespace Go.Proofs.Ytdjkcpmoigemdaa
open Go Ieee Go.RowKit Go.Proofs.Ytdjkcpmoigemdaa.Fl Go.Proofs.Ytdjkcpmoigemdaa.Fx Go.Proofs.Ytdjkcpmoigemdaa.P Go.Proofs.YtdjkcpmoigemdaaW.PrintWords Go.Proofs.YtdjkcpmoigemdaaW.PrintLast Go.Proofs.YtdjkcpmoigemdaaW.PrintMore
set_option linter.unusedVariables false
set_option linter.unusedSimpArgs false
attribute [local go_sem] run_add run_sub run_mul run_quo run_cadd run_csub run_neg run_cneg conv_f run_store_cx
def dflP (p : Cs) (z : Nat × Nat) : Cs × (Nat × Nat) × Int := if polyB p then (if isFin z.1 && isFin z.2 then (match defP p z with | some q => (q.1, q.2, 0) | none => ([], (0, 0), 3)) else ([], (0, 0), 1)) else ([], (0, 0), 1)
def divD (p q : Cs) : Cs × Cs × Int := if polyB p then (if polyB q then (match divP p q with | some r => (trimL r.1, trimL r.2, 0) | none => ([], [], 3)) else ([], [], 1)) else ([], [], 1)
def Rs3 (w : World) (o : Cs × (Nat × Nat) × Int) : Ending → World → Prop := fun e w' => ∃ (A : Option Addr) (c : Nat), e = .returned (.tuple #[.slice A o.1.length c, .complex .f64 o.2.1.1 o.2.1.2, .int .i64 o.2.2]) ∧ cxk.C w' A o.1.length o.1 ∧ o.1.length ≤ c ∧ Below w.heap.size w w'
def RsD (w : World) (o : Cs × Cs × Int) : Ending → World → Prop := fun e w' => ∃ (A : Option Addr) (c : Nat) (B : Option Addr) (d : Nat), e = .returned (.tuple #[.slice A o.1.length c, .slice B o.2.1.length d, .int .i64 o.2.2]) ∧ cxk.C w' A o.1.length o.1 ∧ o.1.length ≤ c ∧ cxk.C w' B o.2.1.length o.2.1 ∧ o.2.1.length ≤ d ∧ Below w.heap.size w w'
theorem Rs3.none_ {w w' : World} {k : Int} (h : Below w.heap.size w w') : Rs3 w ([], (0, 0), k) (.returned (.tuple #[.slice none 0 0, .complex .f64 0 0, .int .i64 k])) w' := ⟨none, 0, rfl, Kd.C_nil _ _, Nat.le_refl _, h⟩
theorem RsD.none_ {w w' : World} {k : Int} (h : Below w.heap.size w w') : RsD w ([], [], k) (.returned (.tuple #[.slice none 0 0, .slice none 0 0, .int .i64 k])) w' := ⟨none, 0, none, 0, rfl, Kd.C_nil _ _, Nat.le_refl _, Kd.C_nil _ _, Nat.le_refl _, h⟩
theorem dflP_a {p : Cs} {z : Nat × Nat} (h : polyB p = false) : dflP p z = ([], (0, 0), 1) := by unfold dflP; rw [h]; rfl
theorem dflP_b {p : Cs} {z : Nat × Nat} (h : polyB p = true) (h2 : (isFin z.1 && isFin z.2) = false) : dflP p z = ([], (0, 0), 1) := by unfold dflP; rw [h, h2]; rfl
theorem dflP_c {p : Cs} {z : Nat × Nat} (h : polyB p = true) (h2 : (isFin z.1 && isFin z.2) = true) : dflP p z = (match defP p z with | some q => (q.1, q.2, 0) | none => ([], (0, 0), 3)) := by unfold dflP; rw [h, h2]; rfl
theorem divD_a {p q : Cs} (h : polyB p = false) : divD p q = ([], [], 1) := by unfold divD; rw [h]; rfl
theorem divD_b {p q : Cs} (h : polyB p = true) (h2 : polyB q = false) : divD p q = ([], [], 1) := by unfold divD; rw [h, h2]; rfl
theorem divD_c {p q : Cs} (h : polyB p = true) (h2 : polyB q = true) : divD p q = (match divP p q with | some r => (trimL r.1, trimL r.2, 0) | none => ([], [], 3)) := by unfold divD; rw [h, h2]; rfl
theorem divS_qlen (q : Cs) : ∀ (k : Nat) (xs quo : Cs) (p : Cs × Cs), divS q k xs quo = some p → p.1.length = quo.length + k
 | 0, xs, quo, p, h => by cases h; rfl
 | k + 1, xs, quo, p, h => by
  unfold divS at h
  obtain ⟨t, _, h2⟩ := Option.bind_eq_some_iff.1 h
  obtain ⟨ys, h3, h4⟩ := Option.bind_eq_some_iff.1 h2
  rw [divS_qlen q k _ _ p h4, List.length_cons]
  omega
set_option maxRecDepth 100000 in
theorem DeflateBy_calls (A : Option Addr) (c : Nat) (ps : Cs) (z1 z2 : Nat) (w : World) (hr : cxk.C w A ps.length ps) (hl : ps.length ≤ 1000000000) : Calls Try.prog 14 #[.slice A ps.length c, .complex .f64 z1 z2] w fun e w' => Rs3 w (dflP ps (z1, z2)) e w' := by
 have HR := Aside0.mk hr; have HL := Aside0.mk hl
 clear hr hl
 cases h1 : polyB ps
 ·rw [dflP_a h1]
  go_enter Try.func14, Try.ntmps14
  go_wp2_with fail
  refine (IsPolynomial_calls A c ps _ HR.out HL.out).mono ?_
  rintro e w1 ⟨rfl, n1, rfl⟩
  rw [h1]
  go_wp2
  go_ret3
  exact Rs3.none_ (by repeat (first | exact Below.refl _ _ | refine pw_below_drewN ?_ _))
 cases h2 : (isFin z1 && isFin z2)
 ·rw [dflP_b h1 h2]
  go_enter Try.func14, Try.ntmps14
  go_wp2_with fail
  refine (IsPolynomial_calls A c ps _ HR.out HL.out).mono ?_
  rintro e w1 ⟨rfl, n1, rfl⟩
  rw [h1]
  go_wp2_with fail
  refine (isFinite_calls z1 z2 _).mono ?_
  rintro e w1 ⟨rfl, n2, rfl⟩
  rw [h2]
  go_wp2
  go_ret3
  exact Rs3.none_ (by repeat (first | exact Below.refl _ _ | refine pw_below_drewN ?_ _))
 rw [dflP_c h1 h2]
 have P1 := Aside0.mk (polyB_of h1)
 cases hd : defP ps (z1, z2) with
 | none =>
  go_enter Try.func14, Try.ntmps14
  go_wp2_with fail
  refine (IsPolynomial_calls A c ps _ HR.out HL.out).mono ?_
  rintro e w1 ⟨rfl, n1, rfl⟩
  rw [h1]
  go_wp2_with fail
  refine (isFinite_calls z1 z2 _).mono ?_
  rintro e w1 ⟨rfl, n2, rfl⟩
  rw [h2]
  go_wp2_with fail
  refine (deflate_calls A c ps z1 z2 _ (Kd.C_drewN HR.out _) (by have := P1.out; omega) (by have := P1.out; omega)).mono ?_
  rw [hd]
  rintro e w3 ⟨rfl, hb⟩
  have LB := Aside0.mk (show Below w.heap.size w w3 from (by repeat (first | exact Below.refl _ _ | refine pw_below_drewN ?_ _) : Below w.heap.size w _).trans (hb.mono (by exact Nat.le_refl _)))
  clear hb hd h1 h2
  go_wp2
  go_ret3
  exact Rs3.none_ LB.out
 | some q =>
  go_enter Try.func14, Try.ntmps14
  go_wp2_with fail
  refine (IsPolynomial_calls A c ps _ HR.out HL.out).mono ?_
  rintro e w1 ⟨rfl, n1, rfl⟩
  rw [h1]
  go_wp2_with fail
  refine (isFinite_calls z1 z2 _).mono ?_
  rintro e w1 ⟨rfl, n2, rfl⟩
  rw [h2]
  go_wp2_with fail
  refine (deflate_calls A c ps z1 z2 _ (Kd.C_drewN HR.out _) (by have := P1.out; omega) (by have := P1.out; omega)).mono ?_
  rw [hd]
  rintro e w3 ⟨A3, c3, rfl, k1, k2, hb⟩
  have LB := Aside0.mk (show Below w.heap.size w w3 from (by repeat (first | exact Below.refl _ _ | refine pw_below_drewN ?_ _) : Below w.heap.size w _).trans (hb.mono (by exact Nat.le_refl _)))
  have HK := Aside0.mk (And.intro k1 k2)
  clear hb hd h1 h2 k1 k2
  go_wp2
  go_ret3
  exact ⟨A3, c3, rfl, HK.out.1, HK.out.2, LB.out⟩
set_option maxRecDepth 100000 in
theorem specDeflateBy_calls (A : Option Addr) (c : Nat) (ps : Cs) (z1 z2 : Nat) (w : World) (hr : cxk.C w A ps.length ps) (hl : ps.length ≤ 1000000000) : Calls Try.prog 15 #[.slice A ps.length c, .complex .f64 z1 z2] w fun e w' => Rs3 w (dflP ps (z1, z2)) e w' := by
 have HR := Aside0.mk hr; have HL := Aside0.mk hl
 clear hr hl
 cases h1 : polyB ps
 ·rw [dflP_a h1]
  go_enter Try.func15, Try.ntmps15
  go_wp2_with fail
  refine (l04Is_calls A c ps _ HR.out HL.out).mono ?_
  rintro e w1 ⟨rfl, n1, rfl⟩
  rw [h1]
  go_wp2
  go_ret3
  exact Rs3.none_ (by repeat (first | exact Below.refl _ _ | refine pw_below_drewN ?_ _))
 cases h2 : (isFin z1 && isFin z2)
 ·rw [dflP_b h1 h2]
  go_enter Try.func15, Try.ntmps15
  go_wp2_with fail
  refine (l04Is_calls A c ps _ HR.out HL.out).mono ?_
  rintro e w1 ⟨rfl, n1, rfl⟩
  rw [h1]
  go_wp2_with fail
  refine (l01Finite_calls z1 z2 _).mono ?_
  rintro e w1 ⟨rfl, n2, rfl⟩
  rw [h2]
  go_wp2
  go_ret3
  exact Rs3.none_ (by repeat (first | exact Below.refl _ _ | refine pw_below_drewN ?_ _))
 rw [dflP_c h1 h2]
 have P1 := Aside0.mk (polyB_of h1)
 cases hd : defP ps (z1, z2) with
 | none =>
  go_enter Try.func15, Try.ntmps15
  go_wp2_with fail
  refine (l04Is_calls A c ps _ HR.out HL.out).mono ?_
  rintro e w1 ⟨rfl, n1, rfl⟩
  rw [h1]
  go_wp2_with fail
  refine (l01Finite_calls z1 z2 _).mono ?_
  rintro e w1 ⟨rfl, n2, rfl⟩
  rw [h2]
  go_wp2_with fail
  refine (l04Deflate_calls A c ps z1 z2 _ (Kd.C_drewN HR.out _) (by have := P1.out; omega) (by have := P1.out; omega)).mono ?_
  rw [hd]
  rintro e w3 ⟨rfl, hb⟩
  have LB := Aside0.mk (show Below w.heap.size w w3 from (by repeat (first | exact Below.refl _ _ | refine pw_below_drewN ?_ _) : Below w.heap.size w _).trans (hb.mono (by exact Nat.le_refl _)))
  clear hb hd h1 h2
  go_wp2
  go_ret3
  exact Rs3.none_ LB.out
 | some q =>
  go_enter Try.func15, Try.ntmps15
  go_wp2_with fail
  refine (l04Is_calls A c ps _ HR.out HL.out).mono ?_
  rintro e w1 ⟨rfl, n1, rfl⟩
  rw [h1]
  go_wp2_with fail
  refine (l01Finite_calls z1 z2 _).mono ?_
  rintro e w1 ⟨rfl, n2, rfl⟩
  rw [h2]
  go_wp2_with fail
  refine (l04Deflate_calls A c ps z1 z2 _ (Kd.C_drewN HR.out _) (by have := P1.out; omega) (by have := P1.out; omega)).mono ?_
  rw [hd]
  rintro e w3 ⟨A3, c3, rfl, k1, k2, hb⟩
  have LB := Aside0.mk (show Below w.heap.size w w3 from (by repeat (first | exact Below.refl _ _ | refine pw_below_drewN ?_ _) : Below w.heap.size w _).trans (hb.mono (by exact Nat.le_refl _)))
  have HK := Aside0.mk (And.intro k1 k2)
  clear hb hd h1 h2 k1 k2
  go_wp2
  go_ret3
  exact ⟨A3, c3, rfl, HK.out.1, HK.out.2, LB.out⟩
set_option maxRecDepth 100000 in
theorem DividePolynomial_calls (A B : Option Addr) (c d : Nat) (ps qs : Cs) (w : World) (hr : cxk.C w A ps.length ps) (hr2 : cxk.C w B qs.length qs) (hl : ps.length ≤ 1000000000) (hl2 : qs.length ≤ 1000000000) (hd : qs.length ≤ d) (wp : Wo ps) (wq : Wo qs) : Calls Try.prog 19 #[.slice A ps.length c, .slice B qs.length d] w fun e w' => RsD w (divD ps qs) e w' := by
 have HR := Aside0.mk hr; have HL := Aside0.mk hl; have HR2 := Aside0.mk hr2; have HL2 := Aside0.mk hl2; have HD := Aside0.mk hd; have WP := Aside0.mk wp; have WQ := Aside0.mk wq
 clear hr hl hr2 hl2 hd wp wq
 cases h1 : polyB ps
 ·rw [divD_a h1]
  go_enter Try.func19, Try.ntmps19
  go_wp2_with fail
  refine (IsPolynomial_calls A c ps _ HR.out HL.out).mono ?_
  rintro e w1 ⟨rfl, n1, rfl⟩
  rw [h1]
  go_wp2
  go_ret3
  exact RsD.none_ (by repeat (first | exact Below.refl _ _ | refine pw_below_drewN ?_ _))
 cases h2 : polyB qs
 ·rw [divD_b h1 h2]
  go_enter Try.func19, Try.ntmps19
  go_wp2_with fail
  refine (IsPolynomial_calls A c ps _ HR.out HL.out).mono ?_
  rintro e w1 ⟨rfl, n1, rfl⟩
  rw [h1]
  go_wp2_with fail
  refine (IsPolynomial_calls B d qs _ (Kd.C_drewN HR2.out _) HL2.out).mono ?_
  rintro e w1 ⟨rfl, n2, rfl⟩
  rw [h2]
  go_wp2
  go_ret3
  exact RsD.none_ (by repeat (first | exact Below.refl _ _ | refine pw_below_drewN ?_ _))
 rw [divD_c h1 h2]
 have P1 := Aside0.mk (polyB_of h1); have P2 := Aside0.mk (polyB_of h2)
 cases hd : divP ps qs with
 | none =>
  go_enter Try.func19, Try.ntmps19
  go_wp2_with fail
  refine (IsPolynomial_calls A c ps _ HR.out HL.out).mono ?_
  rintro e w1 ⟨rfl, n1, rfl⟩
  rw [h1]
  go_wp2_with fail
  refine (IsPolynomial_calls B d qs _ (Kd.C_drewN HR2.out _) HL2.out).mono ?_
  rintro e w1 ⟨rfl, n2, rfl⟩
  rw [h2]
  go_wp2_with fail
  refine (division_calls A B c d ps qs _ (Kd.C_drewN HR.out _) (Kd.C_drewN HR2.out _) (by have := P1.out; omega) (by have := P2.out; omega) (by have := P2.out; omega) HD.out ⟨P1.out.2.2.1, WP.out⟩ ⟨P2.out.2.2.1, WQ.out⟩).mono ?_
  rw [hd]
  rintro e w3 ⟨rfl, hb⟩
  have LB := Aside0.mk (show Below w.heap.size w w3 from (by repeat (first | exact Below.refl _ _ | refine pw_below_drewN ?_ _) : Below w.heap.size w _).trans (hb.mono (by exact Nat.le_refl _)))
  clear hb hd h1 h2
  go_wp2
  go_ret3
  exact RsD.none_ LB.out
 | some q =>
  go_enter Try.func19, Try.ntmps19
  go_wp2_with fail
  refine (IsPolynomial_calls A c ps _ HR.out HL.out).mono ?_
  rintro e w1 ⟨rfl, n1, rfl⟩
  rw [h1]
  go_wp2_with fail
  refine (IsPolynomial_calls B d qs _ (Kd.C_drewN HR2.out _) HL2.out).mono ?_
  rintro e w1 ⟨rfl, n2, rfl⟩
  rw [h2]
  go_wp2_with fail
  refine (division_calls A B c d ps qs _ (Kd.C_drewN HR.out _) (Kd.C_drewN HR2.out _) (by have := P1.out; omega) (by have := P2.out; omega) (by have := P2.out; omega) HD.out ⟨P1.out.2.2.1, WP.out⟩ ⟨P2.out.2.2.1, WQ.out⟩).mono ?_
  rw [hd]
  rintro e w3 ⟨A3, c3, A4, c4, rfl, k1, k2, k3, k4, hb⟩
  have LB := Aside0.mk (show Below w.heap.size w w3 from (by repeat (first | exact Below.refl _ _ | refine pw_below_drewN ?_ _) : Below w.heap.size w _).trans (hb.mono (by exact Nat.le_refl _)))
  have HK := Aside0.mk (And.intro k1 (And.intro k2 (And.intro k3 k4)))
  clear hb hd h1 h2 k1 k2 k3 k4
  go_wp2
  go_ret3
  exact ⟨A3, c3, A4, c4, rfl, HK.out.1, HK.out.2.1, HK.out.2.2.1, HK.out.2.2.2, LB.out⟩
set_option maxRecDepth 100000 in
theorem specDividePolynomial_calls (A B : Option Addr) (c d : Nat) (ps qs : Cs) (w : World) (hr : cxk.C w A ps.length ps) (hr2 : cxk.C w B qs.length qs) (hl : ps.length ≤ 1000000000) (hl2 : qs.length ≤ 1000000000) (hd : qs.length ≤ d) (wp : Wo ps) (wq : Wo qs) : Calls Try.prog 20 #[.slice A ps.length c, .slice B qs.length d] w fun e w' => RsD w (divD ps qs) e w' := by
 have HR := Aside0.mk hr; have HL := Aside0.mk hl; have HR2 := Aside0.mk hr2; have HL2 := Aside0.mk hl2; have HD := Aside0.mk hd; have WP := Aside0.mk wp; have WQ := Aside0.mk wq
 clear hr hl hr2 hl2 hd wp wq
 cases h1 : polyB ps
 ·rw [divD_a h1]
  go_enter Try.func20, Try.ntmps20
  go_wp2_with fail
  refine (l04Is_calls A c ps _ HR.out HL.out).mono ?_
  rintro e w1 ⟨rfl, n1, rfl⟩
  rw [h1]
  go_wp2
  go_ret3
  exact RsD.none_ (by repeat (first | exact Below.refl _ _ | refine pw_below_drewN ?_ _))
 cases h2 : polyB qs
 ·rw [divD_b h1 h2]
  go_enter Try.func20, Try.ntmps20
  go_wp2_with fail
  refine (l04Is_calls A c ps _ HR.out HL.out).mono ?_
  rintro e w1 ⟨rfl, n1, rfl⟩
  rw [h1]
  go_wp2_with fail
  refine (l04Is_calls B d qs _ (Kd.C_drewN HR2.out _) HL2.out).mono ?_
  rintro e w1 ⟨rfl, n2, rfl⟩
  rw [h2]
  go_wp2
  go_ret3
  exact RsD.none_ (by repeat (first | exact Below.refl _ _ | refine pw_below_drewN ?_ _))
 rw [divD_c h1 h2]
 have P1 := Aside0.mk (polyB_of h1); have P2 := Aside0.mk (polyB_of h2)
 cases hd : divP ps qs with
 | none =>
  go_enter Try.func20, Try.ntmps20
  go_wp2_with fail
  refine (l04Is_calls A c ps _ HR.out HL.out).mono ?_
  rintro e w1 ⟨rfl, n1, rfl⟩
  rw [h1]
  go_wp2_with fail
  refine (l04Is_calls B d qs _ (Kd.C_drewN HR2.out _) HL2.out).mono ?_
  rintro e w1 ⟨rfl, n2, rfl⟩
  rw [h2]
  go_wp2_with fail
  refine (l04Divide_calls A B c d ps qs _ (Kd.C_drewN HR.out _) (Kd.C_drewN HR2.out _) (by have := P1.out; omega) (by have := P2.out; omega) (by have := P2.out; omega) HD.out ⟨P1.out.2.2.1, WP.out⟩ ⟨P2.out.2.2.1, WQ.out⟩ P2.out.2.2.2).mono ?_
  rw [hd]
  rintro e w3 ⟨rfl, hb⟩
  have LB := Aside0.mk (show Below w.heap.size w w3 from (by repeat (first | exact Below.refl _ _ | refine pw_below_drewN ?_ _) : Below w.heap.size w _).trans (hb.mono (by exact Nat.le_refl _)))
  clear hb hd h1 h2
  go_wp2
  go_ret3
  exact RsD.none_ LB.out
 | some q =>
  go_enter Try.func20, Try.ntmps20
  go_wp2_with fail
  refine (l04Is_calls A c ps _ HR.out HL.out).mono ?_
  rintro e w1 ⟨rfl, n1, rfl⟩
  rw [h1]
  go_wp2_with fail
  refine (l04Is_calls B d qs _ (Kd.C_drewN HR2.out _) HL2.out).mono ?_
  rintro e w1 ⟨rfl, n2, rfl⟩
  rw [h2]
  go_wp2_with fail
  refine (l04Divide_calls A B c d ps qs _ (Kd.C_drewN HR.out _) (Kd.C_drewN HR2.out _) (by have := P1.out; omega) (by have := P2.out; omega) (by have := P2.out; omega) HD.out ⟨P1.out.2.2.1, WP.out⟩ ⟨P2.out.2.2.1, WQ.out⟩ P2.out.2.2.2).mono ?_
  rw [hd]
  rintro e w3 ⟨A3, c3, A4, c4, rfl, k1, k2, k3, k4, hb, hg, hl4⟩
  have LB := Aside0.mk (show Below w.heap.size w w3 from (by repeat (first | exact Below.refl _ _ | refine pw_below_drewN ?_ _) : Below w.heap.size w _).trans (hb.mono (by exact Nat.le_refl _)))
  have HK := Aside0.mk (And.intro k1 (And.intro k2 (And.intro k3 k4)))
  have HQL := Aside0.mk (show q.1.length ≤ 1000 ∧ q.2.length ≤ 30 from ⟨by have h9 := divS_qlen _ _ _ _ _ hd; have := P1.out; rw [List.length_nil] at h9; omega, hl4⟩)
  clear hb hd h1 h2 k1 k2 k3 k4 hg hl4
  go_wp2_with fail
  refine (l04Trim_calls A3 c3 q.1 _ HK.out.1 (by have := HQL.out; omega) HK.out.2.1).mono ?_
  rintro e w5 ⟨v5, rfl, o5⟩
  have O5 := Aside0.mk (o5.lower LB.out)
  have HK4 := Aside0.mk (Kd.C_below HK.out.2.2.1 o5.low)
  clear o5
  go_wp2_with fail
  refine (l04Trim_calls A4 c4 q.2 _ HK4.out (by have := HQL.out; omega) HK.out.2.2.2).mono ?_
  rintro e w6 ⟨v6, rfl, o6⟩
  have O6 := Aside0.mk (o6.lower O5.out.low)
  replace O5 := Aside0.mk (O5.out.below o6.low)
  clear o6
  obtain ⟨A5, c5, rfl, k1, k2⟩ := O5.out.reads
  obtain ⟨A6, c6, rfl, k3, k4⟩ := O6.out.reads
  have H9 := Aside0.mk (And.intro k1 (And.intro k2 (And.intro k3 k4)))
  clear k1 k2 k3 k4
  go_wp2
  go_ret3
  exact ⟨A5, c5, A6, c6, rfl, H9.out.2.1, H9.out.1, H9.out.2.2.2, H9.out.2.2.1, O6.out.low⟩
theorem pointCode_calls (A : Option Addr) (c : Nat) (ps : Cs) (z1 z2 : Nat) (w : World) (hr : cxk.C w A ps.length ps) (hl : ps.length ≤ 1000000000) : Calls Try.prog 53 #[.slice A ps.length c, .complex .f64 z1 z2] w fun e w' => e = .returned (.int .i64 (if polyB ps && (isFin z1 && isFin z2) then 0 else 1)) ∧ ∃ n, w' = w.drewN n := by
 have HR := Aside0.mk hr; have HL := Aside0.mk hl
 clear hr hl
 cases h1 : polyB ps
 ·go_enter Try.func53, Try.ntmps53
  go_wp2_with fail
  refine (IsPolynomial_calls A c ps _ HR.out HL.out).mono ?_
  rintro e w1 ⟨rfl, n1, rfl⟩
  rw [h1]
  go_wp2
  go_ret
  exact ⟨rfl, _, rfl⟩
 cases h2 : (isFin z1 && isFin z2)
 all_goals
  go_enter Try.func53, Try.ntmps53
  go_wp2_with fail
  refine (IsPolynomial_calls A c ps _ HR.out HL.out).mono ?_
  rintro e w1 ⟨rfl, n1, rfl⟩
  rw [h1]
  go_wp2_with fail
  refine (isFinite_calls z1 z2 _).mono ?_
  rintro e w1 ⟨rfl, n2, rfl⟩
  rw [h2]
  go_wp2
  go_ret
  exact ⟨rfl, _, rfl⟩
theorem value_calls (A : Option Addr) (c : Nat) (ps : Cs) (z1 z2 : Nat) (w : World) (hr : cxk.C w A ps.length ps) (h1 : 1 ≤ ps.length) (hl : ps.length ≤ 30) (q : Cs × (Nat × Nat)) (hd : defP ps (z1, z2) = some q) : Calls Try.prog 54 #[.slice A ps.length c, .complex .f64 z1 z2] w fun e w' => e = .returned (.tuple #[.complex .f64 q.2.1 q.2.2, .int .i64 0]) ∧ Below w.heap.size w w' := by
 have HR := Aside0.mk hr; have HD := Aside0.mk hd; have HL := Aside0.mk (And.intro h1 hl)
 clear hr hd h1 hl
 go_enter Try.func54, Try.ntmps54
 go_wp2_with fail
 refine (deflate_calls A c ps z1 z2 _ HR.out HL.out.1 HL.out.2).mono ?_
 rw [HD.out]
 rintro e w3 ⟨A3, c3, rfl, k1, k2, hb⟩
 have LB := Aside0.mk hb
 clear k1 k2 hb
 go_wp2
 go_ret2
 exact ⟨rfl, LB.out⟩
theorem ValueOf_calls (A : Option Addr) (c : Nat) (ps : Cs) (z1 z2 : Nat) (w : World) (hr : cxk.C w A ps.length ps) (hl : ps.length ≤ 1000000000) (q : Cs) (r : Nat × Nat) (h : dflP ps (z1, z2) = (q, r, 0)) : Calls Try.prog 17 #[.slice A ps.length c, .complex .f64 z1 z2] w fun e w' => e = .returned (.tuple #[.complex .f64 r.1 r.2, .int .i64 0]) ∧ Below w.heap.size w w' := by
 cases h1 : polyB ps
 ·rw [dflP_a h1] at h; simp at h
 cases h2 : (isFin z1 && isFin z2)
 ·rw [dflP_b h1 h2] at h; simp at h
 rw [dflP_c h1 h2] at h
 cases hd : defP ps (z1, z2) with
 | none => rw [hd] at h; simp at h
 | some p =>
  rw [hd] at h
  simp only [Prod.mk.injEq, and_true] at h
  obtain ⟨e1, e2⟩ := h
  subst e1 e2
  have HR := Aside0.mk hr; have HL := Aside0.mk hl; have HD := Aside0.mk hd
  have P1 := Aside0.mk (polyB_of h1)
  clear hr hl hd
  go_enter Try.func17, Try.ntmps17
  go_wp2_with fail
  refine (pointCode_calls A c ps z1 z2 _ HR.out HL.out).mono ?_
  rintro e w1 ⟨rfl, n1, rfl⟩
  rw [h1, h2]
  clear h1 h2
  go_wp2_with fail
  refine (value_calls A c ps z1 z2 _ (Kd.C_drewN HR.out _) (by have := P1.out; omega) (by have := P1.out; omega) p HD.out).mono ?_
  rintro e w3 ⟨rfl, hb⟩
  have LB := Aside0.mk (show Below w.heap.size w w3 from (drawn_below n1).trans hb)
  clear hb
  go_wp2
  go_ret2
  exact ⟨rfl, LB.out⟩
end Go.Proofs.Ytdjkcpmoigemdaa
namespace Go.Proofs.Ytdjkcpmoigemdaa
open Go Ieee Go.RowKit Go.Proofs.Ytdjkcpmoigemdaa.Fl Go.Proofs.Ytdjkcpmoigemdaa.Fx Go.Proofs.Ytdjkcpmoigemdaa.P Go.Proofs.YtdjkcpmoigemdaaW.PrintWords Go.Proofs.YtdjkcpmoigemdaaW.PrintLast Go.Proofs.YtdjkcpmoigemdaaW.PrintMore
set_option linter.unusedVariables false
set_option linter.unusedSimpArgs false
attribute [local go_sem] run_add run_sub run_mul run_quo run_cadd run_csub run_neg run_cneg conv_f run_store_cx
theorem sumE_wo {s x y r : Nat × Nat} (h : sumE s x y = some r) : r.1 < 2 ^ 64 ∧ r.2 < 2 ^ 64 := by
 unfold sumE stp at h
 split at h
 ·rename_i a b h1 h2
  split at h
  ·cases h
   exact ⟨fop_lt h1, fop_lt h2⟩
  ·cases h
 ·cases h
theorem mulS_wo (xs ys : Cs) (n : Int) : ∀ (k : Nat) (i : Int) (s r : Nat × Nat), (s.1 < 2 ^ 64 ∧ s.2 < 2 ^ 64) → mulS xs ys n k i s = some r → r.1 < 2 ^ 64 ∧ r.2 < 2 ^ 64
 | 0, i, s, r, hs, h => by cases h; exact hs
 | k + 1, i, s, r, hs, h => by
  unfold mulS at h
  obtain ⟨z, h1, h2⟩ := Option.bind_eq_some_iff.1 h
  exact mulS_wo xs ys n k (i + 1) z r (sumE_wo h1) h2
theorem mulG_wo (xs ys : Cs) : ∀ (k : Nat) (n : Int) (zs : Cs), mulG xs ys k n = some zs → Wo zs
 | 0, n, zs, h => by cases h; intro p hp; cases hp
 | k + 1, n, zs, h => by
  unfold mulG at h
  obtain ⟨z, h1, h2⟩ := Option.bind_eq_some_iff.1 h
  obtain ⟨l, h3, rfl⟩ := Option.map_eq_some_iff.1 h2
  intro p hp
  rcases List.mem_cons.1 hp with rfl | hp
  ·exact mulS_wo _ _ _ _ _ _ _ ⟨by decide, by decide⟩ h1
  ·exact mulG_wo xs ys k (n + 1) l h3 p hp
theorem mulT_wo {xs ys zs : Cs} (h : mulT xs ys = some zs) : Wo zs ∧ zs.length ≤ xs.length + ys.length := by
 unfold mulT at h
 split at h
 ·cases h; exact ⟨(fun p hp => by cases hp), (by simp)⟩
 ·exact ⟨mulG_wo _ _ _ _ _ h, by have := mulG_len _ _ _ _ _ h; omega⟩
set_option maxRecDepth 100000 in
set_option maxHeartbeats 4000000 in
theorem drawDeflate_calls (w : World) (A0 : Option Addr) (c0 : Nat) (l : List Int) (h : Code8 w A0 c0 l) : Calls Try.prog 13 #[.slice A0 l.length c0] w fun e w' => ∃ A c xs z1 z2, e = .returned (.tuple #[.slice A xs.length c, .complex .f64 z1 z2]) ∧ Inp w' A c xs ∧ Below w.heap.size w w' := by
 go_enter Try.func13, Try.ntmps13
 go_wp2_with fail
 refine (from_calls w A0 c0 l h).mono ?_
 rintro e w1 ⟨g, rfl, hs⟩
 obtain ⟨w0, hw0⟩ : ∃ w0, w0 = w := ⟨w, rfl⟩
 rw [← hw0] at hs
 have HS := Aside0.mk hs
 clear hs h
 go_wp2_with fail
 refine (spoil4_calls w0 _ g HS.out.from_).mono ?_
 rintro e w_ ⟨A, c, xs, rfl, hm, hl1, hs⟩
 have HM := Aside0.mk hm
 replace HS := Aside0.mk (HS.out.trans hs)
 clear hm hl1 hs
 go_wp2_with fail
 refine (next_calls w0 _ g _ (HS.out).from_).mono ?_
 rintro e w_ ⟨r, rfl, hs, hr⟩
 replace HM := Aside0.mk (HM.out.keep hs.keep)
 replace HS := Aside0.mk ((HS.out).trans hs); clear hs
 clear hr
 by_cases k0 : r = 0
 case neg =>
  have d0 : (r == 0) = false := by simpa using k0
  clear k0
  go_wp2_with fail
  refine (spoil_calls w0 _ g (HS.out).from_).mono ?_
  rintro e w_ ⟨⟨v, rfl, a, b, rfl, ha, hb'⟩, hs⟩
  replace HM := Aside0.mk (HM.out.keep hs.keep)
  replace HS := Aside0.mk ((HS.out).trans hs); clear hs
  go_wp2
  go_ret2
  first | exact ⟨A, c, xs, a, b, rfl, HM.out.inp, by rw [hw0] at HS; exact HS.out.low⟩ | exact ⟨A, c, xs, ⟨a, b, rfl⟩, HM.out.inp, by rw [hw0] at HS; exact HS.out.low⟩
 have d0 : (r == 0) = true := by simpa using k0
 clear k0
 go_wp2_with fail
 refine (next_calls w0 _ g _ (HS.out).from_).mono ?_
 rintro e w_ ⟨q, rfl, hs, hr⟩
 replace HM := Aside0.mk (HM.out.keep hs.keep)
 replace HS := Aside0.mk ((HS.out).trans hs); clear hs
 have HQ := Aside0.mk (hr (by omega))
 have hw : wrap64 (1 + q) = 1 + q := by have := HQ.out; exact w64 (by omega) (by omega)
 clear hr
 go_wp2_with fail
 try simp only [hw]
 clear hw
 refine (roots_calls w0 _ g (1 + q) HS.out.from_ (by have := HQ.out; omega) (by have := HQ.out; omega)).mono ?_
 rintro e w2 ⟨v, us, rfl, hm, hl, hs⟩
 replace HM := Aside0.mk (HM.out.keep hs.keep)
 obtain ⟨A2, c2, rfl, hr2⟩ := hm.rdr (by have := HQ.out; omega)
 have HU := Aside0.mk hr2
 have HUL := Aside0.mk (show 1 ≤ (us.length : Int) ∧ (us.length : Int) ≤ 6 by have := HQ.out; omega)
 replace HS := Aside0.mk (HS.out.trans hs)
 clear hm hl hs hr2 HQ
 go_wp2_with fail
 refine (l04OfRoots_calls A2 c2 us _ HU.out.C (by have := HUL.out; omega)).mono ?_
 intro e w5 h
 obtain ⟨A3, c3, zs, rfl, hb5, hr5⟩ := ResO.rdr (g := g) h HS.out.lt (fun ts ht => ⟨rootsT_wo ht, by have := rootsT_len ht; have := HUL.out; omega⟩)
 clear h
 obtain ⟨b1, hb1⟩ : ∃ b, (rootsT us).isSome = b := ⟨_, rfl⟩
 rw [hb1]
 replace HM := Aside0.mk (HM.out.below hb5)
 replace HU := Aside0.mk (HU.out.below hb5)
 replace HS := Aside0.mk (HS.out.under hb5 HS.out.lt HS.out.keep.1)
 have HZ := Aside0.mk hr5
 clear hb5 hr5 hb1
 cases b1
 ·clear HU HUL HZ
  go_wp2_with fail
  refine (spoil_calls w0 _ g (HS.out).from_).mono ?_
  rintro e w_ ⟨⟨v, rfl, a, b, rfl, ha, hb'⟩, hs⟩
  replace HM := Aside0.mk (HM.out.keep hs.keep)
  replace HS := Aside0.mk ((HS.out).trans hs); clear hs
  go_wp2
  go_ret2
  first | exact ⟨A, c, xs, a, b, rfl, HM.out.inp, by rw [hw0] at HS; exact HS.out.low⟩ | exact ⟨A, c, xs, ⟨a, b, rfl⟩, HM.out.inp, by rw [hw0] at HS; exact HS.out.low⟩
 ·obtain ⟨M, hM⟩ : ∃ M : Int, (us.length : Int) = M := ⟨_, rfl⟩
  have HM2 := Aside0.mk (show (us.length : Int) = M ∧ 1 ≤ M ∧ M ≤ 6 by have := HUL.out; omega)
  clear HM
  go_wp2_with fail
  refine start_ (n := 10) (S := fun w' => True) (ds := [5, 7]) #[false, false, false, false, false, false, false, false, false, false] (by kernel_rfl) rfl rfl (trivial) (fun hHeld => ?_)
  have DW := Aside0.mk ((Below.refl w5.heap.size w5).drew)
  generalize w5.drew = W at hHeld DW ⊢
  refine pure_ (i := 0) (N := some 27) (v := ?_) (a' := ?_) #[true, false, false, false, false, false, false, false, false, false] rfl rfl (by kernel_rfl) (fun _ _ _ h => h) (Or.inl ⟨by rfl, ?_⟩) ?_ ?_
  rotate_left
  ·intro w'
   go_simp
   with_reducible rfl
  rotate_left
  ·simp only [Act.put, List.setIfInBounds_toArray, List.set_cons_zero, List.set_cons_succ, i64_w, i32_w]
   rfl
  refine pure_ (i := 1) (N := some 28) (v := ?_) (a' := ?_) #[true, true, false, false, false, false, false, false, false, false] rfl rfl (by kernel_rfl) (fun _ _ _ h => h) (Or.inl ⟨by rfl, ?_⟩) ?_ ?_
  rotate_left
  ·intro w'
   go_simp
   with_reducible rfl
  rotate_left
  ·simp only [Act.put, List.setIfInBounds_toArray, List.set_cons_zero, List.set_cons_succ, i64_w, i32_w]
   rfl
  refine pure_ (i := 2) (N := some 29) (v := ?_) (a' := ?_) #[true, true, true, false, false, false, false, false, false, false] rfl rfl (by kernel_rfl) (fun _ _ _ h => h) (Or.inl ⟨by rfl, ?_⟩) ?_ ?_
  rotate_left
  ·intro w'
   go_simp
   with_reducible rfl
  rotate_left
  ·simp only [Act.put, List.setIfInBounds_toArray, List.set_cons_zero, List.set_cons_succ, i64_w, i32_w]
   rfl
  refine pure_ (i := 3) (N := some 30) (v := ?_) (a' := ?_) #[true, true, true, true, false, false, false, false, false, false] rfl rfl (by kernel_rfl) (fun _ _ _ h => h) (Or.inl ⟨by rfl, ?_⟩) ?_ ?_
  rotate_left
  ·intro w'
   go_simp
   with_reducible rfl
  rotate_left
  ·simp only [Act.put, List.setIfInBounds_toArray, List.set_cons_zero, List.set_cons_succ, i64_w, i32_w]
   rfl
  refine pure_ (i := 4) (N := some 31) (v := ?_) (a' := ?_) #[true, true, true, true, true, false, false, false, false, false] rfl rfl (by kernel_rfl) (fun _ _ _ h => h) (Or.inl ⟨by rfl, ?_⟩) ?_ ?_
  rotate_left
  ·intro w'
   go_simp
   with_reducible rfl
  rotate_left
  ·simp only [Act.put, List.setIfInBounds_toArray, List.set_cons_zero, List.set_cons_succ, i64_w, i32_w]
   rfl
  refine last_ (i := 5) (N := some 32) #[true, true, true, true, true, true, false, false, false, false] rfl rfl (by kernel_rfl) (by decide) (fun K hK => ?_)
  have HSW := Aside0.mk (HS.out.under DW.out HS.out.lt HS.out.keep.1)
  have HZW := Aside0.mk (HZ.out.below DW.out)
  have HUW := Aside0.mk (HU.out.below DW.out)
  refine goes_ Try.func23 (by kernel_rfl) rfl #[.pointer (some ⟨g, 0, none⟩), .int .i64 M] (by rfl) rfl rfl (by simp only [List.map_toArray, List.map_cons, List.map_nil]; rfl) ?_
  with_reducible refine (next_calls w0 W g M HSW.out.from_).mono ?_
  rintro e w2 ⟨r9, rfl, hs, hr⟩
  refine ⟨_, rfl, ?_⟩
  have HR9 := Aside0.mk (hr HM2.out.2.1)
  have HZ2 := Aside0.mk (HZW.out.keep hs.keep)
  have HU2 := Aside0.mk (HUW.out.keep hs.keep)
  have HS2 := Aside0.mk (HSW.out.trans hs)
  obtain ⟨ad, e9, hx⟩ := cx_at HU2.out.C r9 HR9.out.1 (by have := HR9.out; have := HM2.out; omega)
  subst e9
  obtain ⟨⟨x1, x2⟩, hxx⟩ : ∃ z, rdOf (0, 0) us r9 = z := ⟨_, rfl⟩
  rw [hxx] at hx
  have q0 := eq_true HR9.out.1
  have q1 := eq_true HR9.out.2
  clear hs hr hxx
  refine hK.out _ _ ?_
  clear hK K
  refine norm_ (a' := ?_) ?_ ?_
  rotate_left
  ·show Act.put _ (some 32) _ = _
   simp only [Act.put, List.setIfInBounds_toArray, List.set_cons_zero, List.set_cons_succ, i64_w, i32_w]
   rfl
  refine pure_ (i := 6) (N := some 33) (v := ?_) (a' := ?_) #[true, true, true, true, true, true, true, false, false, false] rfl rfl (by kernel_rfl) (fun _ _ _ h => h) (Or.inl ⟨by rfl, ?_⟩) ?_ ?_
  rotate_left
  ·intro w'
   go_simp
   with_reducible rfl
  rotate_left
  ·simp only [Act.put, List.setIfInBounds_toArray, List.set_cons_zero, List.set_cons_succ, i64_w, i32_w]
   rfl
  refine pure_ (i := 8) (N := some 2) (v := ?_) (a' := ?_) #[true, true, true, true, true, true, true, false, true, false] rfl rfl (by kernel_rfl) (fun _ _ _ h => h) (Or.inl ⟨by rfl, ?_⟩) ?_ ?_
  rotate_left
  ·intro w'
   go_simp
   with_reducible rfl
  rotate_left
  ·simp only [Act.put, List.setIfInBounds_toArray, List.set_cons_zero, List.set_cons_succ, i64_w, i32_w]
   rfl
  refine last_ (i := 7) (N := some 34) #[true, true, true, true, true, true, true, true, true, false] rfl rfl (by kernel_rfl) (by decide) (fun K hK => ?_)
  refine value_ (w1 := ?_) (v := ?_) (by rfl) rfl ?_ ?_
  rotate_left 2
  ·go_simp
   constructor
   ·rfl
   ·rfl
  refine hK.out _ _ ?_
  clear hK K
  refine norm_ (a' := ?_) ?_ ?_
  rotate_left
  ·show Act.put _ (some 34) _ = _
   simp only [Act.put, List.setIfInBounds_toArray, List.set_cons_zero, List.set_cons_succ, i64_w, i32_w]
   rfl
  refine pure_ (i := 9) (N := some 3) (v := ?_) (a' := ?_) #[true, true, true, true, true, true, true, true, true, true] rfl rfl (by kernel_rfl) (fun _ _ _ h => h) (Or.inl ⟨by rfl, ?_⟩) ?_ ?_
  rotate_left
  ·intro w'
   go_simp
   with_reducible rfl
  rotate_left
  ·simp only [Act.put, List.setIfInBounds_toArray, List.set_cons_zero, List.set_cons_succ, i64_w, i32_w]
   rfl
  refine done_ (by kernel_rfl) ?_
  go_wp2
  go_ret2
  first | exact ⟨A3, c3, zs, x1, x2, rfl, HZ2.out.inp, by rw [hw0] at HS2; exact HS2.out.low⟩ | exact ⟨A3, c3, zs, ⟨x1, x2, rfl⟩, HZ2.out.inp, by rw [hw0] at HS2; exact HS2.out.low⟩
set_option maxRecDepth 100000 in
set_option maxHeartbeats 4000000 in
theorem drawDivide_calls (w : World) (A0 : Option Addr) (c0 : Nat) (l : List Int) (h : Code8 w A0 c0 l) : Calls Try.prog 18 #[.slice A0 l.length c0] w fun e w' => ∃ A c xs B d ys, e = .returned (.tuple #[.slice A xs.length c, .slice B ys.length d]) ∧ Inp w' A c xs ∧ Inp w' B d ys ∧ Below w.heap.size w w' := by
 go_enter Try.func18, Try.ntmps18
 go_wp2_with fail
 refine (from_calls w A0 c0 l h).mono ?_
 rintro e w1 ⟨g, rfl, hs⟩
 obtain ⟨w0, hw0⟩ : ∃ w0, w0 = w := ⟨w, rfl⟩
 rw [← hw0] at hs
 have HS := Aside0.mk hs
 clear hs h
 go_wp2_with fail
 refine (spoil4_calls w0 _ g HS.out.from_).mono ?_
 rintro e w_ ⟨A, c, xs, rfl, hm, hl1, hs⟩
 have HM := Aside0.mk hm
 replace HS := Aside0.mk (HS.out.trans hs)
 clear hm hl1 hs
 go_wp2_with fail
 refine (spoil4_calls w0 _ g HS.out.from_).mono ?_
 rintro e w_ ⟨B, d, ys, rfl, hm, hl1, hs⟩
 replace HM := Aside0.mk (HM.out.keep hs.keep)
 have HN := Aside0.mk hm
 replace HS := Aside0.mk (HS.out.trans hs)
 clear hm hl1 hs
 obtain ⟨N, hN⟩ : ∃ N : Int, (xs.length : Int) = N := ⟨_, rfl⟩
 obtain ⟨M, hM⟩ : ∃ M : Int, (ys.length : Int) = M := ⟨_, rfl⟩
 have HNM := Aside0.mk (show (xs.length : Int) = N ∧ (ys.length : Int) = M ∧ N ≤ 30 ∧ M ≤ 30 by have := HM.out.len; have := HN.out.len; omega)
 have hw : wrap64 (N + M) = N + M := by have := HNM.out; exact w64 (by omega) (by omega)
 cases h1 : polyB xs
 ·go_wp2_with fail
  refine (l04Is_calls A c xs _ HM.out.C (by have := HM.out.len; omega)).mono ?_
  rintro e w3 ⟨rfl, n1, rfl⟩
  rw [h1]
  have HN1 := Aside0.mk (HN.out.below (drawn_below n1))
  replace HM := Aside0.mk (HM.out.below (drawn_below n1))
  replace HN := Aside0.mk (HN.out.below (drawn_below n1))
  replace HS := Aside0.mk (HS.out.drewN n1)
  go_wp2
  go_ret2
  exact ⟨A, c, xs, B, d, ys, rfl, HM.out.inp, HN.out.inp, by rw [hw0] at HS; exact HS.out.low⟩
 cases h2 : polyB ys
 ·go_wp2_with fail
  refine (l04Is_calls A c xs _ HM.out.C (by have := HM.out.len; omega)).mono ?_
  rintro e w3 ⟨rfl, n1, rfl⟩
  rw [h1]
  have HN1 := Aside0.mk (HN.out.below (drawn_below n1))
  go_wp2_with fail
  refine (l04Is_calls B d ys _ HN1.out.C (by have := HN.out.len; omega)).mono ?_
  rintro e w3 ⟨rfl, n2, rfl⟩
  rw [h2]
  replace HM := Aside0.mk (HM.out.below (drawn_below (n1 + n2)))
  replace HN := Aside0.mk (HN.out.below (drawn_below (n1 + n2)))
  replace HS := Aside0.mk (HS.out.drewN (n1 + n2))
  go_wp2
  go_ret2
  exact ⟨A, c, xs, B, d, ys, rfl, HM.out.inp, HN.out.inp, by rw [hw0] at HS; exact HS.out.low⟩
 by_cases hs13 : N + M ≤ 13
 case neg =>
  have hd13 : decide (N + M ≤ 13) = false := decide_eq_false hs13
  clear hs13
  go_wp2_with fail
  refine (l04Is_calls A c xs _ HM.out.C (by have := HM.out.len; omega)).mono ?_
  rintro e w3 ⟨rfl, n1, rfl⟩
  rw [h1]
  have HN1 := Aside0.mk (HN.out.below (drawn_below n1))
  go_wp2_with fail
  refine (l04Is_calls B d ys _ HN1.out.C (by have := HN.out.len; omega)).mono ?_
  rintro e w3 ⟨rfl, n2, rfl⟩
  rw [h2]
  replace HM := Aside0.mk (HM.out.below (drawn_below (n1 + n2)))
  replace HN := Aside0.mk (HN.out.below (drawn_below (n1 + n2)))
  replace HS := Aside0.mk (HS.out.drewN (n1 + n2))
  go_wp2
  go_ret2
  exact ⟨A, c, xs, B, d, ys, rfl, HM.out.inp, HN.out.inp, by rw [hw0] at HS; exact HS.out.low⟩
 have hd13 : decide (N + M ≤ 13) = true := decide_eq_true hs13
 clear hs13
 go_wp2_with fail
 refine (l04Is_calls A c xs _ HM.out.C (by have := HM.out.len; omega)).mono ?_
 rintro e w3 ⟨rfl, n1, rfl⟩
 rw [h1]
 have HN1 := Aside0.mk (HN.out.below (drawn_below n1))
 go_wp2_with fail
 refine (l04Is_calls B d ys _ HN1.out.C (by have := HN.out.len; omega)).mono ?_
 rintro e w3 ⟨rfl, n2, rfl⟩
 rw [h2]
 replace HM := Aside0.mk (HM.out.below (drawn_below (n1 + n2)))
 replace HN := Aside0.mk (HN.out.below (drawn_below (n1 + n2)))
 replace HS := Aside0.mk (HS.out.drewN (n1 + n2))
 go_wp2_with fail
 refine (next_calls w0 _ g _ (HS.out).from_).mono ?_
 rintro e w_ ⟨r, rfl, hs, hr⟩
 replace HM := Aside0.mk (HM.out.keep hs.keep)
 replace HN := Aside0.mk (HN.out.keep hs.keep)
 replace HS := Aside0.mk ((HS.out).trans hs); clear hs
 clear hr h1 h2
 by_cases k0 : r = 0
 case neg =>
  have d0 : (r == 0) = false := by simpa using k0
  clear k0
  go_wp2
  go_ret2
  exact ⟨A, c, xs, B, d, ys, rfl, HM.out.inp, HN.out.inp, by rw [hw0] at HS; exact HS.out.low⟩
 have d0 : (r == 0) = true := by simpa using k0
 clear k0
 cases hm : mulT xs ys with
 | none =>
  go_wp2_with fail
  refine (l04Times_calls A B c d xs ys _ HM.out.C HN.out.C (by have := HM.out.len; omega) (by have := HN.out.len; omega)).mono ?_
  rw [hm]
  rintro e w4 ⟨G, cap, rfl, k1, k2, k3⟩
  replace HM := Aside0.mk (HM.out.below k3)
  replace HN := Aside0.mk (HN.out.below k3)
  replace HS := Aside0.mk (HS.out.under k3 HS.out.lt HS.out.keep.1)
  clear k1 k2 k3 hm
  go_wp2
  go_ret2
  exact ⟨A, c, xs, B, d, ys, rfl, HM.out.inp, HN.out.inp, by rw [hw0] at HS; exact HS.out.low⟩
 | some zs =>
  have HW := Aside0.mk (mulT_wo hm)
  go_wp2_with fail
  refine (l04Times_calls A B c d xs ys _ HM.out.C HN.out.C (by have := HM.out.len; omega) (by have := HN.out.len; omega)).mono ?_
  rw [hm]
  rintro e w4 ⟨G, cap, rfl, k1, k2, k3⟩
  have HZ := Aside0.mk (And.intro k1 k2)
  replace HN := Aside0.mk (HN.out.below k3)
  replace HS := Aside0.mk (HS.out.under k3 HS.out.lt HS.out.keep.1)
  have hle : zs.length ≤ 30 := by have := HW.out; have h9 := of_decide_eq_true hd13; have := HNM.out; omega
  have HLE := Aside0.mk hle
  clear k1 k2 k3 hm HM hle
  go_wp2
  go_ret2
  exact ⟨G, cap, zs, B, d, ys, rfl, ⟨HZ.out.1, HZ.out.2, HLE.out, HW.out.1⟩, HN.out.inp, by rw [hw0] at HS; exact HS.out.low⟩
end Go.Proofs.Ytdjkcpmoigemdaa
namespace Go.Proofs.Ytdjkcpmoigemdaa
open Go Ieee Go.RowKit Go.Proofs.Ytdjkcpmoigemdaa.Fl Go.Proofs.Ytdjkcpmoigemdaa.Fx Go.Proofs.Ytdjkcpmoigemdaa.P Go.Proofs.YtdjkcpmoigemdaaW.PrintWords Go.Proofs.YtdjkcpmoigemdaaW.PrintLast Go.Proofs.YtdjkcpmoigemdaaW.PrintMore
set_option linter.unusedVariables false
set_option linter.unusedSimpArgs false
structure Rts (ps : List ((Nat × Nat) × (Int × Int))) : Prop where
 v : ∀ q ∈ ps, GV q.1 q.2 ∧ nm q.2 ≤ 5
 lo : 1 ≤ ps.length
 hi : ps.length ≤ 3
theorem delta_off : Off 1 delta := fun i hi => by unfold delta; rw [if_neg (by omega)]
theorem delta_nm (i : Int) : nm (delta i) ≤ 1 := by unfold delta; split <;> decide
theorem delta_RF : RF [one_n] delta := fun i h0 h1 => by
 have e : i = 0 := by simp at h1; omega
 subst e
 exact GV_one
theorem pow6 {n : Nat} (h : n ≤ 3) : 6 ^ n ≤ 216 := Nat.le_trans (Nat.pow_le_pow_right (by omega) h) (by decide)
theorem roots_law {ps : List ((Nat × Nat) × (Int × Int))} (h : Rts ps) : ∃ f, rootsP (ps.map (·.1)) = (f, 0) ∧ f.length = ps.length + 1 ∧ RF f (rootF (ps.map (·.2)) delta) ∧ Off (ps.length + 1) (rootF (ps.map (·.2)) delta) ∧ rootF (ps.map (·.2)) delta (ps.length : Nat) = (1, 0) ∧ (∀ i, nm (rootF (ps.map (·.2)) delta i) ≤ 216) ∧ at_ f (ps.length : Nat) = one_n ∧ Wo f := by
 have hp := pow6 h.hi
 obtain ⟨f, e, l, r, o, t, n⟩ := ofR_V ps [one_n] delta 1 0 h.v delta_RF rfl delta_off rfl delta_nm (by omega)
 rw [Nat.zero_add] at l o t
 have hl : (ps.map (·.1)).length = ps.length := List.length_map _
 have hd : decide (1 ≤ (ps.map (·.1)).length ∧ (ps.map (·.1)).length ≤ 12) = true := decide_eq_true (by rw [hl]; have := h.lo; have := h.hi; omega)
 have hf : finL (ps.map (·.1)) = true := by
  unfold finL
  rw [List.all_eq_true]
  intro p hpm
  obtain ⟨q, hq, rfl⟩ := List.mem_map.1 hpm
  exact (h.v q hq).1.fin
 have hr : rootsT (ps.map (·.1)) = some f := e
 refine ⟨f, ?_, l, r, o, t, fun i => by have := n i; omega, ?_, rootsT_wo hr⟩
 ·rw [rootsP_of hd hf, hr]
 ·have := (ofR_len (ps.map (·.1)) [one_n] f 0 rfl rfl e).2
  rw [hl] at this
  exact this
theorem mul216 {a b : Nat} (ha : a ≤ 216) (hb : b ≤ 216) : a * b ≤ 46656 := Nat.mul_le_mul ha hb
theorem small_law {z0 : Nat × Nat} {d0 : Int × Int} {ps1 ps2 : List ((Nat × Nat) × (Int × Int))} (h1 : Rts ((z0, d0) :: ps1)) (h2 : Rts ps2) :
  ∃ f g both back q r, rootsP (((z0, d0) :: ps1).map (·.1)) = (f, 0) ∧ rootsP (ps2.map (·.1)) = (g, 0) ∧ mulP f g = (both, 0) ∧ divD both g = (back, [], 0) ∧ back.length = f.length ∧
   (∀ i : Int, 0 ≤ i → i < f.length → FloatKind.f64.format.order (rdOf (0, 0) back i).1 (rdOf (0, 0) f i).1 = some .eq ∧ FloatKind.f64.format.order (rdOf (0, 0) back i).2 (rdOf (0, 0) f i).2 = some .eq) ∧
   dflP both z0 = (q, r, 0) ∧ FloatKind.f64.format.order r.1 0 = some .eq ∧ FloatKind.f64.format.order r.2 0 = some .eq ∧ f.length ≤ 13 ∧ g.length ≤ 13 ∧ both.length ≤ 13 ∧ Wo g ∧ Wo both ∧ 1 ≤ f.length := by
 obtain ⟨f, ef, lf, rf, of_, tf, nf, af, wf⟩ := roots_law h1
 obtain ⟨g, eg, lg, rg, og, tg, ng, ag, wg⟩ := roots_law h2
 obtain ⟨n1, hn1⟩ : ∃ n1, ps1.length = n1 := ⟨_, rfl⟩
 obtain ⟨n2, hn2⟩ : ∃ n2, ps2.length = n2 := ⟨_, rfl⟩
 have a1 := h1.hi; have a2 := h2.hi; have a3 := h2.lo
 rw [List.length_cons, hn1] at lf of_ tf a1
 rw [hn2] at lg og tg ag a2 a3
 obtain ⟨u, hu⟩ : ∃ u, rootF (((z0, d0) :: ps1).map (·.2)) delta = u := ⟨_, rfl⟩
 obtain ⟨v, hv⟩ : ∃ v, rootF (ps2.map (·.2)) delta = v := ⟨_, rfl⟩
 rw [hu] at rf of_ tf nf
 rw [hv] at rg og tg ng
 have hC : ∀ i j, nm (u i) * nm (v j) ≤ 46656 := fun i j => mul216 (nf i) (ng j)
 -- the product
 obtain ⟨both, eb, lb, rb⟩ := mulG_V rf rg (by rw [lg]; exact og) hC (by rw [lf]; have : (n1 + 1 + 1 + 2) * 46656 ≤ 7 * 46656 := Nat.mul_le_mul_right _ (by omega); omega) (by omega) (by omega) (f.length + g.length - 1) 0 (by omega) (by omega)
 have lb2 : both.length = (n1 + 1 + n2) + 1 := by omega
 have rb2 : RF both (conv u v (n1 + 1 + 1)) := fun i x y => by have : GV (rdOf (0, 0) both i) (conv u v f.length (0 + i)) := rb i x y; rw [Int.zero_add, lf] at this; exact this
 have tb : conv u v (n1 + 1 + 1) (n1 + 1 + n2 : Nat) = (1, 0) := by
  rw [conv_succ, conv_high og (by omega), ga_zero', show ((n1 + 1 + n2 : Nat) : Int) - (n1 + 1 : Nat) = n2 by omega, tg, gm_one]
  exact tf
 have zb := rb2.last lb2 tb
 have em : mulP f g = (both, 0) := by
  unfold mulP
  rw [rf.part lf tf (by omega), rg.part lg tg (by omega), if_pos rfl, if_pos rfl, if_neg (by omega), if_neg (by omega), eb]
  show (trimL both, (0 : Int)) = (both, 0)
  rw [trimL_self zb]
 have pb := rb2.poly lb2 tb (by omega) (by omega)
 have pg := rg.poly lg tg (by omega) (by omega)
 -- the division
 obtain ⟨fs, rest, ed, lfs, rfs, lr, rr⟩ := divS_V (N := n1 + 1 + 1) (d := n2) (D := 7 * 46656) rg lg og tg ag
  (fun m j => by
   rcases Nat.lt_or_ge (n1 + 1 + 1) m with hm | hm
   ·exact .inr hm
   ·exact .inl (Nat.le_trans (conv_nm hC m j) (Nat.mul_le_mul_right _ (by omega))))
  (fun i j => by have := hC i j; omega) (fun i => by have := nf i; omega) (n1 + 1 + 1) both [] (Nat.le_refl _) (by omega) (fun j x y => rb2 j x (by omega))
 rw [List.append_nil] at ed
 have edp : divP both g = some (fs, rest) := by
  unfold divP
  rw [show both.length + 1 - g.length = n1 + 1 + 1 by omega]
  exact ed
 have ts : trimL fs = fs := trimL_self (rfs.last lfs tf)
 have tr : trimL rest = [] := trim_zeros (fun j x y => rr j x (by omega))
 have edd : divD both g = (fs, [], 0) := by
  rw [divD_c pb pg, edp]
  show (trimL fs, trimL rest, (0 : Int)) = _
  rw [ts, tr]
 -- the deflation
 have hz : GV z0 d0 ∧ nm d0 ≤ 5 := h1.v (z0, d0) List.mem_cons_self
 obtain ⟨w, hw⟩ : ∃ w, rootF (ps1.map (·.2)) delta = w := ⟨_, rfl⟩
 have euw : u = mlin d0 w := by rw [← hu, ← hw]; exact rootF_mlin d0 _ _
 have how : Off (n1 + 1) w ∧ ∀ i, nm (w i) ≤ 216 := by
  obtain ⟨o, e, l, r, o2, t, n⟩ := ofR_V ps1 [one_n] delta 1 0 (fun q hq => h1.v q (List.mem_cons_of_mem _ hq)) delta_RF rfl delta_off rfl delta_nm (by have := pow6 (show ps1.length ≤ 3 by omega); omega)
  rw [Nat.zero_add, hn1] at o2
  rw [← hw]
  refine ⟨o2, fun i => ?_⟩
  have := n i
  have := pow6 (show ps1.length ≤ 3 by omega)
  omega
 have ebw : ∀ j, conv u v (n1 + 1 + 1) j = mlin d0 (conv w v (n1 + 1)) j := fun j => by rw [euw]; exact conv_mlin d0 how.1 j
 have hCw : ∀ i j, nm (w i) * nm (v j) ≤ 46656 := fun i j => mul216 (how.2 i) (ng j)
 have rbw : RF both (mlin d0 (conv w v (n1 + 1))) := fun i x y => by have := rb2 i x y; rw [ebw] at this; exact this
 have hnow : GV (at_ both ((both.length : Int) - 1)) (conv w v (n1 + 1) (((n1 + 1 + n2 : Nat) : Int) - 1)) := by
  have := rbw (n1 + 1 + n2 : Nat) (by omega) (by omega)
  rw [show (both.length : Int) - 1 = (n1 + 1 + n2 : Nat) by omega]
  have e : mlin d0 (conv w v (n1 + 1)) (n1 + 1 + n2 : Nat) = conv w v (n1 + 1) (((n1 + 1 + n2 : Nat) : Int) - 1) := by
   show gs _ (gm (conv w v (n1 + 1) (n1 + 1 + n2 : Nat)) d0) = _
   rw [conv_high (u := w) og (k := n1 + 1) (j := ((n1 + 1 + n2 : Nat) : Int)) (by omega), gm_zero, gs_zero]
  rw [e] at this
  exact this
 obtain ⟨q, r, e6, h6⟩ := defS_V hz.1 rbw (conv_low og (by omega)) (fun i => by
  have b1 : nm (mlin d0 (conv w v (n1 + 1)) i) ≤ (n1 + 1) * 46656 + (n1 + 1) * 46656 * nm d0 := mlin_nm (d := d0) (fun j => conv_nm hCw (n1 + 1) j) i
  have b2 := conv_nm hCw (n1 + 1) i
  have b3 := hz.2
  have b4 : (n1 + 1) * 46656 ≤ 3 * 46656 := Nat.mul_le_mul_right _ (by omega)
  have b5 : (n1 + 1) * 46656 * nm d0 ≤ 3 * 46656 * 5 := Nat.mul_le_mul b4 b3
  have b6 : nm (conv w v (n1 + 1) i) * nm d0 ≤ 3 * 46656 * 5 := Nat.mul_le_mul (Nat.le_trans b2 b4) b3
  omega) (n1 + 1 + n2) (at_ both ((both.length : Int) - 1)) [] (by omega) hnow
 have edf : dflP both z0 = (q, r, 0) := by
  rw [dflP_c pb hz.1.fin]
  unfold defP
  rw [show both.length - 1 = n1 + 1 + n2 by omega, e6]
 have wb : Wo both := mulG_wo _ _ _ _ _ eb
 refine ⟨f, g, both, fs, q, r, ef, eg, em, edd, by omega, fun i x y => ?_, edf, V_eq h6.1 V_zero, V_eq h6.2 V_zero, by omega, by omega, by omega, wg, wb, by omega⟩
 have g1 := rfs i x (by omega)
 have g2 := rf i x y
 exact ⟨V_eq g1.1 g2.1, V_eq g1.2 g2.2⟩
end Go.Proofs.Ytdjkcpmoigemdaa
namespace Go.Proofs.Ytdjkcpmoigemdaa
open Go Ieee Go.RowKit Go.Proofs.Ytdjkcpmoigemdaa.Fl Go.Proofs.Ytdjkcpmoigemdaa.Fx Go.Proofs.Ytdjkcpmoigemdaa.P Go.Proofs.YtdjkcpmoigemdaaW.PrintWords Go.Proofs.YtdjkcpmoigemdaaW.PrintLast Go.Proofs.YtdjkcpmoigemdaaW.PrintMore
set_option linter.unusedVariables false
set_option linter.unusedSimpArgs false
def feq (x y : Nat) : Bool := FloatKind.f64.format.order x y == some .eq
def lawS (f g : Cs × Int) (h : Cs × Int) (a b c : Nat) : Bool := f.2 == 0 && (g.2 == 0 && (h.2 == 0 && (if feq b c && feq 0 0 then h.1.length == 3 else h.1.length == 2 && ((feq (at_ h.1 1).1 4607182418800017408 && feq (at_ h.1 1).2 0) && (feq (at_ h.1 0).1 (Op.negFloat .f64 a) && feq (at_ h.1 0).2 (Op.negFloat .f64 0))))))
def lawA (a b c : Nat) : Bool :=
 (fun f g => lawS f g (comP f.1 g.1 0) a b c) (rootsP [(a, 0), (b, 0)]) (rootsP [(a, 0), (c, 0)])
set_option maxRecDepth 100000 in
theorem lawA_all : ([-2, -1, 0, 1, 2] : List Int).all (fun a => ([-2, -1, 0, 1, 2] : List Int).all fun b => ([-2, -1, 0, 1, 2] : List Int).all fun c => lawA (floatOfInt .f64 a) (floatOfInt .f64 b) (floatOfInt .f64 c)) = true := by kernel_rfl
theorem lawA_at {a b c : Int} (ha : -2 ≤ a ∧ a ≤ 2) (hb : -2 ≤ b ∧ b ≤ 2) (hc : -2 ≤ c ∧ c ≤ 2) : lawA (floatOfInt .f64 a) (floatOfInt .f64 b) (floatOfInt .f64 c) = true := by
 have mem : ∀ x : Int, -2 ≤ x → x ≤ 2 → x ∈ ([-2, -1, 0, 1, 2] : List Int) := by
  intro x h0 h1
  simp only [List.mem_cons, List.not_mem_nil, or_false]
  omega
 exact List.all_eq_true.1 (List.all_eq_true.1 (List.all_eq_true.1 lawA_all a (mem a ha.1 ha.2)) b (mem b hb.1 hb.2)) c (mem c hc.1 hc.2)
end Go.Proofs.Ytdjkcpmoigemdaa
namespace Go.Proofs.Ytdjkcpmoigemdaa
open Go Ieee Go.RowKit Go.Proofs.Ytdjkcpmoigemdaa.Fl Go.Proofs.Ytdjkcpmoigemdaa.Fx Go.Proofs.Ytdjkcpmoigemdaa.P Go.Proofs.YtdjkcpmoigemdaaW.PrintWords Go.Proofs.YtdjkcpmoigemdaaW.PrintLast Go.Proofs.YtdjkcpmoigemdaaW.PrintMore
set_option linter.unusedVariables false
set_option linter.unusedSimpArgs false
def Dice (w0 w : World) (g : Nat) : Prop := ∃ (l : List Int) (a h : Int), IsS65 w0 w g l a h ∧ 0 ≤ a ∧ l.length ≤ 140737488351232 ∧ (∀ x ∈ l, 0 ≤ x ∧ x < 256) ∧ Below w0.heap.size w0 w
theorem Dice.below {w0 w w1 : World} {g : Nat} (h : Dice w0 w g) (hb : Below w.heap.size w w1) : Dice w0 w1 g := by
 obtain ⟨l, a, k, h1, h2, h3, h4, h5⟩ := h
 exact ⟨l, a, k, h1.below hb, h2, h3, h4, h5.trans (hb.mono h5.size)⟩
theorem Dice.low {w0 w : World} {g : Nat} (h : Dice w0 w g) : Below w0.heap.size w0 w := by
 obtain ⟨l, a, k, h1, h2, h3, h4, h5⟩ := h
 exact h5
theorem below_key (hx : ∀ X, 0 ≤ bits .and .u64 (IntKind.u64.wrap X / 8589934592) 16777215 ∧ bits .and .u64 (IntKind.u64.wrap X / 8589934592) 16777215 < 16777216) (a : Int) (l : List Int) (k n : Int) (ha : 0 ≤ a) (hl : l.length ≤ 140737488351232) (hb : ∀ x ∈ l, 0 ≤ x ∧ x < 256) :
  ∃ r1 r2 r3, laws_dice_below.f l a k n = some (r1, r2, r3) ∧ 0 ≤ r2 ∧ (1 ≤ n → 0 ≤ r1 ∧ r1 < n) := by
 unfold laws_dice_below.f
 by_cases h1 : n < 1
 ·rw [if_pos h1]
  exact ⟨_, _, _, rfl, ha, fun h => by omega⟩
 ·rw [if_neg h1]
  have hX := hx (IntKind.u64.wrap (k * 6364136223846793005) + 1442695040888963407)
  generalize bits .and .u64 (IntKind.u64.wrap (IntKind.u64.wrap (k * 6364136223846793005) + 1442695040888963407) / 8589934592) 16777215 = X at hX
  have hr := rd_byte hb a
  have e1 : wrap64 X = X := w64 (by omega) (by omega)
  by_cases h2 : a < (l.length : Int)
  ·rw [if_pos h2, if_pos ha, if_neg (by omega)]
   have e2 : wrap64 (rd l a) = rd l a := w64 (by omega) (by omega)
   have e3 : wrap64 (X + rd l a) = X + rd l a := w64 (by omega) (by omega)
   rw [e1, e2, e3]
   refine ⟨_, _, _, rfl, ?_, fun h => tmod_range (by omega) h⟩
   rw [w64 (by omega) (by omega)]
   omega
  ·rw [if_neg h2, if_neg (by omega), e1]
   exact ⟨_, _, _, rfl, ha, fun h => tmod_range (by omega) h⟩
theorem below_calls (w0 w : World) (g : Nat) (n : Int) (h : Dice w0 w g) (hn : 1 ≤ n) : Calls Try.prog 11 #[.pointer (some ⟨g, 0, none⟩), .int .i64 n] w fun e w' => ∃ r, e = .returned (.int .i64 r) ∧ Dice w0 w' g ∧ 0 ≤ r ∧ r < n ∧ KeepBut w w' g none := by
 obtain ⟨l, a, k, hs, ha, hl, hb, hB⟩ := h
 obtain ⟨r1, r2, r3, hf, h2, h3⟩ := below_key mask_all a l k n ha hl hb
 refine (laws_dice_below.calls g l a k n r1 r2 r3 w0 w hs hB hf).mono ?_
 rintro e w' ⟨rfl, hs', hB', hk⟩
 exact ⟨r1, rfl, ⟨l, r2, r3, hs', h2, hl, hb, hB'⟩, (h3 hn).1, (h3 hn).2, hk⟩
theorem roll_ev (l : List Int) (hl : l.length ≤ 140737488351232) (d : Nat) : ∀ (k i : Nat) (h : Int), l.length - i = d → d < k → i ≤ l.length → ∃ r3, laws_roll.l0 k l (i : Int) l 0 h = some (l, 0, r3) := by
 induction d with
 | zero =>
  intro k i h h1 h2 h3
  obtain ⟨k, rfl⟩ : ∃ k', k = k' + 1 := ⟨k - 1, by omega⟩
  simp only [laws_roll.l0]
  rw [if_neg (by omega)]
  exact ⟨_, rfl⟩
 | succ d ih =>
  intro k i h h1 h2 h3
  obtain ⟨k, rfl⟩ : ∃ k', k = k' + 1 := ⟨k - 1, by omega⟩
  simp only [laws_roll.l0]
  rw [if_pos (by omega), if_pos (Int.natCast_nonneg _), show wrap64 ((i : Int) + 1) = ((i + 1 : Nat) : Int) from by rw [w64 (by omega) (by omega)]; omega]
  exact ih k (i + 1) _ (by omega) (by omega) (by omega)
theorem roll_calls (w : World) (A : Option Addr) (c : Nat) (l : List Int) (s : Int) (h : Code8 w A c l) : Calls Try.prog 10 #[.slice A l.length c, .int .u64 s] w fun e w' => ∃ g, e = .returned (.pointer (some ⟨g, 0, none⟩)) ∧ Dice w w' g := by
 obtain ⟨r3, hf⟩ := roll_ev l h.n l.length (l.length + 1) 0 (IntKind.u64.wrap ((IntKind.u64.wrap (s * 6257)) + (IntKind.u64.wrap ((l.length : Int))))) (by omega) (by omega) (by omega)
 refine (laws_roll.calls (l.length + 1) A c l s l 0 r3 w h.r h.c hf).mono ?_
 rintro e w' ⟨g, rfl, hs, hB, -⟩
 exact ⟨g, rfl, l, 0, r3, hs, Int.le_refl _, h.n, h.b, hB⟩
end Go.Proofs.Ytdjkcpmoigemdaa
namespace Go.Proofs.Ytdjkcpmoigemdaa
open Go Ieee Go.RowKit Go.Proofs.Ytdjkcpmoigemdaa.Fl Go.Proofs.Ytdjkcpmoigemdaa.Fx Go.Proofs.Ytdjkcpmoigemdaa.P Go.Proofs.YtdjkcpmoigemdaaW.PrintWords Go.Proofs.YtdjkcpmoigemdaaW.PrintLast Go.Proofs.YtdjkcpmoigemdaaW.PrintMore
set_option linter.unusedVariables false
set_option linter.unusedSimpArgs false
attribute [local go_sem] run_add run_sub run_mul run_quo run_cadd run_csub run_neg run_cneg conv_f run_store_cx
theorem Res.elim {w w' : World} {zs : Cs} {k : Int} {e : Ending} (h : Res w (zs, k) e w') : ∃ (B : Option Addr) (d : Nat), e = .returned (.tuple #[.slice B zs.length d, .int .i64 k]) ∧ cxk.C w' B zs.length zs ∧ zs.length ≤ d ∧ Below w.heap.size w w' := h
theorem Rs3.elim {w w' : World} {zs : Cs} {r : Nat × Nat} {k : Int} {e : Ending} (h : Rs3 w (zs, r, k) e w') : ∃ (B : Option Addr) (d : Nat), e = .returned (.tuple #[.slice B zs.length d, .complex .f64 r.1 r.2, .int .i64 k]) ∧ cxk.C w' B zs.length zs ∧ zs.length ≤ d ∧ Below w.heap.size w w' := h
theorem RsD.elim {w w' : World} {a b : Cs} {k : Int} {e : Ending} (h : RsD w (a, b, k) e w') : ∃ (A : Option Addr) (c : Nat) (B : Option Addr) (d : Nat), e = .returned (.tuple #[.slice A a.length c, .slice B b.length d, .int .i64 k]) ∧ cxk.C w' A a.length a ∧ a.length ≤ c ∧ cxk.C w' B b.length b ∧ b.length ≤ d ∧ Below w.heap.size w w' := h
theorem divD_len {p q a b : Cs} (h : divD p q = (a, b, 0)) : b.length < q.length := by
 cases h1 : polyB p
 ·rw [divD_a h1] at h; simp at h
 cases h2 : polyB q
 ·rw [divD_b h1 h2] at h; simp at h
 rw [divD_c h1 h2] at h
 cases hd : divP p q with
 | none => rw [hd] at h; simp at h
 | some r =>
  rw [hd] at h
  simp only [Prod.mk.injEq, and_true] at h
  rw [← h.2]
  have h3 := divP_len hd (by have := polyB_of h2; omega)
  have h4 : (trimL r.2).length ≤ r.2.length := by rw [trimL_len]; exact trimN_le _ _
  omega
theorem V_int {n : Int} (h : n.natAbs < 2 ^ 53) : V (floatOfInt .f64 n) n := by
 have hv := V_nearest (s := decide (n < 0)) h (fun _ => rfl)
 exact ⟨foi_lt n, hv.1, hv.2⟩
theorem Dice.grown {w0 w w1 : World} {g : Nat} {row : Option Nat} (h : Dice w0 w g) (hg : w.grownBy w1 row) (hne : some g ≠ row) (hb : Below w0.heap.size w0 w1) : Dice w0 w1 g := by
 obtain ⟨l, a, k, h1, h2, h3, h4, h5⟩ := h
 exact ⟨l, a, k, h1.grown hg hne, h2, h3, h4, hb⟩
theorem Dice.lt {w0 w : World} {g : Nat} (h : Dice w0 w g) : g < w.heap.size := by
 obtain ⟨l, a, k, h1, h2, h3, h4, h5⟩ := h
 exact h1.lt
structure Drn (w0 w' : World) (ok : Nat → Prop) (v : Value) (ps : List ((Nat × Nat) × (Int × Int))) : Prop where
 row : cxk.R 34 w' w0.heap.size ok v (ps.map (·.1))
 v : ∀ q ∈ ps, GV q.1 q.2 ∧ nm q.2 ≤ 5
theorem Drn.snoc {w0 w' : World} {ok' : Nat → Prop} {v1 : Value} {ps : List ((Nat × Nat) × (Int × Int))} (h : ∀ q ∈ ps, GV q.1 q.2 ∧ nm q.2 ≤ 5) {a b : Nat} {x y : Int} (ha : V a x) (hb : V b y) (hn : nm (x, y) ≤ 5) (hr : cxk.R 34 w' w0.heap.size ok' v1 (ps.map (·.1) ++ [(a, b)])) : Drn w0 w' ok' v1 (ps ++ [((a, b), (x, y))]) := by
 refine ⟨by rw [List.map_append]; exact hr, fun q hq => ?_⟩
 rcases List.mem_append.1 hq with hq | hq
 ·exact h q hq
 ·rw [List.mem_singleton.1 hq]; exact ⟨⟨ha, hb⟩, hn⟩
set_option maxRecDepth 100000 in
set_option maxHeartbeats 16000000 in
theorem FnDivision_calls (w : World) (A : Option Addr) (c : Nat) (l : List Int) (h : Code8 w A c l) : Calls Try.prog 4 #[.slice A l.length c] w fun e w' => e = .returned (.bool true) ∧ Below w.heap.size w w' := by
 cases hbig : decide ((l.length : Int) > 4096)
 case true =>
  go_enter Try.func4, Try.ntmps4
  go_wp2_with fail
  refine (laws_big.calls A c l true w h.r h.c (by unfold laws_big.f; rw [hbig])).mono ?_
  rintro e w1 ⟨rfl, hd⟩
  have hb := hd.below
  clear hd
  go_wp2
  go_ret
  exact ⟨rfl, hb⟩
 case false =>
  go_enter Try.func4, Try.ntmps4
  go_wp2_with fail
  refine (laws_big.calls A c l false w h.r h.c (by unfold laws_big.f; rw [hbig])).mono ?_
  rintro e w1 ⟨rfl, hd⟩
  have L := Aside0.mk (hd.below)
  clear hd hbig
  have HC := Aside0.mk h; clear h
  go_wp2_with fail
  refine (drawDeflate_calls _ A c l (HC.out.below L.out)).mono ?_
  rintro e w_ ⟨A1, c1, xs, z1, z2, rfl, hi, k3⟩
  replace L := Aside0.mk (L.out.trans (k3.mono L.out.size))
  have I1 := Aside0.mk hi
  clear hi k3
  obtain ⟨zs, ⟨r1, r2⟩, k, hp⟩ : ∃ u v t, dflP xs (z1, z2) = (u, v, t) := ⟨_, _, _, rfl⟩
  have HP := Aside0.mk hp
  have hne : (k != k) = false := by simp
  clear hp
  go_wp2_with fail
  refine (DeflateBy_calls A1 c1 xs z1 z2 _ I1.out.C (by have := I1.out.len; omega)).mono ?_
  rw [HP.out]
  intro e w_ h
  obtain ⟨G1, d1, rfl, k1, k2, k3⟩ := Rs3.elim h
  clear h
  replace I1 := Aside0.mk (I1.out.below k3)
  replace L := Aside0.mk (L.out.trans (k3.mono L.out.size))
  have Z1 := Aside0.mk k1
  clear k1 k2 k3
  go_wp2_with fail
  refine (specDeflateBy_calls A1 c1 xs z1 z2 _ I1.out.C (by have := I1.out.len; omega)).mono ?_
  rw [HP.out]
  intro e w_ h
  obtain ⟨G2, d2, rfl, k1, k2, k3⟩ := Rs3.elim h
  clear h
  replace I1 := Aside0.mk (I1.out.below k3)
  replace Z1 := Aside0.mk (Kd.C_below Z1.out k3)
  replace L := Aside0.mk (L.out.trans (k3.mono L.out.size))
  have Z2 := Aside0.mk k1
  clear k1 k2 k3
  go_wp2_with fail
  refine (list5_self G1 G2 d1 d2 zs _ Z1.out Z2.out).mono ?_
  rintro e w_ ⟨rfl, k3⟩
  replace I1 := Aside0.mk (I1.out.below k3)
  replace L := Aside0.mk (L.out.trans (k3.mono L.out.size))
  clear k3
  go_wp2_with fail
  refine (same5_self r1 r2 _).mono ?_
  rintro e w_ ⟨rfl, n1, rfl⟩
  replace I1 := Aside0.mk (I1.out.below (drawn_below n1))
  replace L := Aside0.mk (pw_below_drewN L.out n1)
  go_upto_if 76 with (fail)
  clear Z1 Z2 hne
  go_cut [] (fun wc => Aside0 (Below w.heap.size w wc))
  case first => as_aux_lemma =>
   by_cases h0 : k = 0
   ·have e0 : (k == 0) = true := by simpa using h0
    have e1 : ((0 : Int) != 0) = false := rfl
    subst h0
    go_wp2_with fail
    refine (ValueOf_calls A1 c1 xs z1 z2 _ I1.out.C (by have := I1.out.len; omega) zs (r1, r2) HP.out).mono ?_
    rintro e w_ ⟨rfl, k3⟩
    replace L := Aside0.mk (L.out.trans (k3.mono L.out.size))
    clear k3
    go_wp2_with fail
    refine (same5_self r1 r2 _).mono ?_
    rintro e w_ ⟨rfl, n2, rfl⟩
    replace L := Aside0.mk (pw_below_drewN L.out n2)
    go_wp2
    go_meet
    case rel => exact ⟨by repeat (first | exact L.out | refine pw_below_drewN ?_ _)⟩
   ·have e0 : (k == 0) = false := by simpa using h0
    clear h0
    go_wp2
    go_meet
    case rel => exact ⟨by repeat (first | exact L.out | refine pw_below_drewN ?_ _)⟩
  case rest =>
  clear L HP I1
  have L := Aside0.mk hcut.out
  clear hcut
  go_wp2_with fail
  refine (drawDivide_calls _ A c l (HC.out.below L.out)).mono ?_
  rintro e w_ ⟨A1, c1, xs, A2, c2, ys, rfl, hi, hi2, k3⟩
  replace L := Aside0.mk (L.out.trans (k3.mono L.out.size))
  have I1 := Aside0.mk hi
  have I2 := Aside0.mk hi2
  clear hi hi2 k3
  obtain ⟨zs, us, k, hp⟩ : ∃ u v t, divD xs ys = (u, v, t) := ⟨_, _, _, rfl⟩
  have HP := Aside0.mk hp
  have hne : (k != k) = false := by simp
  obtain ⟨N, hN⟩ : ∃ N : Int, (us.length : Int) = N := ⟨_, rfl⟩
  obtain ⟨M, hM⟩ : ∃ M : Int, (ys.length : Int) = M := ⟨_, rfl⟩
  have HNM := Aside0.mk (And.intro hN hM)
  clear hp
  go_wp2_with fail
  refine (DividePolynomial_calls A1 A2 c1 c2 xs ys _ I1.out.C I2.out.C (by have := I1.out.len; omega) (by have := I2.out.len; omega) I2.out.cap I1.out.words I2.out.words).mono ?_
  rw [HP.out]
  intro e w_ h
  obtain ⟨G1, d1, G2, d2, rfl, k1, k2, k4, k5, k3⟩ := RsD.elim h
  clear h
  replace I1 := Aside0.mk (I1.out.below k3)
  replace I2 := Aside0.mk (I2.out.below k3)
  replace L := Aside0.mk (L.out.trans (k3.mono L.out.size))
  have Z1 := Aside0.mk k1
  have Z2 := Aside0.mk k4
  clear k1 k2 k3 k4 k5
  go_wp2_with fail
  refine (specDividePolynomial_calls A1 A2 c1 c2 xs ys _ I1.out.C I2.out.C (by have := I1.out.len; omega) (by have := I2.out.len; omega) I2.out.cap I1.out.words I2.out.words).mono ?_
  rw [HP.out]
  intro e w_ h
  obtain ⟨G3, d3, G4, d4, rfl, k1, k2, k4, k5, k3⟩ := RsD.elim h
  clear h
  replace I1 := Aside0.mk (I1.out.below k3)
  replace I2 := Aside0.mk (I2.out.below k3)
  replace Z1 := Aside0.mk (Kd.C_below Z1.out k3)
  replace Z2 := Aside0.mk (Kd.C_below Z2.out k3)
  replace L := Aside0.mk (L.out.trans (k3.mono L.out.size))
  have Z3 := Aside0.mk k1
  have Z4 := Aside0.mk k4
  clear k1 k2 k3 k4 k5
  go_upto_region 15 with fail
  go_cut [135] (fun v135 wc => v135 = .bool false ∧ Aside0 (Below w.heap.size w wc))
  case first => as_aux_lemma =>
   by_cases h0 : k = 0
   ·have e0 : (k == 0) = true := by simpa using h0
    have hge : decide (N ≥ M) = false := decide_eq_false (by have h1 := HP.out; rw [h0] at h1; have := divD_len h1; omega)
    clear h0
    go_wp2_with fail
    refine (list5_self G1 G3 d1 d3 zs _ Z1.out Z3.out).mono ?_
    rintro e w_ ⟨rfl, k3⟩
    replace Z2 := Aside0.mk (Kd.C_below Z2.out k3)
    replace Z4 := Aside0.mk (Kd.C_below Z4.out k3)
    replace L := Aside0.mk (L.out.trans (k3.mono L.out.size))
    clear k3
    go_wp2_with fail
    refine (list5_self G2 G4 d2 d4 us _ Z2.out Z4.out).mono ?_
    rintro e w_ ⟨rfl, k3⟩
    replace L := Aside0.mk (L.out.trans (k3.mono L.out.size))
    clear k3
    go_wp2
    go_meet
    case rel => exact ⟨rfl, ⟨by repeat (first | exact L.out | refine pw_below_drewN ?_ _)⟩⟩
   ·have e0 : (k == 0) = false := by simpa using h0
    clear h0
    go_wp2_with fail
    refine (list5_self G1 G3 d1 d3 zs _ Z1.out Z3.out).mono ?_
    rintro e w_ ⟨rfl, k3⟩
    replace Z2 := Aside0.mk (Kd.C_below Z2.out k3)
    replace Z4 := Aside0.mk (Kd.C_below Z4.out k3)
    replace L := Aside0.mk (L.out.trans (k3.mono L.out.size))
    clear k3
    go_wp2_with fail
    refine (list5_self G2 G4 d2 d4 us _ Z2.out Z4.out).mono ?_
    rintro e w_ ⟨rfl, k3⟩
    replace L := Aside0.mk (L.out.trans (k3.mono L.out.size))
    clear k3
    go_wp2
    go_meet
    case rel => exact ⟨rfl, ⟨by repeat (first | exact L.out | refine pw_below_drewN ?_ _)⟩⟩
  case rest =>
  clear L HP I1 I2 Z1 Z2 Z3 Z4 hne
  obtain ⟨rfl, L⟩ := hcut
  go_wp2_with fail
  refine (roll_calls _ A c l 921 (HC.out.below L.out)).mono ?_
  rintro e w2 ⟨gd, rfl, hd⟩
  obtain ⟨w0, hw0⟩ : ∃ w0, w0 = wc := ⟨_, rfl⟩
  rw [← hw0] at hd L
  have hlt := hd.lt
  obtain ⟨b2, hb2⟩ : ∃ b2, (w2.alloc (.cells #[] 34)).heap.size = b2 := ⟨_, rfl⟩
  have hsz : (w2.alloc (.cells #[] 34)).heap.size = w2.heap.size + 1 := by simp
  have DI := Aside0.mk ((hd.below (below_alloc (Below.refl _ _) (.cells #[] 34))).below (below_alloc (Below.refl _ _) (.cells #[] 34)))
  have HG := Aside0.mk (show gd < w2.heap.size ∧ gd < b2 ∧ w2.heap.size < b2 ∧ w0.heap.size ≤ w2.heap.size from ⟨hlt, by omega, by omega, hd.low.size⟩)
  have HM := Aside0.mk (show Drn w0 ((w2.alloc (.cells #[] 34)).alloc (.cells #[] 34)) (fun b => b ≠ gd ∧ b ≠ b2) (.slice (some ⟨w2.heap.size, 0, none⟩) 0 0) [] from
   ⟨Kd.R_alloc (cx_empty w2 _ _ hd.low.size ⟨by omega, by omega⟩) _, fun q hq => by cases hq⟩)
  have HE := Aside0.mk (show cxk.R 34 ((w2.alloc (.cells #[] 34)).alloc (.cells #[] 34)) w0.heap.size (fun b => b = b2) (.slice (some ⟨b2, 0, none⟩) 0 0) [] by
   have := cx_empty (w2.alloc (.cells #[] 34)) w0.heap.size (fun b => b = b2) (by have := hd.low.size; omega) hb2
   rw [hb2] at this
   exact this)
  have HB2 := Aside0.mk (show b2 < ((w2.alloc (.cells #[] 34)).alloc (.cells #[] 34)).heap.size by rw [← hb2]; simp)
  have hb2' : w2.heap.size + 1 = b2 := by omega
  clear hd hw0 hlt hsz hb2
  go_wp2_with fail
  try simp only [hb2']
  refine (below_calls w0 _ gd 3 DI.out (by omega)).mono ?_
  rintro e w3 ⟨K, rfl, hd, h0, h1, hk⟩
  replace DI := Aside0.mk hd
  replace HM := Aside0.mk (Drn.mk (Kd.R_keep HM.out.row hk (fun k h => h.1)) HM.out.v)
  replace HE := Aside0.mk (Kd.R_keep HE.out hk (fun k h => by have := HG.out; omega))
  replace HB2 := Aside0.mk (Nat.lt_of_lt_of_le HB2.out hk.1)
  have HK := Aside0.mk (show 0 ≤ K ∧ K ≤ 2 by omega)
  clear hd h0 h1 hk
  go_wp2_with fail
  go_loopg [22, 24] (K + 1).toNat (fun q v u w' => ∃ (ps : List ((Nat × Nat) × (Int × Int))) (j : Int), u = .int .i64 j ∧ Aside0 (Drn w0 w' (fun b => b ≠ gd ∧ b ≠ b2) v ps ∧ Dice w0 w' gd ∧ cxk.R 34 w' w0.heap.size (fun b => b = b2) (.slice (some ⟨b2, 0, none⟩) 0 0) [] ∧ b2 < w'.heap.size ∧ (q : Int) = j + 1 ∧ (ps.length : Int) + q = K + 1))
  case atStart => exact ⟨[], K, rfl, ⟨HM.out, DI.out, HE.out, HB2.out, by have := HK.out; omega, by have := HK.out; simp; omega⟩⟩
  case round =>
   clear HM DI HE HB2
   obtain ⟨ps, j, rfl, hj⟩ := hrel
   have HM := Aside0.mk hj.out.1; have DI := Aside0.mk hj.out.2.1; have HE := Aside0.mk hj.out.2.2.1; have HB2 := Aside0.mk hj.out.2.2.2.1; have HJ := Aside0.mk hj.out.2.2.2.2; clear hj
   cases gk with
   | succ q =>
    have hl' : decide (j ≥ 0) = true := decide_eq_true (by have := HJ.out; omega)
    go_wp2_with fail
    refine (below_calls w0 _ gd 7 DI.out (by omega)).mono ?_
    rintro e w4 ⟨ra, rfl, hd, h0, h1, hk⟩
    replace HM := Aside0.mk (Drn.mk (Kd.R_keep HM.out.row hk (fun k h => h.1)) HM.out.v)
    replace HE := Aside0.mk (Kd.R_keep HE.out hk (fun k h => by have := HG.out; omega))
    replace HB2 := Aside0.mk (Nat.lt_of_lt_of_le HB2.out hk.1)
    replace DI := Aside0.mk hd
    obtain ⟨a, ha⟩ : ∃ a, ra - 3 = a := ⟨_, rfl⟩
    have ea : wrap64 (ra - 3) = a := by rw [← ha]; exact w64 (by omega) (by omega)
    have RA := Aside0.mk (show -3 ≤ a ∧ a ≤ 3 by omega)
    clear hd h0 h1 hk ha
    go_wp2_with fail
    try simp only [ea]
    clear ea
    refine (below_calls w0 _ gd 5 DI.out (by omega)).mono ?_
    rintro e w5 ⟨rb, rfl, hd, h0, h1, hk⟩
    replace HM := Aside0.mk (Drn.mk (Kd.R_keep HM.out.row hk (fun k h => h.1)) HM.out.v)
    replace HE := Aside0.mk (Kd.R_keep HE.out hk (fun k h => by have := HG.out; omega))
    replace HB2 := Aside0.mk (Nat.lt_of_lt_of_le HB2.out hk.1)
    replace DI := Aside0.mk hd
    obtain ⟨b, hb⟩ : ∃ b, rb - 2 = b := ⟨_, rfl⟩
    have eb : wrap64 (rb - 2) = b := by rw [← hb]; exact w64 (by omega) (by omega)
    have RB := Aside0.mk (show -2 ≤ b ∧ b ≤ 2 by omega)
    clear hd h0 h1 hk hb
    go_wp2_with (first | ((with_reducible refine gate_builtin (b := .append) (xs := #[.tmp 146, .tmp 156]) rfl ?_); at_builtin; refine Kd.R_append cxk (w0 := w0) w0.heap.size rfl (.tmp 146) (.tmp 156) 24 34 (.complex .f64 0 0) 16 rfl Try.underlying24 info_cx rfl (by decide) (by omega) _ (ps.map (·.1)) (floatOfInt .f64 a, floatOfInt .f64 b) [.complex .f64 _ _] (fun b => b ≠ gd ∧ b ≠ b2) (fun _ => False) rfl rfl ?aP (fun _ hk => hk.elim) ?aF ?aO ?aB ?aS ?aL ?_; (case aP => exact rfl); (case aF => exact (fun k hk => by have := DI.out.lt; have := HB2.out; exact ⟨by omega, by omega⟩)); (case aB => repeat (first | exact DI.out.low | (with_reducible refine pw_below_drewN ?_ _))); (case aO => repeat (first | exact HM.out.row | (with_reducible refine Kd.R_drewN ?_ _))); (case aS => exact DI.out.low.size); (case aL => rw [List.length_map]; have h1 := HJ.out; have h2 := HK.out; omega); intro v1 w4 ho hb hg hat))
    have hne := Kd.R_own HM.out.row
    have EM := Aside0.mk (Drn.snoc HM.out.v (V_int (n := a) (by have := RA.out; omega)) (V_int (n := b) (by have := RB.out; omega)) (by have := RA.out; have := RB.out; show a.natAbs + b.natAbs ≤ 5; omega) ho)
    have ED := Aside0.mk (DI.out.grown hg (fun e => (HM.out.row.1 gd e.symm).1 rfl) hb)
    have EE := Aside0.mk (Kd.R_grown HE.out hg (fun k hk e => by subst hk; exact (HM.out.row.1 k e.symm).2 rfl))
    have EB := Aside0.mk (Nat.lt_of_lt_of_le HB2.out hg.size)
    clear ho hb hg hat hne
    go_wp2_with fail
    go_roundg q
    case measure => omega
    case rel =>
     have e : wrap64 (j - 1) = j - 1 := by have := HJ.out; have := HK.out; exact w64 (by omega) (by omega)
     exact ⟨_, j - 1, by first | rfl | rw [e], ⟨EM.out, ED.out, EE.out, EB.out, by have := HJ.out; omega, by have := HJ.out; simp; omega⟩⟩
   | zero =>
    have hl' : decide (j ≥ 0) = false := decide_eq_false (by have := HJ.out; omega)
    have HL1 := Aside0.mk (show 1 ≤ ps.length ∧ ps.length ≤ 3 by have := HJ.out; have := HK.out; omega)
    obtain ⟨o1, ho1⟩ : ∃ o1, ps.map (·.1) = o1 := ⟨_, rfl⟩
    have hr1 := HM.out.row
    rw [ho1] at hr1
    obtain ⟨A5, c5, rfl⟩ := Kd.R_slice hr1
    have HO1 := Aside0.mk ho1
    have HPS := Aside0.mk HM.out.v
    obtain ⟨s2, hs2⟩ : ∃ s2, wr.heap.size = s2 := ⟨_, rfl⟩
    have H5 := Aside0.mk (show cxk.R 34 wr w0.heap.size (fun b => b ≠ gd ∧ b ≠ b2 ∧ b < s2) (.slice A5 o1.length c5) o1 from Kd.R_mono (Kd.R_bound hr1) (fun k hk => ⟨hk.1.1, hk.1.2, hs2 ▸ hk.2.2.1⟩))
    have HS2 := Aside0.mk (show gd < s2 ∧ b2 < s2 from ⟨hs2 ▸ DI.out.lt, hs2 ▸ HB2.out⟩)
    have HM2 := Aside0.mk (show Drn w0 wr (fun b => b ≠ gd ∧ (b = b2 ∨ s2 ≤ b)) (.slice (some ⟨b2, 0, none⟩) 0 0) [] from ⟨Kd.R_mono HE.out (fun k hk => ⟨by have := HG.out; have : k = b2 := hk; omega, .inl hk⟩), fun q hq => by cases hq⟩)
    have HB3 := Aside0.mk (show s2 ≤ wr.heap.size by omega)
    clear HM HE HB2 hr1 ho1 hs2
    have HM := HM2
    clear HM2
    go_wp2_with fail
    refine (below_calls w0 _ gd 3 DI.out (by omega)).mono ?_
    rintro e w6 ⟨K2, rfl, hd, h0, h1, hk⟩
    replace HM := Aside0.mk (Drn.mk (Kd.R_keep HM.out.row hk (fun k h => h.1)) HM.out.v)
    replace H5 := Aside0.mk (Kd.R_keep H5.out hk (fun k h => h.1))
    replace HB3 := Aside0.mk (Nat.le_trans HB3.out hk.1)
    replace DI := Aside0.mk hd
    have HK2 := Aside0.mk (show 0 ≤ K2 ∧ K2 ≤ 2 by omega)
    clear hd h0 h1 hk
    go_wp2_with fail
    go_loopg [23, 25] (K2 + 1).toNat (fun q v u w' => ∃ (qs : List ((Nat × Nat) × (Int × Int))) (j : Int), u = .int .i64 j ∧ Aside0 (Drn w0 w' (fun b => b ≠ gd ∧ (b = b2 ∨ s2 ≤ b)) v qs ∧ Dice w0 w' gd ∧ cxk.R 34 w' w0.heap.size (fun b => b ≠ gd ∧ b ≠ b2 ∧ b < s2) (.slice A5 o1.length c5) o1 ∧ s2 ≤ w'.heap.size ∧ (q : Int) = j + 1 ∧ (qs.length : Int) + q = K2 + 1))
    case atStart => exact ⟨[], K2, rfl, ⟨HM.out, DI.out, H5.out, HB3.out, by have := HK2.out; omega, by have := HK2.out; simp; omega⟩⟩
    case round =>
     clear HM DI H5 HB3 HJ
     obtain ⟨qs, j, rfl, hj⟩ := hrel
     have HM := Aside0.mk hj.out.1; have DI := Aside0.mk hj.out.2.1; have H5 := Aside0.mk hj.out.2.2.1; have HB3 := Aside0.mk hj.out.2.2.2.1; have HJ := Aside0.mk hj.out.2.2.2.2; clear hj
     cases gk with
     | succ q =>
      have hl2 : decide (j ≥ 0) = true := decide_eq_true (by have := HJ.out; omega)
      go_wp2_with fail
      refine (below_calls w0 _ gd 7 DI.out (by omega)).mono ?_
      rintro e w4 ⟨ra, rfl, hd, h0, h1, hk⟩
      replace HM := Aside0.mk (Drn.mk (Kd.R_keep HM.out.row hk (fun k h => h.1)) HM.out.v)
      replace H5 := Aside0.mk (Kd.R_keep H5.out hk (fun k h => h.1))
      replace HB3 := Aside0.mk (Nat.le_trans HB3.out hk.1)
      replace DI := Aside0.mk hd
      obtain ⟨a, ha⟩ : ∃ a, ra - 3 = a := ⟨_, rfl⟩
      have ea : wrap64 (ra - 3) = a := by rw [← ha]; exact w64 (by omega) (by omega)
      have RA := Aside0.mk (show -3 ≤ a ∧ a ≤ 3 by omega)
      clear hd h0 h1 hk ha
      go_wp2_with fail
      try simp only [ea]
      clear ea
      refine (below_calls w0 _ gd 5 DI.out (by omega)).mono ?_
      rintro e w5 ⟨rb, rfl, hd, h0, h1, hk⟩
      replace HM := Aside0.mk (Drn.mk (Kd.R_keep HM.out.row hk (fun k h => h.1)) HM.out.v)
      replace H5 := Aside0.mk (Kd.R_keep H5.out hk (fun k h => h.1))
      replace HB3 := Aside0.mk (Nat.le_trans HB3.out hk.1)
      replace DI := Aside0.mk hd
      obtain ⟨b, hb⟩ : ∃ b, rb - 2 = b := ⟨_, rfl⟩
      have eb : wrap64 (rb - 2) = b := by rw [← hb]; exact w64 (by omega) (by omega)
      have RB := Aside0.mk (show -2 ≤ b ∧ b ≤ 2 by omega)
      clear hd h0 h1 hk hb
      go_wp2_with (first | ((with_reducible refine gate_builtin (b := .append) (xs := #[.tmp 164, .tmp 174]) rfl ?_); at_builtin; refine Kd.R_append cxk (w0 := w0) w0.heap.size rfl (.tmp 164) (.tmp 174) 24 34 (.complex .f64 0 0) 16 rfl Try.underlying24 info_cx rfl (by decide) (by omega) _ (qs.map (·.1)) (floatOfInt .f64 a, floatOfInt .f64 b) [.complex .f64 _ _] (fun b => b ≠ gd ∧ (b = b2 ∨ s2 ≤ b)) (fun _ => False) rfl rfl ?bP (fun _ hk => hk.elim) ?bF ?bO ?bB ?bS ?bL ?_; (case bP => exact rfl); (case bF => exact (fun k hk => by have := HS2.out; have := HB3.out; exact ⟨by omega, .inr (by omega)⟩)); (case bB => repeat (first | exact DI.out.low | (with_reducible refine pw_below_drewN ?_ _))); (case bO => repeat (first | exact HM.out.row | (with_reducible refine Kd.R_drewN ?_ _))); (case bS => exact DI.out.low.size); (case bL => rw [List.length_map]; have h1 := HJ.out; have h2 := HK2.out; omega); intro v1 w4 ho hb hg hat))
      have hne := Kd.R_own HM.out.row
      have EM := Aside0.mk (Drn.snoc HM.out.v (V_int (n := a) (by have := RA.out; omega)) (V_int (n := b) (by have := RB.out; omega)) (by have := RA.out; have := RB.out; show a.natAbs + b.natAbs ≤ 5; omega) ho)
      have ED := Aside0.mk (DI.out.grown hg (fun e => (HM.out.row.1 gd e.symm).1 rfl) hb)
      have EE := Aside0.mk (Kd.R_grown H5.out hg (fun k hk e => by have h9 := (HM.out.row.1 k e.symm).2; have h8 := hk.2; rcases h9 with h9 | h9 <;> omega))
      have EB := Aside0.mk (Nat.le_trans HB3.out hg.size)
      clear ho hb hg hat hne
      go_wp2_with fail
      go_roundg q
      case measure => omega
      case rel =>
       have e : wrap64 (j - 1) = j - 1 := by have := HJ.out; have := HK2.out; exact w64 (by omega) (by omega)
       exact ⟨_, j - 1, by first | rfl | rw [e], ⟨EM.out, ED.out, EE.out, EB.out, by have := HJ.out; omega, by have := HJ.out; simp; omega⟩⟩
     | zero =>
      have hl2 : decide (j ≥ 0) = false := decide_eq_false (by have := HJ.out; omega)
      have HL2 := Aside0.mk (show 1 ≤ qs.length ∧ qs.length ≤ 3 by have := HJ.out; have := HK2.out; omega)
      obtain ⟨o2, ho2⟩ : ∃ o2, qs.map (·.1) = o2 := ⟨_, rfl⟩
      have hr2 := HM.out.row
      rw [ho2] at hr2
      obtain ⟨A6, c6, rfl, -, k6⟩ := Kd.R_reads hr2
      obtain ⟨A5', c5', e5, -, k5⟩ := Kd.R_reads H5.out
      injection e5 with e51 e52 e53
      subst e51 e53
      have Z5 := Aside0.mk k5
      have Z6 := Aside0.mk k6
      have R2 : Rts qs := ⟨HM.out.v, HL2.out.1, HL2.out.2⟩
      obtain ⟨⟨⟨z01, z02⟩, d0⟩, ps', eps⟩ : ∃ q ps', ps = q :: ps' := by
       cases ps with
       | nil => exact absurd HL1.out.1 (by simp)
       | cons q ps' => exact ⟨q, ps', rfl⟩
      have R1 : Rts (((z01, z02), d0) :: ps') := by rw [← eps]; exact ⟨HPS.out, HL1.out.1, HL1.out.2⟩
      obtain ⟨f, g, both, back, qq, ⟨r1, r2⟩, p1, p2, p3, p4, p5, p6, p7, p8, p9, q1, q2, q3, q4, q5, q6⟩ := small_law R1 R2
      rw [← eps, HO1.out] at p1
      rw [ho2] at p2
      have X1 := Aside0.mk p1; have X2 := Aside0.mk p2; have X3 := Aside0.mk p3; have X4 := Aside0.mk p4; have X7 := Aside0.mk p7
      have XE := Aside0.mk p6
      have XL := Aside0.mk (show f.length ≤ 13 ∧ g.length ≤ 13 ∧ both.length ≤ 13 ∧ back.length = f.length ∧ o1.length ≤ 3 ∧ o2.length ≤ 3 from ⟨q1, q2, q3, p5, by rw [← HO1.out, List.length_map]; exact HL1.out.2, by rw [← ho2, List.length_map]; exact HL2.out.2⟩)
      have XW := Aside0.mk (And.intro q4 q5)
      have XZ := Aside0.mk (show rdOf (0, 0) o1 0 = (z01, z02) ∧ 1 ≤ o1.length by rw [← HO1.out, eps]; exact ⟨rfl, by simp⟩)
      have o8 : (FloatKind.f64.format.order r1 0 == some .eq) = true := by rw [p8]; rfl
      have o9 : (FloatKind.f64.format.order r2 0 == some .eq) = true := by rw [p9]; rfl
      have ne0 : ((0 : Int) != 0) = false := rfl
      obtain ⟨F, hF⟩ : ∃ F : Int, (f.length : Int) = F := ⟨_, rfl⟩
      have hF2 : (back.length : Int) = F := by rw [p5]; exact hF
      have hneF : (F != F) = false := by simp
      have HFF := Aside0.mk (show (f.length : Int) = F ∧ (back.length : Int) = F ∧ F ≤ 13 from ⟨hF, hF2, by omega⟩)
      have LD := Aside0.mk (L.out.trans (DI.out.low.mono L.out.size))
      clear L
      have L := LD
      clear LD hr2 k5 k6 e52 R1 R2 p1 p2 p3 p4 p5 p6 p7 p8 p9 q1 q2 q3 q4 q5 q6 ho2 eps HM DI H5 HB3 HJ
      clear HPS HO1 HS2 HG HK HK2
      go_wp2_with fail
      refine (PolynomialOfRoots_calls A5 c5 o1 _ Z5.out (by have := XL.out; omega)).mono ?_
      rw [X1.out]
      intro e w_ h
      obtain ⟨G1, e1, rfl, k1, k2, k3⟩ := Res.elim h
      clear h
      replace Z5 := Aside0.mk (Kd.C_below Z5.out k3)
      replace Z6 := Aside0.mk (Kd.C_below Z6.out k3)
      replace L := Aside0.mk (L.out.trans (k3.mono L.out.size))
      have Z1 := Aside0.mk k1
      have Y1 := Aside0.mk k2
      clear k1 k2 k3
      go_wp2_with fail
      refine (PolynomialOfRoots_calls A6 c6 o2 _ Z6.out (by have := XL.out; omega)).mono ?_
      rw [X2.out]
      intro e w_ h
      obtain ⟨G2, e2, rfl, k1, k2, k3⟩ := Res.elim h
      clear h
      replace Z5 := Aside0.mk (Kd.C_below Z5.out k3)
      replace Z1 := Aside0.mk (Kd.C_below Z1.out k3)
      replace L := Aside0.mk (L.out.trans (k3.mono L.out.size))
      have Z2 := Aside0.mk k1
      have Y2 := Aside0.mk k2
      clear k1 k2 k3
      go_wp2_with fail
      refine (MultiplyParts_calls G1 G2 e1 e2 f g _ Z1.out Z2.out (by have := XL.out; omega) (by have := XL.out; omega)).mono ?_
      rw [X3.out]
      intro e w_ h
      obtain ⟨G3, e3, rfl, k1, k2, k3⟩ := Res.elim h
      clear h
      replace Z5 := Aside0.mk (Kd.C_below Z5.out k3)
      replace Z1 := Aside0.mk (Kd.C_below Z1.out k3)
      replace Z2 := Aside0.mk (Kd.C_below Z2.out k3)
      replace L := Aside0.mk (L.out.trans (k3.mono L.out.size))
      have Z3 := Aside0.mk k1
      have Y3 := Aside0.mk k2
      clear k1 k2 k3
      go_wp2_with fail
      refine (DividePolynomial_calls G3 G2 e3 e2 both g _ Z3.out Z2.out (by have := XL.out; omega) (by have := XL.out; omega) Y2.out XW.out.2 XW.out.1).mono ?_
      rw [X4.out]
      intro e w_ h
      obtain ⟨G4, e4, G5, e5, rfl, k1, k2, k4, k5, k3⟩ := RsD.elim h
      clear h
      replace Z5 := Aside0.mk (Kd.C_below Z5.out k3)
      replace Z1 := Aside0.mk (Kd.C_below Z1.out k3)
      replace Z3 := Aside0.mk (Kd.C_below Z3.out k3)
      replace L := Aside0.mk (L.out.trans (k3.mono L.out.size))
      have Z4 := Aside0.mk k1
      have ZN := Aside0.mk k4
      clear k1 k2 k3 k4 k5
      go_wp2_with fail
      obtain ⟨w9, hw9⟩ : ∃ w9, w9 = w_ := ⟨_, rfl⟩
      subst hw9
      go_loopg [35] f.length (fun g u w' => ∃ (i : Int), u = .int .i64 i ∧ Aside0 (0 ≤ i ∧ i + g = F ∧ Below w9.heap.size w9 w'))
      case atStart => exact ⟨0, rfl, ⟨by omega, by have := HFF.out; omega, Below.refl _ _⟩⟩
      case round =>
       obtain ⟨i, rfl, hj⟩ := hrel
       have HJ := Aside0.mk (And.intro hj.out.1 hj.out.2.1)
       have HB := Aside0.mk hj.out.2.2
       clear hj
       cases gk with
       | succ m =>
        have hl3 : decide (i < F) = true := decide_eq_true (by have := HJ.out; omega)
        obtain ⟨ga, rfl, hx⟩ := cx_at (Kd.C_below Z4.out HB.out) i HJ.out.1 (by have := HJ.out; have := HFF.out; omega)
        obtain ⟨gb, rfl, hy⟩ := cx_at (Kd.C_below Z1.out HB.out) i HJ.out.1 (by have := HJ.out; have := HFF.out; omega)
        obtain ⟨t1, t2⟩ := XE.out i HJ.out.1 (by have := HJ.out; have := HFF.out; omega)
        obtain ⟨⟨x1, x2⟩, hxx⟩ : ∃ z, rdOf (0, 0) back i = z := ⟨_, rfl⟩
        obtain ⟨⟨y1, y2⟩, hyy⟩ : ∃ z, rdOf (0, 0) f i = z := ⟨_, rfl⟩
        rw [hxx, hyy] at t1 t2
        rw [hxx] at hx
        rw [hyy] at hy
        have u1 : (FloatKind.f64.format.order x1 y1 == some .eq) = true := by rw [show FloatKind.f64.format.order x1 y1 = some .eq from t1]; rfl
        have u2 : (FloatKind.f64.format.order x2 y2 == some .eq) = true := by rw [show FloatKind.f64.format.order x2 y2 = some .eq from t2]; rfl
        have k0 := eq_true HJ.out.1
        have k1 := eq_true (show i < F by have := HJ.out; omega)
        clear hxx hyy t1 t2
        go_wp2_with fail
        refine start_ (n := 9) (S := fun w' => w'.cell? (ga.add i.toNat) = some (.complex .f64 x1 x2) ∧ w'.cell? (gb.add i.toNat) = some (.complex .f64 y1 y2)) (ds := []) #[false, false, false, false, false, false, false, false, false] (by kernel_rfl) rfl rfl ⟨hx, hy⟩ (fun hHeld => ?_)
        have DW := Aside0.mk ((Below.refl wr.heap.size wr).drew)
        generalize wr.drew = W at hHeld DW ⊢
        refine pure_ (i := 0) (N := some 229) (v := ?_) (a' := ?_) #[true, false, false, false, false, false, false, false, false] rfl rfl (by kernel_rfl) (fun _ _ _ h => h) (Or.inl ⟨by rfl, ?_⟩) ?_ ?_
        rotate_left
        ·intro w'
         go_simp
         with_reducible rfl
        rotate_left
        ·simp only [Act.put, List.setIfInBounds_toArray, List.set_cons_zero, List.set_cons_succ, i64_w, i32_w]
         rfl
        refine pure_ (i := 1) (N := some 230) (v := ?_) (a' := ?_) #[true, true, false, false, false, false, false, false, false] rfl rfl (by kernel_rfl) (fun _ _ _ h => h) (Or.inl ⟨by rfl, ?_⟩) ?_ ?_
        rotate_left
        ·intro w'
         go_simp
         with_reducible rfl
        rotate_left
        ·simp only [Act.put, List.setIfInBounds_toArray, List.set_cons_zero, List.set_cons_succ, i64_w, i32_w]
         rfl
        refine pure_ (i := 2) (N := some 231) (v := ?_) (a' := ?_) #[true, true, true, false, false, false, false, false, false] rfl rfl (by kernel_rfl) (fun _ _ _ h => h) (Or.inl ⟨by rfl, ?_⟩) ?_ ?_
        rotate_left
        ·intro w'
         go_simp
         with_reducible rfl
        rotate_left
        ·simp only [Act.put, List.setIfInBounds_toArray, List.set_cons_zero, List.set_cons_succ, i64_w, i32_w]
         rfl
        refine pure_ (i := 4) (N := some 233) (v := ?_) (a' := ?_) #[true, true, true, false, true, false, false, false, false] rfl rfl (by kernel_rfl) (fun _ _ _ h => h) (Or.inl ⟨by rfl, ?_⟩) ?_ ?_
        rotate_left
        ·intro w'
         go_simp
         with_reducible rfl
        rotate_left
        ·simp only [Act.put, List.setIfInBounds_toArray, List.set_cons_zero, List.set_cons_succ, i64_w, i32_w]
         rfl
        refine pure_ (i := 5) (N := some 234) (v := ?_) (a' := ?_) #[true, true, true, false, true, true, false, false, false] rfl rfl (by kernel_rfl) (fun _ _ _ h => h) (Or.inl ⟨by rfl, ?_⟩) ?_ ?_
        rotate_left
        ·intro w'
         go_simp
         with_reducible rfl
        rotate_left
        ·simp only [Act.put, List.setIfInBounds_toArray, List.set_cons_zero, List.set_cons_succ, i64_w, i32_w]
         rfl
        refine pure_ (i := 6) (N := some 235) (v := ?_) (a' := ?_) #[true, true, true, false, true, true, true, false, false] rfl rfl (by kernel_rfl) (fun _ _ _ h => h) (Or.inl ⟨by rfl, ?_⟩) ?_ ?_
        rotate_left
        ·intro w'
         go_simp
         with_reducible rfl
        rotate_left
        ·simp only [Act.put, List.setIfInBounds_toArray, List.set_cons_zero, List.set_cons_succ, i64_w, i32_w]
         rfl
        refine take_ (i := 3) (N := some 232) (v := ?_) (a' := ?_) #[true, true, true, true, true, true, true, false, false] rfl rfl (by kernel_rfl) (fun _ _ _ h => h) (Or.inl ⟨by rfl, ?_⟩) hHeld ?_ ?_
        rotate_left
        ·rintro w' ⟨s0, s1⟩
         go_simp
         with_reducible rfl
        rotate_left
        ·simp only [Act.put, List.setIfInBounds_toArray, List.set_cons_zero, List.set_cons_succ, i64_w, i32_w]
         rfl
        refine take_ (i := 7) (N := some 236) (v := ?_) (a' := ?_) #[true, true, true, true, true, true, true, true, false] rfl rfl (by kernel_rfl) (fun _ _ _ h => h) (Or.inl ⟨by rfl, ?_⟩) hHeld ?_ ?_
        rotate_left
        ·rintro w' ⟨s0, s1⟩
         go_simp
         with_reducible rfl
        rotate_left
        ·simp only [Act.put, List.setIfInBounds_toArray, List.set_cons_zero, List.set_cons_succ, i64_w, i32_w]
         rfl
        refine pure_ (i := 8) (N := some 237) (v := ?_) (a' := ?_) #[true, true, true, true, true, true, true, true, true] rfl rfl (by kernel_rfl) (fun _ _ _ h => h) (Or.inl ⟨by rfl, ?_⟩) ?_ ?_
        rotate_left
        ·intro w'
         go_simp
         with_reducible rfl
        rotate_left
        ·simp only [Act.put, List.setIfInBounds_toArray, List.set_cons_zero, List.set_cons_succ, i64_w, i32_w]
         rfl
        refine done_ (by kernel_rfl) ?_
        have EB := Aside0.mk (show Below w9.heap.size w9 W from HB.out.trans (DW.out.mono HB.out.size))
        clear hx hy k0 k1
        go_wp2_with fail
        go_roundg m
        case measure => omega
        case rel =>
         have e : wrap64 (i + 1) = i + 1 := by have := HJ.out; have := HFF.out; exact w64 (by omega) (by omega)
         exact ⟨i + 1, by first | rfl | rw [e], ⟨by have := HJ.out; omega, by have := HJ.out; omega, by repeat (first | exact EB.out | refine pw_below_drewN ?_ _)⟩⟩
       | zero =>
        have hl3 : decide (i < F) = false := decide_eq_false (by have := HJ.out; omega)
        replace Z3 := Aside0.mk (Kd.C_below Z3.out HB.out)
        replace Z5 := Aside0.mk (Kd.C_below Z5.out HB.out)
        replace L := Aside0.mk (L.out.trans (HB.out.mono L.out.size))
        obtain ⟨N1, hN1⟩ : ∃ N1 : Int, (o1.length : Int) = N1 := ⟨_, rfl⟩
        obtain ⟨ad, rfl, hx⟩ := cx_at Z5.out 0 (by omega) (by have := XZ.out; omega)
        rw [XZ.out.1] at hx
        have hx' : wr.cell? ad = some (.complex .f64 z01 z02) := hx
        rw [show (0 : Int).toNat = 0 from rfl] at hx
        have k1 := eq_true (show 0 < N1 by have := XZ.out; omega)
        clear Z5
        go_wp2_with fail
        refine (DeflateBy_calls G3 e3 both z01 z02 _ Z3.out (by have := XL.out; omega)).mono ?_
        rw [X7.out]
        intro e w_ h
        obtain ⟨G7, e7, rfl, k1, k2, k3⟩ := Rs3.elim h
        clear h
        replace L := Aside0.mk (L.out.trans (k3.mono L.out.size))
        have Z7 := Aside0.mk k1
        clear k1 k2 k3
        go_wp2
        go_ret
        exact ⟨rfl, by repeat (first | exact L.out | refine pw_below_drewN ?_ _)⟩
end Go.Proofs.Ytdjkcpmoigemdaa
