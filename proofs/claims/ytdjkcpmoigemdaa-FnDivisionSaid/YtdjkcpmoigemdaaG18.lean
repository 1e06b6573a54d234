/- Powers and scaling of wide numbers on both sides, walked. No conditions beyond those of each theorem. -/
import Derived.Test.YtdjkcpmoigemdaaG16
import Derived.Test.YtdjkcpmoigemdaaG17
import Derived.Deep.LoopGhost
namespace Go.Proofs.Ytdjkcpmoigemdaa
open Go Ieee Go.RowKit Go.Proofs.Ytdjkcpmoigemdaa.Fl Go.Proofs.Ytdjkcpmoigemdaa.Fx Go.Proofs.Ytdjkcpmoigemdaa.P Go.Proofs.YtdjkcpmoigemdaaW.PrintWords Go.Proofs.YtdjkcpmoigemdaaW.PrintLast Go.Proofs.YtdjkcpmoigemdaaW.PrintMore
set_option linter.unusedVariables false
set_option linter.unusedSimpArgs false
attribute [local go_sem] run_add run_sub run_mul run_quo run_cadd run_csub run_neg run_cneg
theorem between_calls (x lo hi : Int) (w : World) : Calls Try.prog 42 #[.int .i64 x, .int .i64 lo, .int .i64 hi] w fun e w' => e = .returned (.bool (decide (lo ≤ x ∧ x ≤ hi))) ∧ ∃ n, w' = w.drewN n := by
 refine (impl_between.calls x lo hi (decide (lo ≤ x ∧ x ≤ hi)) w ?_).mono ?_
 ·unfold impl_between.f
  by_cases h : x ≥ lo
  ·rw [if_pos h]
   have : lo ≤ x := h
   simp [this]
  ·rw [if_neg h]
   have : ¬ lo ≤ x := h
   simp [this]
 ·rintro e w' ⟨rfl, m, rfl⟩
  exact ⟨rfl, m, rfl⟩
theorem itO_next {f : Nat → Nat → Nat → Nat → Option Nat × Option Nat} {p q a b n : Nat} {R : Option (Nat × Nat)} (h : itO f p q (List.replicate (n + 1) (a, b)) = R) {r i : Nat} (hr : can r = (f p q a b).1) (hi : can i = (f p q a b).2) :
  (if isFin r && isFin i then itO f r i (List.replicate n (a, b)) else none) = R := by
 rw [List.replicate_succ] at h
 unfold itO at h
 rw [stp_of hr hi] at h
 rw [← h]
 cases (isFin r && isFin i) <;> rfl
theorem two_can : can 4611686018427387904 = some 4611686018427387904 := by decide
end Go.Proofs.Ytdjkcpmoigemdaa
namespace Go.Proofs.Ytdjkcpmoigemdaa
open Go Ieee Go.RowKit Go.Proofs.Ytdjkcpmoigemdaa.Fl Go.Proofs.Ytdjkcpmoigemdaa.Fx Go.Proofs.Ytdjkcpmoigemdaa.P Go.Proofs.YtdjkcpmoigemdaaW.PrintWords Go.Proofs.YtdjkcpmoigemdaaW.PrintLast Go.Proofs.YtdjkcpmoigemdaaW.PrintMore
set_option linter.unusedVariables false
set_option linter.unusedSimpArgs false
attribute [local go_sem] run_add run_sub run_mul run_quo run_cadd run_csub run_neg run_cneg
set_option maxRecDepth 100000 in
set_option maxHeartbeats 1000000 in
theorem sscale_up (x : Nat) (k : Int) (h0 : 0 ≤ k) (h1 : k ≤ 2200) (w : World) : Calls Try.prog 26 #[.float .f64 x, .int .i64 k] w fun e w' => Qt w (fun v => ∃ y, v = .float .f64 y ∧ can y = rep dbl k.toNat (can x)) e w' := by
 obtain ⟨R, hR⟩ : ∃ R, rep dbl k.toNat (can x) = R := ⟨_, rfl⟩
 rw [hR]
 have HR := Aside0.mk hR; clear hR
 have HK := Aside0.mk (And.intro h0 h1)
 clear h0 h1
 go_enter Try.func26, Try.ntmps26
 go_wp2_with fail
 go_loopg [0, 1] k.toNat (fun g v u w' => ∃ (r m : Nat) (j : Int), v = .float .f64 r ∧ u = .int .i64 j ∧ Aside0 ((g : Int) = j ∧ j ≤ 2200 ∧ rep dbl g (can r) = R) ∧ w' = w.drewN m)
 case atStart => exact ⟨x, 0, k, rfl, rfl, ⟨by have := HK.out; omega, by have := HK.out; omega, HR.out⟩, rfl⟩
 case round =>
  obtain ⟨r, m, j, rfl, rfl, hj, rfl⟩ := hrel
  cases gk with
  | succ d =>
   have hj0 := hj.out
   have hl' : decide (j > 0) = true := decide_eq_true (by omega)
   clear hj0
   go_wp2_with fail
   go_roundg d
   case measure => omega
   case rel =>
    have hll := hj.out
    have e : wrap64 (j - 1) = j - 1 := w64 (by omega) (by omega)
    refine ⟨_, _, j - 1, rfl, by rw [e], ⟨by omega, by omega, ?_⟩, rfl⟩
    rw [can_fr, two_can]; exact hll.2.2
  | zero =>
   have hj0 := hj.out
   obtain rfl : j = 0 := by omega
   have HH := Aside0.mk (show can r = R from hj0.2.2)
   clear hj0 hj
   go_wp2_with fail
   go_loopg [0, 1] 0 (fun g v u w' => ∃ (r m : Nat), v = .float .f64 r ∧ u = .int .i64 0 ∧ Aside0 (can r = R) ∧ w' = w.drewN m)
   case atStart => exact ⟨r, _, rfl, rfl, HH, rfl⟩
   case round =>
    obtain ⟨r, m, rfl, rfl, hr, rfl⟩ := hrel
    go_wp2
    go_ret
    exact ⟨⟨_, rfl, _, rfl, hr.out⟩, _, rfl⟩
set_option maxRecDepth 100000 in
set_option maxHeartbeats 1000000 in
theorem sscale_down (x : Nat) (k : Int) (h0 : k < 0) (h1 : -2200 ≤ k) (w : World) : Calls Try.prog 26 #[.float .f64 x, .int .i64 k] w fun e w' => Qt w (fun v => ∃ y, v = .float .f64 y ∧ can y = rep hlq (-k).toNat (can x)) e w' := by
 obtain ⟨R, hR⟩ : ∃ R, rep hlq (-k).toNat (can x) = R := ⟨_, rfl⟩
 rw [hR]
 have hp : decide (k > 0) = false := decide_eq_false (by omega)
 have HR := Aside0.mk hR; clear hR
 have HK := Aside0.mk (And.intro h0 h1)
 clear h0 h1
 go_enter Try.func26, Try.ntmps26
 go_wp2_with fail
 go_loopg [0, 1] 0 (fun g v u w' => v = .float .f64 x ∧ u = .int .i64 k ∧ w' = w.drewN 0)
 case atStart => exact ⟨rfl, rfl, rfl⟩
 case round =>
  obtain ⟨rfl, rfl, rfl⟩ := hrel
  go_wp2_with fail
  go_loopg [0, 1] (-k).toNat (fun g v u w' => ∃ (r m : Nat) (j : Int), v = .float .f64 r ∧ u = .int .i64 j ∧ Aside0 ((g : Int) = -j ∧ -2200 ≤ j ∧ rep hlq g (can r) = R) ∧ w' = w.drewN m)
  case atStart => exact ⟨x, 0, k, rfl, rfl, ⟨by have := HK.out; omega, by have := HK.out; omega, HR.out⟩, rfl⟩
  case round =>
   obtain ⟨r, m, j, rfl, rfl, hj, rfl⟩ := hrel
   cases gk with
   | succ d =>
    have hj0 := hj.out
    have hl' : decide (j < 0) = true := decide_eq_true (by omega)
    clear hj0
    go_wp2_with fail
    go_roundg d
    case measure => omega
    case rel =>
     have hll := hj.out
     have e : wrap64 (j + 1) = j + 1 := w64 (by omega) (by omega)
     refine ⟨_, _, j + 1, rfl, by rw [e], ⟨by omega, by omega, ?_⟩, rfl⟩
     rw [can_fr, two_can]; exact hll.2.2
   | zero =>
    have hj0 := hj.out
    obtain rfl : j = 0 := by omega
    have HH := Aside0.mk (show can r = R from hj0.2.2)
    clear hj0 hj
    go_wp2
    go_ret
    exact ⟨⟨_, rfl, _, rfl, HH.out⟩, _, rfl⟩
theorem sscale_calls (x : Nat) (hx : isN x = false) (k : Int) (h0 : -2200 ≤ k) (h1 : k ≤ 2200) (w : World) : Calls Try.prog 26 #[.float .f64 x, .int .i64 k] w fun e w' => Qt w (fun v => ∃ y, v = .float .f64 y ∧ can y = scK k (can x)) e w' := by
 unfold scK
 by_cases hk : k < 0
 ·rw [if_pos hk, rep_hlq _ _ (fun y hy => by rw [← can_some hy]; exact hx)]
  exact sscale_down x k hk h0 w
 ·rw [if_neg hk]
  exact sscale_up x k (by omega) h1 w
end Go.Proofs.Ytdjkcpmoigemdaa
namespace Go.Proofs.Ytdjkcpmoigemdaa
open Go Ieee Go.RowKit Go.Proofs.Ytdjkcpmoigemdaa.Fl Go.Proofs.Ytdjkcpmoigemdaa.Fx Go.Proofs.Ytdjkcpmoigemdaa.P Go.Proofs.YtdjkcpmoigemdaaW.PrintWords Go.Proofs.YtdjkcpmoigemdaaW.PrintLast Go.Proofs.YtdjkcpmoigemdaaW.PrintMore
set_option linter.unusedVariables false
set_option linter.unusedSimpArgs false
attribute [local go_sem] run_add run_sub run_mul run_quo run_cadd run_csub run_neg run_cneg
def cxv (p : Nat × Nat) : Value := .complex .f64 p.1 p.2
def cxk : Kd (Nat × Nat) := Kd.scalar cxv (fun _ => rfl)
theorem cx_at {w : World} {A : Option Addr} {n : Nat} {xs : List (Nat × Nat)} (h : cxk.C w A n xs) (i : Int) (h0 : 0 ≤ i) (h1 : i < n) : ∃ ad, A = some ad ∧ w.cell? (ad.add i.toNat) = some (.complex .f64 (rdOf (0, 0) xs i).1 (rdOf (0, 0) xs i).2) :=
 ReadsOf.at_ (Kd.reads_of_C (enc := cxv) (d := ((0, 0) : Nat × Nat)) (h1 := fun _ => rfl) h) i h0 h1
theorem rdOf_mid {α : Type} (d : α) (pre : List α) (z : α) (zs : List α) : rdOf d (pre ++ z :: zs) (pre.length : Int) = z := by
 unfold rdOf
 rw [Int.toNat_natCast, List.getD_eq_getElem?_getD, List.getElem?_append_right (Nat.le_refl _), Nat.sub_self]
 rfl
structure Stand (xs : List (Nat × Nat)) (g : Nat) (j : Int) (zs : List (Nat × Nat)) : Prop where
 at_ : ∃ pre, xs = pre ++ zs ∧ j = (pre.length : Int)
 len : zs.length = g
theorem Stand.start (xs : List (Nat × Nat)) : Stand xs xs.length 0 xs := ⟨⟨[], rfl, rfl⟩, rfl⟩
theorem Stand.next {xs : List (Nat × Nat)} {g : Nat} {j : Int} {zs : List (Nat × Nat)} (h : Stand xs (g + 1) j zs) : ∃ z zs', zs = z :: zs' ∧ 0 ≤ j ∧ j < (xs.length : Int) ∧ rdOf (0, 0) xs j = z ∧ Stand xs g (j + 1) zs' := by
 obtain ⟨⟨pre, h1, h2⟩, h3⟩ := h
 cases zs with
 | nil => cases h3
 | cons z zs' =>
  have h4 : zs'.length = g := by simpa using h3
  refine ⟨z, zs', rfl, by omega, ?_, ?_, ⟨pre ++ [z], ?_, ?_⟩, h4⟩
  ·rw [h1, List.length_append, List.length_cons, h2]; omega
  ·rw [h1, h2]; exact rdOf_mid _ _ _ _
  ·rw [h1, List.append_assoc]; rfl
  ·rw [List.length_append, List.length_singleton, h2]; omega
theorem Stand.done {xs : List (Nat × Nat)} {j : Int} {zs : List (Nat × Nat)} (h : Stand xs 0 j zs) : zs = [] ∧ j = (xs.length : Int) := by
 obtain ⟨⟨pre, h1, h2⟩, h3⟩ := h
 have : zs = [] := List.eq_nil_of_length_eq_zero h3
 subst this
 exact ⟨rfl, by rw [h1, List.append_nil]; exact h2⟩
set_option maxRecDepth 100000 in
set_option maxHeartbeats 1000000 in
theorem areFinite_calls (A : Option Addr) (c : Nat) (xs : List (Nat × Nat)) (w : World) (hr : cxk.C w A xs.length xs) (hl : xs.length ≤ 1000000000) : Calls Try.prog 44 #[.slice A xs.length c] w fun e w' => e = .returned (.bool (finL xs)) ∧ ∃ n, w' = w.drewN n := by
 have HR := Aside0.mk hr; have HL := Aside0.mk hl; clear hr hl
 obtain ⟨R, hR⟩ : ∃ R, finL xs = R := ⟨_, rfl⟩
 rw [hR]
 have HQ := Aside0.mk hR; clear hR
 obtain ⟨N, hN⟩ : ∃ N : Int, (xs.length : Int) = N := ⟨_, rfl⟩
 have HN := Aside0.mk hN
 go_enter Try.func44, Try.ntmps44
 go_wp2_with fail
 go_loopg [7] xs.length (fun g u w' => ∃ (m : Nat) (j : Int) (zs : List (Nat × Nat)), u = .int .i64 j ∧ Aside0 (Stand xs g j zs ∧ finL zs = R) ∧ w' = w.drewN m)
 case atStart => exact ⟨0, 0, xs, rfl, ⟨Stand.start xs, HQ.out⟩, rfl⟩
 case round =>
  obtain ⟨m, j, zs, rfl, hj, rfl⟩ := hrel
  cases gk with
  | succ d =>
   obtain ⟨z, zs', e1, j0, j1, e2, st⟩ := hj.out.1.next
   have hfz := hj.out.2
   rw [e1] at hfz
   have HZ := Aside0.mk (show (isFin z.1 && isFin z.2 && finL zs') = R from hfz)
   obtain ⟨ad, rfl, hx⟩ := cx_at HR.out j j0 j1
   rw [e2] at hx
   rw [hN] at j1
   have ST := Aside0.mk st
   have J0 := Aside0.mk (And.intro j0 j1)
   have hl' : decide (j < N) = true := decide_eq_true j1
   have q0 := eq_true j0
   have q1 := eq_true j1
   clear hfz e1 e2 st hj j0 j1
   obtain ⟨z1, z2⟩ := z
   cases hg : (isFin z1 && isFin z2)
   ·go_wp2_with fail
    refine (isFinite_calls z1 z2 _).mono ?_
    rintro e w1 ⟨rfl, n', rfl⟩
    rw [hg]
    have hz := HZ.out
    simp only [hg, Bool.false_and] at hz
    have HZ2 := Aside0.mk hz
    clear hz
    go_wp2
    go_ret
    exact ⟨by rw [← HZ2.out]; rfl, _, rfl⟩
   ·go_wp2_with fail
    refine (isFinite_calls z1 z2 _).mono ?_
    rintro e w1 ⟨rfl, n', rfl⟩
    rw [hg]
    have hz := HZ.out
    simp only [hg, Bool.true_and] at hz
    have HZ2 := Aside0.mk hz
    clear hz
    go_wp2_with fail
    go_roundg d
    case measure => omega
    case rel =>
     have h0 := J0.out
     have h1 := HN.out
     have h2 := HL.out
     have e : wrap64 (j + 1) = j + 1 := w64 (by omega) (by omega)
     exact ⟨_, j + 1, zs', by rw [e], ⟨ST.out, HZ2.out⟩, rfl⟩
  | zero =>
   obtain ⟨e1, e2⟩ := hj.out.1.done
   have hz := hj.out.2
   rw [e1] at hz
   rw [hN] at e2
   have HZ := Aside0.mk (show true = R from hz)
   have hl' : decide (j < N) = false := decide_eq_false (by omega)
   clear e1 hz hj e2
   go_wp2
   go_ret
   exact ⟨by rw [← HZ.out]; rfl, _, rfl⟩
end Go.Proofs.Ytdjkcpmoigemdaa
namespace Go.Proofs.Ytdjkcpmoigemdaa
open Go Ieee Go.RowKit Go.Proofs.Ytdjkcpmoigemdaa.Fl Go.Proofs.Ytdjkcpmoigemdaa.Fx Go.Proofs.Ytdjkcpmoigemdaa.P Go.Proofs.YtdjkcpmoigemdaaW.PrintWords Go.Proofs.YtdjkcpmoigemdaaW.PrintLast Go.Proofs.YtdjkcpmoigemdaaW.PrintMore
set_option linter.unusedVariables false
set_option linter.unusedSimpArgs false
attribute [local go_sem] run_add run_sub run_mul run_quo run_cadd run_csub run_neg run_cneg
end Go.Proofs.Ytdjkcpmoigemdaa
namespace Go.Proofs.Ytdjkcpmoigemdaa
open Go Ieee Go.RowKit Go.Proofs.Ytdjkcpmoigemdaa.Fl Go.Proofs.Ytdjkcpmoigemdaa.Fx Go.Proofs.Ytdjkcpmoigemdaa.P Go.Proofs.YtdjkcpmoigemdaaW.PrintWords Go.Proofs.YtdjkcpmoigemdaaW.PrintLast Go.Proofs.YtdjkcpmoigemdaaW.PrintMore
set_option linter.unusedVariables false
set_option linter.unusedSimpArgs false
attribute [local go_sem] run_add run_sub run_mul run_quo run_cadd run_csub run_neg run_cneg conv_f
def Cvi (v : Value) : Prop := ∃ a b k, v = .tuple #[.complex .f64 a b, .int .i64 k] ∧ a < 2 ^ 64 ∧ b < 2 ^ 64
theorem cx_empty (w : World) (base : Nat) (ok : Nat → Prop) (hb : base ≤ w.heap.size) (hok : ok w.heap.size) : cxk.R 34 (w.alloc (.cells #[] 34)) base ok (.slice (some ⟨w.heap.size, 0, none⟩) 0 0) [] := by
 have h := World.ownsRow_lit (base := base) (e := 34) (size := 1) w #[] 0 hb (by unfold maxLen; omega) (by simp)
 exact Kd.R_of_own (by simpa [encs] using h) (fun k hk => by cases hk; exact hok)
theorem Src.grown {W w0 w w1 : World} {g : Nat} {row : Option Nat} (h : Src W w0 w g) (hg : w.grownBy w1 row) (hne : some g ≠ row) (hb : Below w0.heap.size w0 w1) : Src w1 w0 w1 g := by
 obtain ⟨l, a, k, h1, h2, h3, h4, h5, h6⟩ := h
 exact ⟨l, a, k, h1.grown hg hne, h2, h3, h4, hb, KeepBut.refl _ _ _⟩
theorem info_cx : (Try.prog.info? 34).map (fun i => (i.zero, i.size, i.bytes)) = some (some (.complex .f64 0 0), 1, 16) := by kernel_rfl
end Go.Proofs.Ytdjkcpmoigemdaa
namespace Go.Proofs.Ytdjkcpmoigemdaa
open Go Ieee Go.RowKit Go.Proofs.Ytdjkcpmoigemdaa.Fl Go.Proofs.Ytdjkcpmoigemdaa.Fx Go.Proofs.Ytdjkcpmoigemdaa.P Go.Proofs.YtdjkcpmoigemdaaW.PrintWords Go.Proofs.YtdjkcpmoigemdaaW.PrintLast Go.Proofs.YtdjkcpmoigemdaaW.PrintMore
set_option linter.unusedVariables false
set_option linter.unusedSimpArgs false
theorem run_store_cx {P : Program} {w : World} {a : Addr} {m : Mode} (k : FloatKind) (x y : Nat) : (store a (.complex k x y) m).run P w = stored P w a (.complex k x y) m := run_store P w a _ m rfl
abbrev Cs := List (Nat × Nat)
def at_ (xs : Cs) (i : Int) : Nat × Nat := rdOf (0, 0) xs i
def zero_ (z : Nat × Nat) : Bool := isZ z.1 z.2
def lastZ (xs : Cs) : Bool := zero_ (at_ xs ((xs.length : Int) - 1))
def partB (xs : Cs) : Bool := decide (xs.length ≤ 13) && (finL xs && (decide (xs.length = 0) || !lastZ xs))
def polyB (xs : Cs) : Bool := decide (2 ≤ xs.length) && (decide (xs.length ≤ 13) && (finL xs && !lastZ xs))
def trimN (xs : Cs) : Nat → Nat
 | 0 => 0
 | n + 1 => if zero_ (at_ xs n) then trimN xs n else n + 1
def trimL (xs : Cs) : Cs := xs.take (trimN xs xs.length)
theorem trimN_le (xs : Cs) : ∀ n, trimN xs n ≤ n
 | 0 => Nat.le_refl _
 | n + 1 => by
  unfold trimN
  split
  ·exact Nat.le_succ_of_le (trimN_le xs n)
  ·exact Nat.le_refl _
def stpP (f : Nat → Nat → Nat → Nat → Option Nat × Option Nat) (x y : Nat × Nat) : Option (Nat × Nat) := stp f x.1 x.2 y.1 y.2
def addL : Cs → Cs → Option Cs
 | [], ys => some ys
 | x :: xs, [] => some (x :: xs)
 | x :: xs, y :: ys => (stpP addO x y).bind fun z => (addL xs ys).map (z :: ·)
theorem stpP_add_comm (x y : Nat × Nat) : stpP addO x y = stpP addO y x := by
 unfold stpP stp addO
 simp only [fop_add_comm (can x.1), fop_add_comm (can x.2)]
theorem addL_comm : ∀ xs ys : Cs, addL xs ys = addL ys xs
 | [], [] => rfl
 | [], y :: ys => by simp [addL]
 | x :: xs, [] => by simp [addL]
 | x :: xs, y :: ys => by
  show ((stpP addO x y).bind fun z => (addL xs ys).map (z :: ·)) = ((stpP addO y x).bind fun z => (addL ys xs).map (z :: ·))
  rw [stpP_add_comm, addL_comm]
def fitL (o : Option Cs) : Cs × Int := match o with
 | some zs => (trimL zs, 0)
 | none => ([], 3)
def addP (xs ys : Cs) : Cs × Int := if partB xs then (if partB ys then fitL (addL xs ys) else ([], 1)) else ([], 1)
theorem addP_comm (xs ys : Cs) : addP xs ys = addP ys xs := by
 unfold addP
 rw [addL_comm xs ys]
 cases partB xs <;> cases partB ys <;> rfl
theorem finL_append (a b : Cs) : finL (a ++ b) = (finL a && finL b) := by simp [finL]
theorem finL_one (r i : Nat) : finL [(r, i)] = (isFin r && isFin i) := by simp [finL]
structure Adds (P Q os ps qs : Cs) : Prop where
 ok : finL os = true → addL P Q = (addL ps qs).map (os ++ ·)
 no : finL os = false → addL P Q = none
theorem Adds.start (P Q : Cs) : Adds P Q [] P Q := ⟨fun _ => by cases addL P Q <;> rfl, fun h => by cases h⟩
theorem Adds.both {P Q os ps qs : Cs} {p q : Nat × Nat} {r i : Nat} (h : Adds P Q os (p :: ps) (q :: qs)) (hr : can r = (addO p.1 p.2 q.1 q.2).1) (hi : can i = (addO p.1 p.2 q.1 q.2).2) : Adds P Q (os ++ [(r, i)]) ps qs := by
 have e := stp_of hr hi
 have key : addL (p :: ps) (q :: qs) = ((stp addO p.1 p.2 q.1 q.2).bind fun z => (addL ps qs).map (z :: ·)) := rfl
 rw [e] at key
 constructor
 ·intro hf
  rw [finL_append, finL_one, Bool.and_eq_true] at hf
  rw [h.ok hf.1, key, if_pos hf.2]
  cases addL ps qs <;> simp
 ·intro hf
  rw [finL_append, finL_one] at hf
  cases h1 : finL os
  ·exact h.no h1
  ·rw [h1, Bool.true_and] at hf
   rw [h.ok h1, key, hf]
   rfl
theorem Adds.left {P Q os ps : Cs} {p : Nat × Nat} (h : Adds P Q os (p :: ps) []) (hf : (isFin p.1 && isFin p.2) = true) : Adds P Q (os ++ [p]) ps [] := by
 have k1 : addL (p :: ps) [] = some (p :: ps) := rfl
 have k2 : addL ps [] = some ps := by cases ps <;> rfl
 have k3 : finL (os ++ [p]) = finL os := by rw [finL_append, show finL [p] = (isFin p.1 && isFin p.2) from finL_one _ _, hf, Bool.and_true]
 constructor
 ·intro h1
  rw [k3] at h1
  rw [h.ok h1, k1, k2]
  simp
 ·intro h1
  rw [k3] at h1
  exact h.no h1
theorem Adds.right {P Q os qs : Cs} {q : Nat × Nat} (h : Adds P Q os [] (q :: qs)) (hf : (isFin q.1 && isFin q.2) = true) : Adds P Q (os ++ [q]) [] qs := by
 have k3 : finL (os ++ [q]) = finL os := by rw [finL_append, show finL [q] = (isFin q.1 && isFin q.2) from finL_one _ _, hf, Bool.and_true]
 constructor
 ·intro h1
  rw [k3] at h1
  rw [h.ok h1, show addL [] (q :: qs) = some (q :: qs) from rfl, show addL [] qs = some qs from by cases qs <;> rfl]
  simp
 ·intro h1
  rw [k3] at h1
  exact h.no h1
theorem Adds.done {P Q os ps : Cs} (h : Adds P Q os ps []) (hp : finL ps = true) : addL P Q = if finL (os ++ ps) then some (os ++ ps) else none := by
 rw [finL_append, hp, Bool.and_true]
 cases h1 : finL os
 ·exact h.no h1
 ·rw [h.ok h1, show addL ps [] = some ps from by cases ps <;> rfl]
  rfl
end Go.Proofs.Ytdjkcpmoigemdaa
namespace Go.Proofs.Ytdjkcpmoigemdaa
open Go Ieee Go.RowKit Go.Proofs.Ytdjkcpmoigemdaa.Fl Go.Proofs.Ytdjkcpmoigemdaa.Fx Go.Proofs.Ytdjkcpmoigemdaa.P Go.Proofs.YtdjkcpmoigemdaaW.PrintWords Go.Proofs.YtdjkcpmoigemdaaW.PrintLast Go.Proofs.YtdjkcpmoigemdaaW.PrintMore
set_option linter.unusedVariables false
set_option linter.unusedSimpArgs false
attribute [local go_sem] run_add run_sub run_mul run_quo run_cadd run_csub run_neg run_cneg
theorem cx_last {w : World} {A : Option Addr} {xs : Cs} (h : cxk.C w A xs.length xs) {N : Int} (hN : (xs.length : Int) = N) (h0 : 0 < N) (hl : xs.length ≤ 1000000000) :
  ∃ ad, A = some ad ∧ w.cell? (ad.add (N.toNat - 1)) = some (.complex .f64 (at_ xs ((xs.length : Int) - 1)).1 (at_ xs ((xs.length : Int) - 1)).2) := by
 obtain ⟨ad, e, hx⟩ := cx_at h ((xs.length : Int) - 1) (by omega) (by omega)
 exact ⟨ad, e, by rw [← hN, show (xs.length : Int).toNat - 1 = ((xs.length : Int) - 1).toNat by omega]; exact hx⟩
set_option maxRecDepth 100000 in
set_option maxHeartbeats 2000000 in
theorem isPart_calls (A : Option Addr) (c : Nat) (xs : Cs) (w : World) (hr : cxk.C w A xs.length xs) (hl : xs.length ≤ 1000000000) : Calls Try.prog 57 #[.slice A xs.length c] w fun e w' => e = .returned (.bool (partB xs)) ∧ ∃ n, w' = w.drewN n := by
 have HR := Aside0.mk hr; have HL := Aside0.mk hl
 obtain ⟨N, hN⟩ : ∃ N : Int, (xs.length : Int) = N := ⟨_, rfl⟩
 unfold partB
 by_cases c0 : xs.length ≤ 13
 case neg =>
  rw [decide_eq_false c0]
  have d0 : decide (N ≤ 13) = false := decide_eq_false (by omega)
  clear c0 hl hr
  go_enter Try.func57, Try.ntmps57
  go_wp2
  go_ret
  exact ⟨rfl, 0, rfl⟩
 rw [decide_eq_true c0]
 have d0 : decide (N ≤ 13) = true := decide_eq_true (by omega)
 cases hf : finL xs
 case false =>
  clear hl hr
  go_enter Try.func57, Try.ntmps57
  go_wp2_with fail
  refine (areFinite_calls A c xs _ HR.out HL.out).mono ?_
  rintro e w1 ⟨rfl, n, rfl⟩
  rw [hf]
  go_wp2
  go_ret
  exact ⟨rfl, _, rfl⟩
 by_cases z0 : xs.length = 0
 case pos =>
  rw [decide_eq_true z0]
  have dz : (N == 0) = true := by simp; omega
  clear hl hr z0
  go_enter Try.func57, Try.ntmps57
  go_wp2_with fail
  refine (areFinite_calls A c xs _ HR.out HL.out).mono ?_
  rintro e w1 ⟨rfl, n, rfl⟩
  rw [hf]
  go_wp2
  go_ret
  exact ⟨rfl, _, rfl⟩
 rw [decide_eq_false z0]
 have dz : (N == 0) = false := by simp; omega
 obtain ⟨ad, rfl, hx⟩ := cx_last hr hN (by omega) hl
 unfold lastZ zero_ isZ
 clear hl hr
 go_enter Try.func57, Try.ntmps57
 go_wp2_with fail
 refine (areFinite_calls _ c xs _ HR.out HL.out).mono ?_
 rintro e w1 ⟨rfl, n, rfl⟩
 rw [hf]
 go_wp2
 go_ret
 exact ⟨by simp [hN], _, rfl⟩
set_option maxRecDepth 100000 in
set_option maxHeartbeats 2000000 in
theorem IsPolynomial_calls (A : Option Addr) (c : Nat) (xs : Cs) (w : World) (hr : cxk.C w A xs.length xs) (hl : xs.length ≤ 1000000000) : Calls Try.prog 30 #[.slice A xs.length c] w fun e w' => e = .returned (.bool (polyB xs)) ∧ ∃ n, w' = w.drewN n := by
 have HR := Aside0.mk hr; have HL := Aside0.mk hl
 obtain ⟨N, hN⟩ : ∃ N : Int, (xs.length : Int) = N := ⟨_, rfl⟩
 unfold polyB
 by_cases c0 : 2 ≤ xs.length
 case neg =>
  rw [decide_eq_false c0]
  have d0 : decide (2 ≤ N) = false := decide_eq_false (by omega)
  clear c0 hl hr
  go_enter Try.func30, Try.ntmps30
  go_wp2
  go_ret
  exact ⟨rfl, 0, rfl⟩
 rw [decide_eq_true c0]
 have d0 : decide (2 ≤ N) = true := decide_eq_true (by omega)
 by_cases c1 : xs.length ≤ 13
 case neg =>
  rw [decide_eq_false c1]
  have d1 : decide (N ≤ 13) = false := decide_eq_false (by omega)
  clear c1 hl hr
  go_enter Try.func30, Try.ntmps30
  go_wp2
  go_ret
  exact ⟨rfl, 0, rfl⟩
 rw [decide_eq_true c1]
 have d1 : decide (N ≤ 13) = true := decide_eq_true (by omega)
 cases hf : finL xs
 case false =>
  clear hl hr
  go_enter Try.func30, Try.ntmps30
  go_wp2_with fail
  refine (areFinite_calls A c xs _ HR.out HL.out).mono ?_
  rintro e w1 ⟨rfl, n, rfl⟩
  rw [hf]
  go_wp2
  go_ret
  exact ⟨rfl, _, rfl⟩
 obtain ⟨ad, rfl, hx⟩ := cx_last hr hN (by omega) hl
 unfold lastZ zero_ isZ
 clear hl hr
 go_enter Try.func30, Try.ntmps30
 go_wp2_with fail
 refine (areFinite_calls _ c xs _ HR.out HL.out).mono ?_
 rintro e w1 ⟨rfl, n, rfl⟩
 rw [hf]
 go_wp2
 go_ret
 exact ⟨by simp [hN], _, rfl⟩
set_option maxRecDepth 100000 in
set_option maxHeartbeats 2000000 in
theorem l04Is_calls (A : Option Addr) (c : Nat) (xs : Cs) (w : World) (hr : cxk.C w A xs.length xs) (hl : xs.length ≤ 1000000000) : Calls Try.prog 36 #[.slice A xs.length c] w fun e w' => e = .returned (.bool (polyB xs)) ∧ ∃ n, w' = w.drewN n := by
 have HR := Aside0.mk hr; have HL := Aside0.mk hl
 obtain ⟨N, hN⟩ : ∃ N : Int, (xs.length : Int) = N := ⟨_, rfl⟩
 have HN := Aside0.mk hN
 obtain ⟨R, hR⟩ : ∃ R, polyB xs = R := ⟨_, rfl⟩
 rw [hR]
 have HQ := Aside0.mk hR
 clear hR
 by_cases c0 : 2 ≤ xs.length
 case neg =>
  have d0 : decide (N < 2) = true := decide_eq_true (by omega)
  have hq := HQ.out
  unfold polyB at hq
  rw [decide_eq_false c0] at hq
  have HQ2 := Aside0.mk hq
  clear hq c0 hl hr
  go_enter Try.func36, Try.ntmps36
  go_wp2
  go_ret
  exact ⟨by rw [← HQ2.out]; rfl, 0, rfl⟩
 have d0 : decide (N < 2) = false := decide_eq_false (by omega)
 by_cases c1 : xs.length ≤ 13
 case neg =>
  have d1' : decide (N > 13) = true := decide_eq_true (by omega)
  have hq := HQ.out
  unfold polyB at hq
  rw [decide_eq_false c1, Bool.false_and, Bool.and_false] at hq
  have HQ2 := Aside0.mk hq
  clear hq c0 c1 hl hr
  go_enter Try.func36, Try.ntmps36
  go_wp2
  go_ret
  exact ⟨by rw [← HQ2.out]; rfl, 0, rfl⟩
 have d1' : decide (N > 13) = false := decide_eq_false (by omega)
 have HP := Aside0.mk (show 0 < N ∧ 2 ≤ xs.length ∧ xs.length ≤ 13 from ⟨by omega, c0, c1⟩)
 clear c0 c1 hl hr
 go_enter Try.func36, Try.ntmps36
 go_wp2_with fail
 go_loopg [4] xs.length (fun g u w' => ∃ (m : Nat) (j : Int) (zs : Cs), u = .int .i64 j ∧ Aside0 (Stand xs g j zs ∧ (finL zs = true → finL xs = true) ∧ (finL zs = false → finL xs = false)) ∧ w' = w.drewN m)
 case atStart => exact ⟨0, 0, xs, rfl, ⟨Stand.start xs, id, id⟩, rfl⟩
 case round =>
  obtain ⟨m, j, zs, rfl, hj, rfl⟩ := hrel
  cases gk with
  | succ d =>
   obtain ⟨z, zs', e1, j0, j1, e2, st⟩ := hj.out.1.next
   have hfz := hj.out.2
   rw [e1] at hfz
   have HZ := Aside0.mk (show ((isFin z.1 && isFin z.2 && finL zs') = true → finL xs = true) ∧ ((isFin z.1 && isFin z.2 && finL zs') = false → finL xs = false) from hfz)
   obtain ⟨ad, rfl, hx⟩ := cx_at HR.out j j0 j1
   rw [e2] at hx
   rw [hN] at j1
   have ST := Aside0.mk st
   have J0 := Aside0.mk (And.intro j0 j1)
   have hl' : decide (j < N) = true := decide_eq_true j1
   have q0 := eq_true j0
   have q1 := eq_true j1
   clear hfz e1 e2 st hj j0 j1
   obtain ⟨z1, z2⟩ := z
   cases hg : (isFin z1 && isFin z2)
   ·go_wp2_with fail
    refine (l01Finite_calls z1 z2 _).mono ?_
    rintro e w1 ⟨rfl, n', rfl⟩
    rw [hg]
    have hz := HZ.out
    simp only [hg, Bool.false_and, forall_const, reduceCtorEq, false_implies, true_and] at hz
    have HZ2 := Aside0.mk hz
    clear hz
    go_wp2
    go_ret
    exact ⟨by rw [← HQ.out]; simp [polyB, HZ2.out], _, rfl⟩
   ·go_wp2_with fail
    refine (l01Finite_calls z1 z2 _).mono ?_
    rintro e w1 ⟨rfl, n', rfl⟩
    rw [hg]
    have hz := HZ.out
    simp only [hg, Bool.true_and] at hz
    have HZ2 := Aside0.mk hz
    clear hz
    go_wp2_with fail
    go_roundg d
    case measure => omega
    case rel =>
     have h0 := J0.out
     have h1 := HN.out
     have h2 := HL.out
     have e : wrap64 (j + 1) = j + 1 := w64 (by omega) (by omega)
     exact ⟨_, j + 1, zs', by rw [e], ⟨ST.out, HZ2.out⟩, rfl⟩
  | zero =>
   obtain ⟨e1, e2⟩ := hj.out.1.done
   have hz := hj.out.2.1
   rw [e1] at hz
   rw [hN] at e2
   have hf : finL xs = true := hz rfl
   have hl' : decide (j < N) = false := decide_eq_false (by omega)
   clear e1 hz hj e2
   obtain ⟨ad, rfl, hx⟩ := cx_last HR.out hN HP.out.1 HL.out
   have p0 := HP.out.1
   have p1 : N ≤ 13 := by have := HP.out.2.2; omega
   go_wp2
   go_ret
   exact ⟨by rw [← HQ.out]; simp [polyB, HP.out.2.1, HP.out.2.2, hf, lastZ, zero_, isZ, hN], _, rfl⟩
end Go.Proofs.Ytdjkcpmoigemdaa
namespace Go.Proofs.Ytdjkcpmoigemdaa
open Go Ieee Go.RowKit Go.Proofs.Ytdjkcpmoigemdaa.Fl Go.Proofs.Ytdjkcpmoigemdaa.Fx Go.Proofs.Ytdjkcpmoigemdaa.P Go.Proofs.YtdjkcpmoigemdaaW.PrintWords Go.Proofs.YtdjkcpmoigemdaaW.PrintLast Go.Proofs.YtdjkcpmoigemdaaW.PrintMore
set_option linter.unusedVariables false
set_option linter.unusedSimpArgs false
attribute [local go_sem] run_add run_sub run_mul run_quo run_cadd run_csub run_neg run_cneg
theorem run_isnil {P : Program} (w : World) {t e : TypeId} (A : Option Addr) (n c : Nat) (ht : P.underlying t = some (.slice e)) : (binOp .eql t (.slice A n c) (.slice none 0 0)).run P w = .ok (.bool A.isNone) w := by
 have h : ∀ d : Nat, (Op.equalIn (d + 1) t (.slice A n c) (.slice none 0 0)).run P w = .ok A.isNone w := fun d => by
  cases A <;> simp [Op.equalIn, run_underlying ht]
 simp only [binOp]
 simp [Op.equal, Op.maxDepth, h 9999]
structure Own (w w' : World) (v : Value) (xs : Cs) : Prop where
 row : cxk.R 34 w' w.heap.size (fun _ => True) v xs
 low : Below w.heap.size w w'
theorem Own.drewN {w w' : World} {v : Value} {xs : Cs} (h : Own w w' v xs) (n : Nat) : Own w (w'.drewN n) v xs := ⟨Kd.R_drewN h.row n, pw_below_drewN h.low n⟩
theorem Own.below {w w' w2 : World} {v : Value} {xs : Cs} (h : Own w w' v xs) (hb : Below w'.heap.size w' w2) : Own w w2 v xs := ⟨Kd.R_below h.row hb, h.low.trans (hb.mono h.low.size)⟩
theorem Own.lower {w w0 w' : World} {v : Value} {xs : Cs} (h : Own w0 w' v xs) (hb : Below w.heap.size w w0) : Own w w' v xs := ⟨Kd.R_lower h.row hb.size, hb.trans (h.low.mono hb.size)⟩
theorem Own.empty {w w' : World} (h : Below w.heap.size w w') : Own w (w'.alloc (.cells #[] 34)) (.slice (some ⟨w'.heap.size, 0, none⟩) 0 0) [] := ⟨cx_empty w' _ _ h.size trivial, h.alloc h.size _⟩
theorem Own.nil {w w' : World} (h : Below w.heap.size w w') : Own w w' (.slice none 0 0) [] := ⟨Kd.R_nil _ _ _ _ _, h⟩
theorem Own.reads {w w' : World} {v : Value} {xs : Cs} (h : Own w w' v xs) : ∃ A c, v = .slice A xs.length c ∧ xs.length ≤ c ∧ cxk.C w' A xs.length xs := Kd.R_reads h.row
def Res (w : World) (p : Cs × Int) : Ending → World → Prop := fun e w' => ∃ (B : Option Addr) (d : Nat), e = .returned (.tuple #[.slice B p.1.length d, .int .i64 p.2]) ∧ cxk.C w' B p.1.length p.1 ∧ p.1.length ≤ d ∧ Below w.heap.size w w'
theorem trimL_len (xs : Cs) : (trimL xs).length = trimN xs xs.length := by
 unfold trimL
 rw [List.length_take]
 exact Nat.min_eq_left (trimN_le xs _)
theorem C_trim {w : World} {A : Option Addr} {xs : Cs} (h : cxk.C w A xs.length xs) : cxk.C w A (trimL xs).length (trimL xs) := Kd.C_take h (trimN_le xs _)
set_option maxRecDepth 100000 in
set_option maxHeartbeats 2000000 in
theorem trim_calls (A : Option Addr) (c : Nat) (xs : Cs) (w : World) (hr : cxk.C w A xs.length xs) (hl : xs.length ≤ 1000000000) (hc : xs.length ≤ c) : Calls Try.prog 59 #[.slice A xs.length c] w fun e w' => e = .returned (.slice A (trimL xs).length c) ∧ ∃ n, w' = w.drewN n := by
 have HR := Aside0.mk hr; have HL := Aside0.mk (And.intro hl hc); clear hr hl hc
 rw [trimL_len]
 obtain ⟨T, hT⟩ : ∃ T, trimN xs xs.length = T := ⟨_, rfl⟩
 rw [hT]
 have HT := Aside0.mk hT; clear hT
 go_enter Try.func59, Try.ntmps59
 go_wp2_with fail
 go_loopg [0] xs.length (fun g u w' => ∃ (m : Nat), u = .slice A g c ∧ Aside0 (trimN xs g = T ∧ g ≤ xs.length) ∧ w' = w.drewN m)
 case atStart => exact ⟨0, rfl, ⟨HT.out, Nat.le_refl _⟩, rfl⟩
 case round =>
  obtain ⟨m, rfl, hj, rfl⟩ := hrel
  have HJ := Aside0.mk hj.out; clear hj
  cases gk with
  | succ d =>
   obtain ⟨ad, rfl, hx⟩ := cx_at HR.out (d : Int) (by omega) (by have := HJ.out.2; omega)
   rw [Int.toNat_natCast] at hx
   have hl' : decide (((d + 1 : Nat) : Int) > 0) = true := decide_eq_true (by omega)
   have hw : wrap64 (d : Int) = d := by have h1 := HJ.out.2; have h2 := HL.out.1; exact w64 (by omega) (by omega)
   have hj := HJ.out.1
   unfold trimN at hj
   cases hz : zero_ (at_ xs d)
   ·rw [hz] at hj
    have HT2 := Aside0.mk (show d + 1 = T from hj); clear hj
    unfold zero_ isZ at_ at hz
    go_wp2
    go_ret
    exact ⟨by rw [← HT2.out]; rfl, _, rfl⟩
   ·rw [hz] at hj
    have HT2 := Aside0.mk (show trimN xs d = T from hj); clear hj
    unfold zero_ isZ at_ at hz
    obtain ⟨i0, hi0, -, -, -⟩ := info_parts info_cx
    have hsl := cut_to (P := Try.prog) 24 34 .i64 Try.underlying24 hi0 (some ad) (d + 1) c (d : Int) (by omega) (by omega) (by have := HJ.out.2; have := HL.out.2; omega)
    rw [Int.toNat_natCast] at hsl
    clear hi0
    go_wp2_with fail
    clear hsl
    go_roundg d
    case measure => omega
    case rel => exact ⟨_, rfl, ⟨HT2.out, by have := HJ.out.2; omega⟩, rfl⟩
  | zero =>
   have HT2 := Aside0.mk (show 0 = T from HJ.out.1)
   have hl' : decide (((0 : Nat) : Int) > 0) = false := rfl
   go_wp2
   go_ret
   exact ⟨by rw [← HT2.out]; rfl, _, rfl⟩
theorem listOr_calls (A : Option Addr) (c : Nat) (xs : Cs) (w : World) (hr : cxk.C w A xs.length xs) (hl : xs.length ≤ 1000000000) : Calls Try.prog 34 #[.slice A xs.length c] w fun e w' => e = .returned (if finL xs then .tuple #[.slice A xs.length c, .int .i64 0] else .tuple #[.slice none 0 0, .int .i64 3]) ∧ ∃ n, w' = w.drewN n := by
 have HR := Aside0.mk hr; have HL := Aside0.mk hl; clear hr hl
 cases hf : finL xs
 all_goals
  go_enter Try.func34, Try.ntmps34
  go_wp2_with fail
  refine (areFinite_calls A c xs w HR.out HL.out).mono ?_
  rintro e w1 ⟨rfl, n, rfl⟩
  rw [hf]
  go_wp2
  go_ret2
  exact ⟨rfl, _, rfl⟩
theorem l04Own_calls (A : Option Addr) (c : Nat) (xs : Cs) (w : World) (hr : cxk.C w A xs.length xs) (hl : xs.length ≤ 1000000000) : Calls Try.prog 38 #[.slice A xs.length c] w fun e w' => ∃ v, e = .returned v ∧ Own w w' v xs := by
 have HR := Aside0.mk hr; have HL := Aside0.mk hl; clear hr hl
 go_enter Try.func38, Try.ntmps38
 have HO := Aside0.mk (Own.empty (Below.refl w.heap.size w))
 have HA := Aside0.mk (Kd.C_alloc HR.out (.cells #[] 34))
 go_wp2_with (first | ((with_reducible refine gate_builtin (b := .append) (xs := #[.tmp 3, .tmp 4]) rfl ?_); at_builtin; refine Kd.R_append_row cxv (0, 0) (h1 := fun _ => rfl) (w0 := w) w.heap.size rfl (.tmp 3) (.tmp 4) 24 34 (.complex .f64 0 0) 16 rfl Try.underlying24 info_cx rfl (by omega) _ [] xs A xs.length c (fun _ => True) rfl rfl (fun _ _ => trivial) HO.out.row HA.out HO.out.low HO.out.low.size (by have := HL.out; simp; omega) ?_; intro v1 w4 ho hb hg hat))
 have EO := Aside0.mk (Own.mk ho hb)
 clear ho hb hg hat
 go_wp2
 go_ret
 exact ⟨_, rfl, EO.out⟩
theorem Clone_calls (A : Option Addr) (c : Nat) (xs : Cs) (w : World) (hr : cxk.C w A xs.length xs) (hl : xs.length ≤ 1000000000) : Calls Try.prog 66 #[.slice A xs.length c] w fun e w' => ∃ v, e = .returned v ∧ Own w w' v xs := by
 have HR := Aside0.mk hr; have HL := Aside0.mk hl
 cases A with
 | none =>
  have e0 : xs.length = 0 := by
   rcases Nat.eq_zero_or_pos xs.length with h | h
   ·exact h
   ·obtain ⟨ad, h1, _⟩ := cx_at hr 0 (by omega) (by omega)
    cases h1
  have e1 := List.eq_nil_of_length_eq_zero e0
  subst e1
  have hs := fun w => run_isnil (P := Try.prog) w none 0 c Try.underlying24
  clear hr hl e0
  go_enter Try.func66, Try.ntmps66
  go_wp2
  go_ret
  exact ⟨_, rfl, Own.nil (Below.refl _ _)⟩
 | some ad =>
  have hs := fun w => run_isnil (P := Try.prog) w (some ad) xs.length c Try.underlying24
  clear hr hl
  go_enter Try.func66, Try.ntmps66
  have HO := Aside0.mk (Own.empty (Below.refl w.heap.size w))
  have HA := Aside0.mk (Kd.C_alloc HR.out (.cells #[] 34))
  go_wp2_with (first | ((with_reducible refine gate_builtin (b := .append) (xs := #[.tmp 5, .tmp 6]) rfl ?_); at_builtin; refine Kd.R_append_row cxv (0, 0) (h1 := fun _ => rfl) (w0 := w) w.heap.size rfl (.tmp 5) (.tmp 6) 24 34 (.complex .f64 0 0) 16 rfl Try.underlying24 info_cx rfl (by omega) _ [] xs (some ad) xs.length c (fun _ => True) rfl rfl (fun _ _ => trivial) HO.out.row HA.out HO.out.low HO.out.low.size (by have := HL.out; simp; omega) ?_; intro v1 w4 ho hb hg hat))
  have EO := Aside0.mk (Own.mk ho hb)
  clear ho hb hg hat
  go_wp2
  go_ret
  exact ⟨_, rfl, EO.out⟩
set_option maxRecDepth 100000 in
set_option maxHeartbeats 2000000 in
theorem l04Trim_calls (A : Option Addr) (c : Nat) (xs : Cs) (w : World) (hr : cxk.C w A xs.length xs) (hl : xs.length ≤ 1000000000) (hc : xs.length ≤ c) : Calls Try.prog 56 #[.slice A xs.length c] w fun e w' => ∃ v, e = .returned v ∧ Own w w' v (trimL xs) := by
 have HR := Aside0.mk hr; have HL := Aside0.mk (And.intro hl hc); clear hr hl hc
 obtain ⟨N, hN⟩ : ∃ N : Int, (xs.length : Int) = N := ⟨_, rfl⟩
 have HN := Aside0.mk hN
 obtain ⟨T, hT⟩ : ∃ T, trimN xs xs.length = T := ⟨_, rfl⟩
 have HT := Aside0.mk hT; clear hT
 go_enter Try.func56, Try.ntmps56
 go_wp2_with fail
 go_loopg [3] xs.length (fun g u w' => ∃ (m : Nat) (j : Int), u = .int .i64 j ∧ Aside0 (trimN xs g = T ∧ g ≤ xs.length ∧ (g : Int) = j) ∧ w' = w.drewN m)
 case atStart => exact ⟨0, N, rfl, ⟨HT.out, Nat.le_refl _, HN.out⟩, rfl⟩
 case round =>
  obtain ⟨m, j, rfl, hj, rfl⟩ := hrel
  have HJ := Aside0.mk hj.out; clear hj
  cases gk with
  | succ d =>
   obtain ⟨ad, rfl, hx⟩ := cx_at HR.out (d : Int) (by omega) (by have := HJ.out.2; omega)
   have hj0 : 0 < j := by have := HJ.out.2.2; omega
   have hj1 : j ≤ N := by have := HJ.out.2; omega
   have hl' : decide (j > 0) = true := decide_eq_true hj0
   have hw : wrap64 (j - 1) = j - 1 := by have h1 := HJ.out.2; have h2 := HL.out.1; exact w64 (by omega) (by omega)
   rw [show ((d : Int)).toNat = j.toNat - 1 by have := HJ.out.2.2; omega] at hx
   have hj := HJ.out.1
   unfold trimN at hj
   cases hz : zero_ (at_ xs d)
   ·rw [hz] at hj
    have HT2 := Aside0.mk (show d + 1 = T from hj); clear hj
    unfold zero_ isZ at_ at hz
    obtain ⟨i0, hi0, -, -, -⟩ := info_parts info_cx
    have hsl := cut_to (P := Try.prog) 24 34 .i64 Try.underlying24 hi0 (some ad) xs.length c j (by have := HJ.out.2; omega) (by have := HJ.out.2; omega) HL.out.2
    rw [show j.toNat = (trimL xs).length by rw [trimL_len, HT.out, ← HT2.out]; have := HJ.out.2; omega] at hsl
    clear hi0
    go_wp2_with fail
    refine (l04Own_calls (some ad) c (trimL xs) _ (Kd.C_drewN (C_trim HR.out) _) (by rw [trimL_len, HT.out]; have := HJ.out.2; have := HT2.out; have := HL.out; omega)).mono ?_
    rintro e w1 ⟨v, rfl, ho⟩
    have HO := Aside0.mk (ho.lower (pw_below_drewN (Below.refl _ _) _)); clear ho
    go_wp2
    go_ret
    exact ⟨_, rfl, HO.out⟩
   ·rw [hz] at hj
    have HT2 := Aside0.mk (show trimN xs d = T from hj); clear hj
    unfold zero_ isZ at_ at hz
    go_wp2_with fail
    go_roundg d
    case measure => omega
    case rel => exact ⟨_, j - 1, by rw [hw], ⟨HT2.out, by have := HJ.out.2; omega, by have := HJ.out.2; omega⟩, rfl⟩
  | zero =>
   have HT2 := Aside0.mk (show 0 = T from HJ.out.1)
   have hl' : decide (j > 0) = false := decide_eq_false (by have := HJ.out.2; omega)
   obtain ⟨i0, hi0, -, -, -⟩ := info_parts info_cx
   have hsl := cut_to (P := Try.prog) 24 34 .i64 Try.underlying24 hi0 A xs.length c j (by have := HJ.out.2; omega) (by have := HJ.out.2; omega) HL.out.2
   rw [show j.toNat = (trimL xs).length by rw [trimL_len, HT.out, ← HT2.out]; have := HJ.out.2; omega] at hsl
   clear hi0
   go_wp2_with fail
   refine (l04Own_calls A c (trimL xs) _ (Kd.C_drewN (C_trim HR.out) _) (by rw [trimL_len, HT.out]; have := HT2.out; have := HL.out; omega)).mono ?_
   rintro e w1 ⟨v, rfl, ho⟩
   have HO := Aside0.mk (ho.lower (pw_below_drewN (Below.refl _ _) _)); clear ho
   go_wp2
   go_ret
   exact ⟨_, rfl, HO.out⟩
def fitF (xs : Cs) : Cs × Int := if xs.length ≤ 13 then (if finL xs then (trimL xs, 0) else ([], 3)) else ([], 3)
theorem Res.none_ {w w' : World} {k : Int} (h : Below w.heap.size w w') : Res w ([], k) (.returned (.tuple #[.slice none 0 0, .int .i64 k])) w' := ⟨none, 0, rfl, Kd.C_nil _ _, Nat.le_refl _, h⟩
theorem drawn_below {w : World} (n : Nat) : Below w.heap.size w (w.drewN n) := pw_below_drewN (Below.refl _ _) n
end Go.Proofs.Ytdjkcpmoigemdaa
namespace Go.Proofs.Ytdjkcpmoigemdaa
open Go Ieee Go.RowKit Go.Proofs.Ytdjkcpmoigemdaa.Fl Go.Proofs.Ytdjkcpmoigemdaa.Fx Go.Proofs.Ytdjkcpmoigemdaa.P Go.Proofs.YtdjkcpmoigemdaaW.PrintWords Go.Proofs.YtdjkcpmoigemdaaW.PrintLast Go.Proofs.YtdjkcpmoigemdaaW.PrintMore
set_option linter.unusedVariables false
set_option linter.unusedSimpArgs false
attribute [local go_sem] run_add run_sub run_mul run_quo run_cadd run_csub run_neg run_cneg run_store_cx
theorem partB_of {xs : Cs} (h : partB xs = true) : xs.length ≤ 13 ∧ finL xs = true := by
 unfold partB at h
 rw [Bool.and_eq_true, Bool.and_eq_true, decide_eq_true_eq] at h
 exact ⟨h.1, h.2.1⟩
theorem Own.put {w w' : World} {g n cap : Nat} {xs : Cs} (h : Own w w' (.slice (some ⟨g, 0, none⟩) n cap) xs) (i : Int) (z : Nat × Nat) : Own w (w'.setCell ⟨g, i.toNat, none⟩ (.complex .f64 z.1 z.2)) (.slice (some ⟨g, 0, none⟩) n cap) (xs.set i.toNat z) := by
 obtain ⟨h1, h2⟩ := Kd.R_putg (enc := cxv) (h1 := fun _ => rfl) h.row i z
 exact ⟨h1, pw_below_grown h.low (some g) h.low.size h2 (fun k hk => by cases hk; exact Kd.R_base h.row g rfl)⟩
theorem set_mid (os : Cs) (p r : Nat × Nat) (ps : Cs) : (os ++ p :: ps).set os.length r = (os ++ [r]) ++ ps := by simp
structure AddAt (P Q : Cs) (w w' : World) (v : Value) (g : Nat) (j : Int) : Prop where
 at_ : ∃ os ps qs, Own w w' v (os ++ ps) ∧ Adds P Q os ps qs ∧ Stand Q g j qs ∧ (os.length : Int) = j ∧ qs.length ≤ ps.length ∧ finL ps = true ∧ os.length + ps.length = P.length
end Go.Proofs.Ytdjkcpmoigemdaa
namespace Go.Proofs.Ytdjkcpmoigemdaa
open Go Ieee Go.RowKit Go.Proofs.Ytdjkcpmoigemdaa.Fl Go.Proofs.Ytdjkcpmoigemdaa.Fx Go.Proofs.Ytdjkcpmoigemdaa.P Go.Proofs.YtdjkcpmoigemdaaW.PrintWords Go.Proofs.YtdjkcpmoigemdaaW.PrintLast Go.Proofs.YtdjkcpmoigemdaaW.PrintMore
set_option linter.unusedVariables false
set_option linter.unusedSimpArgs false
attribute [local go_sem] run_add run_sub run_mul run_quo run_cadd run_csub run_neg run_cneg run_store_cx
theorem drop_cons (P : Cs) (j : Int) (h0 : 0 ≤ j) (h1 : j < P.length) : P.drop j.toNat = rdOf (0, 0) P j :: P.drop (j + 1).toNat := by
 rw [show (j + 1).toNat = j.toNat + 1 by omega, List.drop_eq_getElem_cons (by omega)]
 congr 1
 unfold rdOf
 rw [List.getD_eq_getElem?_getD, List.getElem?_eq_getElem (by omega)]
 rfl
theorem drop_nil (P : Cs) (j : Int) (h1 : (P.length : Int) ≤ j) : P.drop j.toNat = [] := List.drop_eq_nil_of_le (by omega)
theorem fin_at {P : Cs} (h : finL P = true) (j : Int) (h0 : 0 ≤ j) (h1 : j < P.length) : (isFin (rdOf (0, 0) P j).1 && isFin (rdOf (0, 0) P j).2) = true := by
 have hm : rdOf (0, 0) P j ∈ P := by
  unfold rdOf
  rw [List.getD_eq_getElem?_getD, List.getElem?_eq_getElem (by omega)]
  exact List.getElem_mem _
 unfold finL at h
 rw [List.all_eq_true] at h
 exact h _ hm
structure SumAt (P Q : Cs) (w w' : World) (v : Value) (g : Nat) (j : Int) : Prop where
 at_ : ∃ os, Own w w' v os ∧ Adds P Q os (P.drop j.toNat) (Q.drop j.toNat) ∧ (os.length : Int) = j ∧ j + g = max P.length Q.length
end Go.Proofs.Ytdjkcpmoigemdaa
namespace Go.Proofs.Ytdjkcpmoigemdaa
open Go Ieee Go.RowKit Go.Proofs.Ytdjkcpmoigemdaa.Fl Go.Proofs.Ytdjkcpmoigemdaa.Fx Go.Proofs.Ytdjkcpmoigemdaa.P Go.Proofs.YtdjkcpmoigemdaaW.PrintWords Go.Proofs.YtdjkcpmoigemdaaW.PrintLast Go.Proofs.YtdjkcpmoigemdaaW.PrintMore
set_option linter.unusedVariables false
set_option linter.unusedSimpArgs false
def sumE (s x y : Nat × Nat) : Option (Nat × Nat) := stp (fun a b _ _ => (fop .add (can a) (mulO x.1 x.2 y.1 y.2).1, fop .add (can b) (mulO x.1 x.2 y.1 y.2).2)) s.1 s.2 0 0
theorem sumE_of {s x y : Nat × Nat} {r i : Nat} (hr : can r = fop .add (can s.1) (mulO x.1 x.2 y.1 y.2).1) (hi : can i = fop .add (can s.2) (mulO x.1 x.2 y.1 y.2).2) : sumE s x y = if isFin r && isFin i then some (r, i) else none := stp_of hr hi
theorem mulO_comm (x y : Nat × Nat) : mulO x.1 x.2 y.1 y.2 = mulO y.1 y.2 x.1 x.2 := by
 unfold mulO
 rw [fop_mul_comm (can x.1) (can y.1), fop_mul_comm (can x.2) (can y.2), fop_mul_comm (can x.1) (can y.2), fop_mul_comm (can x.2) (can y.1), fop_add_comm (fop .mul (can y.2) (can x.1))]
theorem sumE_comm (s x y : Nat × Nat) : sumE s x y = sumE s y x := by unfold sumE; rw [mulO_comm]
theorem fop_fin {x y r : Nat} (h : can r = fop .add (can x) (can y)) (hf : isFin r = true) : isFin y = true := by
 have hr : can r = some r := can_fin hf
 rw [hr] at h
 cases hx : can x with
 | none => rw [hx] at h; cases can y <;> simp [fop] at h
 | some a =>
  cases hy : can y with
  | none => rw [hx, hy] at h; simp [fop] at h
  | some b =>
   rw [hx, hy] at h
   have e := can_some hy
   subst e
   exact (fin_terms h.symm hf).2
def mulS (xs ys : Cs) (n : Int) : Nat → Int → Nat × Nat → Option (Nat × Nat)
 | 0, _, s => some s
 | k + 1, i, s => (sumE s (at_ xs i) (at_ ys (n - i))).bind fun s' => mulS xs ys n k (i + 1) s'
def maxI (x y : Int) : Int := if y > x then y else x
def minI (x y : Int) : Int := if y < x then y else x
theorem run_maxI {P : Program} {w : World} (ts : Array TypeId) (t : TypeId) (k k' : IntKind) (x y : Int) : (Builtin.max_ ts t #[.int k x, .int k' y]).run P w = .ok (.int k (maxI x y)) w := run_max_int2 w ts t k k' x y
theorem run_minI {P : Program} {w : World} (ts : Array TypeId) (t : TypeId) (k k' : IntKind) (x y : Int) : (Builtin.min_ ts t #[.int k x, .int k' y]).run P w = .ok (.int k (minI x y)) w := run_min_int2 w ts t k k' x y
def loI (M n : Int) : Int := maxI 0 (n - M + 1)
def hiI (N n : Int) : Int := minI n (N - 1)
def mulC (xs ys : Cs) (n : Int) : Option (Nat × Nat) := mulS xs ys n (hiI xs.length n - loI ys.length n + 1).toNat (loI ys.length n) (0, 0)
def mulG (xs ys : Cs) : Nat → Int → Option Cs
 | 0, _ => some []
 | k + 1, n => (mulC xs ys n).bind fun z => (mulG xs ys k (n + 1)).map (z :: ·)
def mulP (xs ys : Cs) : Cs × Int :=
 if partB xs then (if partB ys then (if xs.length = 0 ∨ ys.length = 0 then ([], 0) else if 13 < xs.length + ys.length - 1 then ([], 3) else fitL (mulG xs ys (xs.length + ys.length - 1) 0)) else ([], 1)) else ([], 1)
theorem mulG_len (xs ys : Cs) : ∀ (k : Nat) (n : Int) (zs : Cs), mulG xs ys k n = some zs → zs.length = k
 | 0, _, zs, h => by cases h; rfl
 | k + 1, n, zs, h => by
  unfold mulG at h
  obtain ⟨z, _, h2⟩ := Option.bind_eq_some_iff.1 h
  obtain ⟨l, h3, rfl⟩ := Option.map_eq_some_iff.1 h2
  rw [List.length_cons, mulG_len xs ys k (n + 1) l h3]
theorem mulC_one (x : Nat × Nat) (ys : Cs) (n : Int) (h0 : 0 ≤ n) (h1 : n < ys.length) : mulC [x] ys n = mulC ys [x] n := by
 have e1 : loI (ys.length : Int) n = 0 := by unfold loI maxI; split <;> omega
 have e2 : hiI ((([x] : Cs).length : Nat) : Int) n = 0 := by unfold hiI minI; simp; omega
 have e3 : loI ((([x] : Cs).length : Nat) : Int) n = n := by unfold loI maxI; simp; omega
 have e4 : hiI (ys.length : Int) n = n := by unfold hiI minI; split <;> omega
 unfold mulC
 rw [e1, e2, e3, e4, show ((0 : Int) - 0 + 1).toNat = 0 + 1 by decide, show (n - n + 1).toNat = 0 + 1 by omega]
 have e5 : n - 0 = n := by omega
 have e6 : n - n = 0 := by omega
 unfold mulS
 rw [e5, e6, sumE_comm]
 rfl
theorem mulG_one (x : Nat × Nat) (ys : Cs) : ∀ (k : Nat) (n : Int), 0 ≤ n → n + k ≤ ys.length → mulG [x] ys k n = mulG ys [x] k n
 | 0, _, _, _ => rfl
 | k + 1, n, h0, h1 => by
  unfold mulG
  rw [mulC_one x ys n h0 (by omega), mulG_one x ys k (n + 1) (by omega) (by omega)]
theorem mulP_one {xs ys : Cs} (h : xs.length = 1) : mulP xs ys = mulP ys xs ∨ (mulP xs ys).2 ≠ 0 := by
 obtain ⟨x, rfl⟩ : ∃ x, xs = [x] := List.length_eq_one_iff.1 h
 unfold mulP
 cases h1 : partB [x]
 ·right; simp
 cases h2 : partB ys
 ·right; simp
 left
 have e : ([x] : Cs).length = 1 := rfl
 rw [e]
 by_cases hz : ys.length = 0
 ·simp [hz]
 ·simp only [hz]
  rw [show 1 + ys.length - 1 = ys.length + 1 - 1 by omega, mulG_one x ys _ 0 (by omega) (by omega)]
  simp
end Go.Proofs.Ytdjkcpmoigemdaa
namespace Go.Proofs.Ytdjkcpmoigemdaa
open Go Ieee Go.RowKit Go.Proofs.Ytdjkcpmoigemdaa.Fl Go.Proofs.Ytdjkcpmoigemdaa.Fx Go.Proofs.Ytdjkcpmoigemdaa.P Go.Proofs.YtdjkcpmoigemdaaW.PrintWords Go.Proofs.YtdjkcpmoigemdaaW.PrintLast Go.Proofs.YtdjkcpmoigemdaaW.PrintMore
set_option linter.unusedVariables false
set_option linter.unusedSimpArgs false
attribute [local go_sem] run_add run_sub run_mul run_quo run_cadd run_csub run_neg run_cneg run_store_cx run_maxI run_minI
attribute [-go_sem] run_max_int2 run_min_int2
structure ProdAt (xs ys : Cs) (R : Option Cs) (w w' : World) (v : Value) (g : Nat) (n : Int) : Prop where
 at_ : ∃ os, Own w w' v os ∧ (mulG xs ys g n).map (os ++ ·) = R ∧ (os.length : Int) = n ∧ n + g = (xs.length : Int) + ys.length - 1
set_option maxRecDepth 100000 in
set_option maxHeartbeats 4000000 in
theorem MultiplyParts_calls (A B : Option Addr) (c d : Nat) (xs ys : Cs) (w : World) (hr : cxk.C w A xs.length xs) (hr2 : cxk.C w B ys.length ys) (hl : xs.length ≤ 1000000000) (hl2 : ys.length ≤ 1000000000) : Calls Try.prog 21 #[.slice A xs.length c, .slice B ys.length d] w fun e w' => Res w (mulP xs ys) e w' := by
 have HR := Aside0.mk hr; have HL := Aside0.mk hl; have HR2 := Aside0.mk hr2; have HL2 := Aside0.mk hl2
 unfold mulP
 cases h1 : partB xs
 ·clear hr hr2 hl hl2
  go_enter Try.func21, Try.ntmps21
  go_wp2_with fail
  refine (isPart_calls A c xs _ HR.out HL.out).mono ?_
  rintro e w1 ⟨rfl, n, rfl⟩
  rw [h1]
  go_wp2
  go_ret2
  exact Res.none_ (drawn_below _)
 rw [if_pos rfl]
 cases h2 : partB ys
 ·clear hr hr2 hl hl2
  go_enter Try.func21, Try.ntmps21
  go_wp2_with fail
  refine (isPart_calls A c xs _ HR.out HL.out).mono ?_
  rintro e w1 ⟨rfl, n, rfl⟩
  rw [h1]
  go_wp2_with fail
  refine (isPart_calls B d ys _ (Kd.C_drewN HR2.out _) HL2.out).mono ?_
  rintro e w1 ⟨rfl, n, rfl⟩
  rw [h2]
  go_wp2
  go_ret2
  exact Res.none_ (by repeat (first | exact Below.refl _ _ | refine pw_below_drewN ?_ _))
 rw [if_pos rfl]
 have P1 := Aside0.mk (partB_of h1); have P2 := Aside0.mk (partB_of h2)
 obtain ⟨N, hN⟩ : ∃ N : Int, (xs.length : Int) = N := ⟨_, rfl⟩
 obtain ⟨M, hM⟩ : ∃ M : Int, (ys.length : Int) = M := ⟨_, rfl⟩
 by_cases hz : xs.length = 0 ∨ ys.length = 0
 ·rw [if_pos hz]
  by_cases hz1 : xs.length = 0
  ·have dz : (N == 0) = true := by simp; omega
   clear hr hr2 hl hl2 hz hz1
   go_enter Try.func21, Try.ntmps21
   go_wp2_with fail
   refine (isPart_calls A c xs _ HR.out HL.out).mono ?_
   rintro e w1 ⟨rfl, n, rfl⟩
   rw [h1]
   go_wp2_with fail
   refine (isPart_calls B d ys _ (Kd.C_drewN HR2.out _) HL2.out).mono ?_
   rintro e w1 ⟨rfl, n, rfl⟩
   rw [h2]
   go_wp2
   go_ret2
   exact Res.none_ (by repeat (first | exact Below.refl _ _ | refine pw_below_drewN ?_ _))
  ·have dz : (N == 0) = false := by simp; omega
   have dz2 : (M == 0) = true := by simp; omega
   clear hr hr2 hl hl2 hz hz1
   go_enter Try.func21, Try.ntmps21
   go_wp2_with fail
   refine (isPart_calls A c xs _ HR.out HL.out).mono ?_
   rintro e w1 ⟨rfl, n, rfl⟩
   rw [h1]
   go_wp2_with fail
   refine (isPart_calls B d ys _ (Kd.C_drewN HR2.out _) HL2.out).mono ?_
   rintro e w1 ⟨rfl, n, rfl⟩
   rw [h2]
   go_wp2
   go_ret2
   exact Res.none_ (by repeat (first | exact Below.refl _ _ | refine pw_below_drewN ?_ _))
 rw [if_neg hz]
 have dz : (N == 0) = false := by simp; omega
 have dz2 : (M == 0) = false := by simp; omega
 have NB : 0 < N ∧ N ≤ 13 ∧ 0 < M ∧ M ≤ 13 := by have h1 := P1.out.1; have h2 := P2.out.1; omega
 have HNB := Aside0.mk NB
 have e1 : wrap64 (N + M) = N + M := w64 (by omega) (by omega)
 have e2 : wrap64 (N + M - 1) = N + M - 1 := w64 (by omega) (by omega)
 by_cases hb : 13 < xs.length + ys.length - 1
 ·rw [if_pos hb]
  have db : decide (N + M - 1 > 13) = true := decide_eq_true (by omega)
  clear hr hr2 hl hl2 hz hb NB
  go_enter Try.func21, Try.ntmps21
  go_wp2_with fail
  refine (isPart_calls A c xs _ HR.out HL.out).mono ?_
  rintro e w1 ⟨rfl, n, rfl⟩
  rw [h1]
  go_wp2_with fail
  refine (isPart_calls B d ys _ (Kd.C_drewN HR2.out _) HL2.out).mono ?_
  rintro e w1 ⟨rfl, n, rfl⟩
  rw [h2]
  go_wp2
  go_ret2
  exact Res.none_ (by repeat (first | exact Below.refl _ _ | refine pw_below_drewN ?_ _))
 rw [if_neg hb]
 have db : decide (N + M - 1 > 13) = false := decide_eq_false (by omega)
 obtain ⟨R, hR⟩ : ∃ R, mulG xs ys (xs.length + ys.length - 1) 0 = R := ⟨_, rfl⟩
 rw [hR]
 have HQ := Aside0.mk hR
 have HT := Aside0.mk (show N + M - 1 ≤ 13 from by omega)
 have HNM := Aside0.mk (And.intro hN hM)
 clear hr hr2 hl hl2 hz hb NB hR
 go_enter Try.func21, Try.ntmps21
 go_wp2_with fail
 refine (isPart_calls A c xs _ HR.out HL.out).mono ?_
 rintro e w1 ⟨rfl, n1, rfl⟩
 rw [h1]
 go_wp2_with fail
 refine (isPart_calls B d ys _ (Kd.C_drewN HR2.out _) HL2.out).mono ?_
 rintro e w1 ⟨rfl, n2, rfl⟩
 rw [h2]
 have HO := Aside0.mk (Own.empty (w := w) (w' := (w.drewN n1).drewN n2) (by repeat (first | exact Below.refl _ _ | refine pw_below_drewN ?_ _)))
 go_wp2_with fail
 simp only [e1, e2]
 go_loopg [6, 44] (xs.length + ys.length - 1) (fun g v u w' => ∃ (n : Int), u = .int .i64 n ∧ Aside0 (ProdAt xs ys R w w' v g n))
 case atStart => exact ⟨0, rfl, ⟨⟨[], by simpa using HO.out, by rw [HQ.out]; cases R <;> rfl, rfl, by have := HNB.out; have := HNM.out; omega⟩⟩⟩
 case round =>
  clear HO
  obtain ⟨n, rfl, hj⟩ := hrel
  obtain ⟨os, ho, hm, hos, hg⟩ := hj.out.at_
  clear hj
  cases gk with
  | succ k =>
   have HO := Aside0.mk ho
   have HJ := Aside0.mk (show 0 ≤ n ∧ n + k + 1 = N + M - 1 ∧ n < N + M - 1 ∧ n ≤ 12 ∧ (os.length : Int) = n by have h1 := HT.out; omega)
   have hl' : decide (n < N + M - 1) = true := decide_eq_true HJ.out.2.2.1
   unfold mulG at hm
   obtain ⟨Z, hZ⟩ : ∃ Z, mulC xs ys n = Z := ⟨_, rfl⟩
   rw [hZ] at hm
   unfold mulC at hZ
   rw [hN, hM] at hZ
   obtain ⟨L, hL⟩ : ∃ L, loI M n = L := ⟨_, rfl⟩
   obtain ⟨H, hH⟩ : ∃ H, hiI N n = H := ⟨_, rfl⟩
   rw [hL, hH] at hZ
   unfold loI at hL
   unfold hiI at hH
   have HLH := Aside0.mk (show 0 ≤ L ∧ L ≤ H ∧ H ≤ n ∧ H < N ∧ n - L < M by
    have h1 := HJ.out; have h2 := HNB.out
    unfold maxI at hL; unfold minI at hH
    split at hL <;> split at hH <;> omega)
   have HM := Aside0.mk hm
   have HZ := Aside0.mk hZ
   have w1 : wrap64 (n - M) = n - M := by have := HJ.out; have := HNB.out; exact w64 (by omega) (by omega)
   have w2 : wrap64 (n - M + 1) = n - M + 1 := by have := HJ.out; have := HNB.out; exact w64 (by omega) (by omega)
   have w3 : wrap64 (N - 1) = N - 1 := by have := HNB.out; exact w64 (by omega) (by omega)
   clear hm hZ ho hos hg
   go_wp2_with fail
   simp only [w1, w2, hL]
   go_loopg [8, 9] (H - L + 1).toNat (fun q v8 v9 w' => ∃ (s1 s2 : Nat) (i : Int), v8 = .complex .f64 s1 s2 ∧ v9 = .int .i64 i ∧ Aside0 (mulS xs ys n q i (s1, s2) = Z ∧ L ≤ i ∧ i + q = H + 1 ∧ Own w w' u6 os))
   case atStart => exact ⟨0, 0, L, rfl, rfl, ⟨HZ.out, by omega, by have := HLH.out; omega, HO.out⟩⟩
   case round =>
    clear HZ HO
    obtain ⟨s1, s2, i, rfl, rfl, hi⟩ := hrel
    have HI := Aside0.mk hi.out; clear hi
    cases gk with
    | succ q =>
     have hi' : decide (i ≤ H) = true := decide_eq_true (by have := HI.out; omega)
     have HIB := Aside0.mk (show 0 ≤ i ∧ i < N ∧ 0 ≤ n - i ∧ n - i < M by have h1 := HI.out; have h2 := HLH.out; omega)
     obtain ⟨ad, rfl, hx⟩ := cx_at (Kd.C_below HR.out HI.out.2.2.2.low) i HIB.out.1 (by have := HIB.out; have := HNM.out; omega)
     obtain ⟨bd, rfl, hy⟩ := cx_at (Kd.C_below HR2.out HI.out.2.2.2.low) (n - i) HIB.out.2.2.1 (by have := HIB.out; have := HNM.out; omega)
     have hz := HI.out.1
     unfold mulS at hz
     obtain ⟨⟨x1, x2⟩, hxx⟩ : ∃ z, rdOf (0, 0) xs i = z := ⟨_, rfl⟩
     obtain ⟨⟨y1, y2⟩, hyy⟩ : ∃ z, rdOf (0, 0) ys (n - i) = z := ⟨_, rfl⟩
     unfold at_ at hz
     rw [hxx] at hx hz
     rw [hyy] at hy hz
     have HZ := Aside0.mk hz
     have w4 : wrap64 (n - i) = n - i := by have := HIB.out; have := HJ.out; exact w64 (by omega) (by omega)
     have q0 := eq_true HIB.out.1
     have q1 := eq_true HIB.out.2.1
     have q2 := eq_true (show i ≤ n by have := HIB.out; omega)
     have q3 := eq_true HIB.out.2.2.2
     have q1' := decide_eq_true HIB.out.2.1
     have q3' := decide_eq_true HIB.out.2.2.2
     clear hz hxx hyy
     go_wp2_with fail
     refine start_ (n := 12) (S := fun w' => w'.cell? (ad.add i.toNat) = some (.complex .f64 x1 x2) ∧ w'.cell? (bd.add (n - i).toNat) = some (.complex .f64 y1 y2)) (ds := [10]) #[false, false, false, false, false, false, false, false, false, false, false, false] (by kernel_rfl) rfl rfl ⟨hx, hy⟩ (fun hHeld => ?_)
     have DW := Aside0.mk ((Below.refl wr.heap.size wr).drew)
     generalize wr.drew = W at hHeld DW ⊢
     refine pure_ (i := 0) (N := some 62) (v := ?_) (a' := ?_) #[true, false, false, false, false, false, false, false, false, false, false, false] rfl rfl (by kernel_rfl) (fun _ _ _ h => h) (Or.inl ⟨by rfl, ?_⟩) ?_ ?_
     rotate_left
     ·intro w'
      go_simp
      with_reducible rfl
     rotate_left
     ·simp only [Act.put, List.setIfInBounds_toArray, List.set_cons_zero, List.set_cons_succ, i64_w, i32_w]
      rfl
     refine pure_ (i := 1) (N := some 63) (v := ?_) (a' := ?_) #[true, true, false, false, false, false, false, false, false, false, false, false] rfl rfl (by kernel_rfl) (fun _ _ _ h => h) (Or.inl ⟨by rfl, ?_⟩) ?_ ?_
     rotate_left
     ·intro w'
      go_simp
      with_reducible rfl
     rotate_left
     ·simp only [Act.put, List.setIfInBounds_toArray, List.set_cons_zero, List.set_cons_succ, i64_w, i32_w]
      rfl
     refine pure_ (i := 2) (N := some 64) (v := ?_) (a' := ?_) #[true, true, true, false, false, false, false, false, false, false, false, false] rfl rfl (by kernel_rfl) (fun _ _ _ h => h) (Or.inl ⟨by rfl, ?_⟩) ?_ ?_
     rotate_left
     ·intro w'
      go_simp
      with_reducible rfl
     rotate_left
     ·simp only [Act.put, List.setIfInBounds_toArray, List.set_cons_zero, List.set_cons_succ, i64_w, i32_w]
      rfl
     refine pure_ (i := 4) (N := some 66) (v := ?_) (a' := ?_) #[true, true, true, false, true, false, false, false, false, false, false, false] rfl rfl (by kernel_rfl) (fun _ _ _ h => h) (Or.inl ⟨by rfl, ?_⟩) ?_ ?_
     rotate_left
     ·intro w'
      go_simp
      with_reducible rfl
     rotate_left
     ·simp only [Act.put, List.setIfInBounds_toArray, List.set_cons_zero, List.set_cons_succ, i64_w, i32_w]
      rfl
     refine pure_ (i := 5) (N := some 67) (v := ?_) (a' := ?_) #[true, true, true, false, true, true, false, false, false, false, false, false] rfl rfl (by kernel_rfl) (fun _ _ _ h => h) (Or.inl ⟨by rfl, ?_⟩) ?_ ?_
     rotate_left
     ·intro w'
      go_simp
      with_reducible rfl
     rotate_left
     ·simp only [Act.put, List.setIfInBounds_toArray, List.set_cons_zero, List.set_cons_succ, i64_w, i32_w]
      rfl
     refine pure_ (i := 6) (N := some 68) (v := ?_) (a' := ?_) #[true, true, true, false, true, true, true, false, false, false, false, false] rfl rfl (by kernel_rfl) (fun _ _ _ h => h) (Or.inl ⟨by rfl, ?_⟩) ?_ ?_
     rotate_left
     ·intro w'
      go_simp
      with_reducible rfl
     rotate_left
     ·simp only [Act.put, List.setIfInBounds_toArray, List.set_cons_zero, List.set_cons_succ, i64_w, i32_w]
      rfl
     refine pure_ (i := 7) (N := some 69) (v := ?_) (a' := ?_) #[true, true, true, false, true, true, true, true, false, false, false, false] rfl rfl (by kernel_rfl) (fun _ _ _ h => h) (Or.inl ⟨by rfl, ?_⟩) ?_ ?_
     rotate_left
     ·intro w'
      go_simp
      with_reducible rfl
     rotate_left
     ·simp only [Act.put, List.setIfInBounds_toArray, List.set_cons_zero, List.set_cons_succ, i64_w, i32_w]
      rfl
     refine pure_ (i := 8) (N := some 70) (v := ?_) (a' := ?_) #[true, true, true, false, true, true, true, true, true, false, false, false] rfl rfl (by kernel_rfl) (fun _ _ _ h => h) (Or.inl ⟨by rfl, ?_⟩) ?_ ?_
     rotate_left
     ·intro w'
      go_simp
      with_reducible rfl
     rotate_left
     ·simp only [Act.put, List.setIfInBounds_toArray, List.set_cons_zero, List.set_cons_succ, i64_w, i32_w]
      rfl
     refine take_ (i := 3) (N := some 65) (v := ?_) (a' := ?_) #[true, true, true, true, true, true, true, true, true, false, false, false] rfl rfl (by kernel_rfl) (fun _ _ _ h => h) (Or.inl ⟨by rfl, ?_⟩) hHeld ?_ ?_
     rotate_left
     ·rintro w' ⟨s0, s1⟩
      go_simp
      with_reducible rfl
     rotate_left
     ·simp only [Act.put, List.setIfInBounds_toArray, List.set_cons_zero, List.set_cons_succ, i64_w, i32_w]
      rfl
     refine take_ (i := 9) (N := some 71) (v := ?_) (a' := ?_) #[true, true, true, true, true, true, true, true, true, true, false, false] rfl rfl (by kernel_rfl) (fun _ _ _ h => h) (Or.inl ⟨by rfl, ?_⟩) hHeld ?_ ?_
     rotate_left
     ·rintro w' ⟨s0, s1⟩
      go_simp
      with_reducible rfl
     rotate_left
     ·simp only [Act.put, List.setIfInBounds_toArray, List.set_cons_zero, List.set_cons_succ, i64_w, i32_w]
      rfl
     refine last_ (i := 10) (N := some 72) #[true, true, true, true, true, true, true, true, true, true, true, false] rfl rfl (by kernel_rfl) (by decide) (fun K hK => ?_)
     refine goes_ Try.func45 (by kernel_rfl) rfl #[.complex .f64 x1 x2, .complex .f64 y1 y2] (by rfl) rfl rfl (by simp only [List.map_toArray, List.map_cons, List.map_nil]; rfl) ?_
     with_reducible refine (multiply_calls x1 x2 y1 y2 _).mono ?_
     rintro e w2 ⟨⟨v2, rfl, pr, pi, rfl, hr, hi⟩, n3, rfl⟩
     refine ⟨_, rfl, ?_⟩
     refine hK.out _ _ ?_
     clear hK K
     refine norm_ (a' := ?_) ?_ ?_
     rotate_left
     ·show Act.put _ (some 72) _ = _
      simp only [Act.put, List.setIfInBounds_toArray, List.set_cons_zero, List.set_cons_succ, i64_w, i32_w]
      rfl
     refine pure_ (i := 11) (N := some 10) (v := ?_) (a' := ?_) #[true, true, true, true, true, true, true, true, true, true, true, true] rfl rfl (by kernel_rfl) (fun _ _ _ h => h) (Or.inl ⟨by rfl, ?_⟩) ?_ ?_
     rotate_left
     ·intro w'
      go_simp
      with_reducible rfl
     rotate_left
     ·simp only [Act.put, List.setIfInBounds_toArray, List.set_cons_zero, List.set_cons_succ, i64_w, i32_w]
      rfl
     refine done_ (by kernel_rfl) ?_
     have HOW := Aside0.mk (HI.out.2.2.2.below DW.out)
     have HPR := Aside0.mk (And.intro hr hi)
     clear hr hi hx hy w4 q0 q1 q2 q3 q1' q3'
     go_wp2_with fail
     refine (add_calls s1 s2 pr pi _).mono ?_
     rintro e w3 ⟨⟨v3, rfl, r, ri, rfl, hr, hi⟩, n4, rfl⟩
     have HSE := Aside0.mk (show sumE (s1, s2) (x1, x2) (y1, y2) = if isFin r && isFin ri then some (r, ri) else none from sumE_of (by rw [hr]; unfold addO; rw [HPR.out.1]) (by rw [hi]; unfold addO; rw [HPR.out.2]))
     have HF := Aside0.mk (show (isFin r && isFin ri) = true → (isFin pr && isFin pi) = true from fun h => by
      rw [Bool.and_eq_true] at h ⊢
      exact ⟨fop_fin hr h.1, fop_fin hi h.2⟩)
     clear hr hi
     cases hgs : (isFin r && isFin ri)
     ·have HRN := Aside0.mk (show fitL R = ([], 3) by
       have h1 := HZ.out
       rw [HSE.out, hgs] at h1
       have h2 : none = Z := h1
       have h3 := HM.out
       rw [← h2] at h3
       have h4 : none = R := h3
       rw [← h4]; rfl)
      cases hgp : (isFin pr && isFin pi)
      ·go_wp2_with fail
       refine (isFinite_calls pr pi _).mono ?_
       rintro e w4 ⟨rfl, n5, rfl⟩
       rw [hgp]
       go_wp2
       go_ret2
       rw [HRN.out]
       exact Res.none_ (by repeat (first | exact HOW.out.low | refine pw_below_drewN ?_ _))
      ·go_wp2_with fail
       refine (isFinite_calls pr pi _).mono ?_
       rintro e w4 ⟨rfl, n5, rfl⟩
       rw [hgp]
       go_wp2_with fail
       refine (isFinite_calls r ri _).mono ?_
       rintro e w4 ⟨rfl, n6, rfl⟩
       rw [hgs]
       go_wp2
       go_ret2
       rw [HRN.out]
       exact Res.none_ (by repeat (first | exact HOW.out.low | refine pw_below_drewN ?_ _))
     ·have hgp := HF.out hgs
      have HZ2 := Aside0.mk (show mulS xs ys n q (i + 1) (r, ri) = Z by
       have h1 := HZ.out
       rw [HSE.out, hgs] at h1
       exact h1)
      go_wp2_with fail
      refine (isFinite_calls pr pi _).mono ?_
      rintro e w4 ⟨rfl, n5, rfl⟩
      rw [hgp]
      go_wp2_with fail
      refine (isFinite_calls r ri _).mono ?_
      rintro e w4 ⟨rfl, n6, rfl⟩
      rw [hgs]
      go_wp2_with fail
      go_roundg q
      case measure => omega
      case rel =>
       have e : wrap64 (i + 1) = i + 1 := by have := HIB.out; have := HNB.out; exact w64 (by omega) (by omega)
       exact ⟨r, ri, i + 1, rfl, by first | rfl | rw [e], ⟨HZ2.out, by have := HI.out; omega, by have := HI.out; omega, by repeat (first | exact HOW.out | refine Own.drewN ?_ _)⟩⟩
    | zero =>
     have hi' : decide (i ≤ H) = false := decide_eq_false (by have := HI.out; omega)
     have HM2 := Aside0.mk (show (mulG xs ys k (n + 1)).map ((os ++ [(s1, s2)]) ++ ·) = R by
      have h1 : some (s1, s2) = Z := HI.out.1
      have h2 := HM.out
      rw [← h1] at h2
      have h3 : ((mulG xs ys k (n + 1)).map ((s1, s2) :: ·)).map (os ++ ·) = R := h2
      rw [← h3]
      cases mulG xs ys k (n + 1) <;> simp)
     have HOW := Aside0.mk HI.out.2.2.2
     go_wp2_with (first | ((with_reducible refine gate_builtin (b := .append) (xs := #[.tmp 84, .tmp 86]) rfl ?_); at_builtin; refine Kd.R_append cxk (w0 := w) w.heap.size rfl (.tmp 84) (.tmp 86) 24 34 (.complex .f64 0 0) 16 rfl Try.underlying24 info_cx rfl (by decide) (by omega) _ os (s1, s2) [.complex .f64 _ _] (fun _ => True) (fun _ => False) rfl rfl ?aP (fun _ hk => hk.elim) ?aF ?aO ?aB ?aS ?aL ?_; (case aP => exact rfl); (case aF => exact (fun _ _ => trivial)); (case aB => repeat (first | exact HOW.out.low | (with_reducible refine pw_below_drewN ?_ _))); (case aO => repeat (first | exact HOW.out.row | (with_reducible refine Kd.R_drewN ?_ _))); (case aS => exact HOW.out.low.size); (case aL => have h1 := HJ.out; omega); intro v1 w4 ho hb hg hat))
     have EO := Aside0.mk (Own.mk ho hb)
     clear ho hb hg hat
     go_wp2_with fail
     go_roundg k
     case measure => omega
     case rel =>
      have e : wrap64 (n + 1) = n + 1 := by have := HJ.out; exact w64 (by omega) (by omega)
      exact ⟨n + 1, by first | rfl | rw [e], ⟨⟨os ++ [(s1, s2)], EO.out, HM2.out, by have := HJ.out; simp; omega, by have := HJ.out; have := HNM.out; omega⟩⟩⟩
  | zero =>
   have hl' : decide (n < N + M - 1) = false := decide_eq_false (by have := HNM.out; omega)
   have hq : some os = R := by
    have h : some (os ++ []) = R := hm
    rw [List.append_nil] at h
    exact h
   have HRS := Aside0.mk (show fitL R = (trimL os, 0) by rw [← hq]; rfl)
   obtain ⟨G, cap, rfl, hcap, hC⟩ := ho.reads
   have HC := Aside0.mk (And.intro hcap (And.intro hC (And.intro ho.low (show os.length ≤ 13 by have := HT.out; have := HNM.out; omega))))
   clear hm ho hos hg hcap hC hq
   go_wp2_with fail
   refine (trim_calls G cap os _ HC.out.2.1 (by have := HC.out.2.2.2; omega) HC.out.1).mono ?_
   rintro e w3 ⟨rfl, n3, rfl⟩
   go_wp2
   go_ret2
   rw [HRS.out]
   exact ⟨G, cap, rfl, by repeat (first | exact C_trim HC.out.2.1 | refine Kd.C_drewN ?_ _), Nat.le_trans (show (trimL os).length ≤ os.length by rw [trimL_len]; exact trimN_le _ _) HC.out.1, by repeat (first | exact HC.out.2.2.1 | refine pw_below_drewN ?_ _)⟩
end Go.Proofs.Ytdjkcpmoigemdaa
namespace Go.Proofs.Ytdjkcpmoigemdaa
open Go Ieee Go.RowKit Go.Proofs.Ytdjkcpmoigemdaa.Fl Go.Proofs.Ytdjkcpmoigemdaa.Fx Go.Proofs.Ytdjkcpmoigemdaa.P Go.Proofs.YtdjkcpmoigemdaaW.PrintWords Go.Proofs.YtdjkcpmoigemdaaW.PrintLast Go.Proofs.YtdjkcpmoigemdaaW.PrintMore
set_option linter.unusedVariables false
set_option linter.unusedSimpArgs false
attribute [local go_sem] run_add run_sub run_mul run_quo run_cadd run_csub run_neg run_cneg run_store_cx run_maxI run_minI
attribute [-go_sem] run_max_int2 run_min_int2
def ResB (w : World) (o : Option Cs) : Ending → World → Prop := fun e w' => ∃ (B : Option Addr) (d : Nat), e = .returned (.tuple #[.slice B (o.getD []).length d, .bool o.isSome]) ∧ cxk.C w' B (o.getD []).length (o.getD []) ∧ (o.getD []).length ≤ d ∧ Below w.heap.size w w'
theorem ResB.none_ {w w' : World} (h : Below w.heap.size w w') : ResB w none (.returned (.tuple #[.slice none 0 0, .bool false])) w' := ⟨none, 0, rfl, Kd.C_nil _ _, Nat.le_refl _, h⟩
theorem ResB.some_ {w w' : World} {v : Value} {os : Cs} (h : Own w w' v os) : ResB w (some os) (.returned (.tuple #[v, .bool true])) w' := by
 obtain ⟨A, c, rfl, hc, hC⟩ := h.reads
 exact ⟨A, c, rfl, hC, hc, h.low⟩
theorem sumE_fin {s x y z : Nat × Nat} (h : sumE s x y = some z) : (isFin z.1 && isFin z.2) = true := by
 unfold sumE stp at h
 split at h
 ·split at h
  ·rename_i hf
   cases h
   exact hf
  ·cases h
 ·cases h
theorem mulS_fin (xs ys : Cs) (n : Int) : ∀ (k : Nat) (i : Int) (s z : Nat × Nat), (isFin s.1 && isFin s.2) = true → mulS xs ys n k i s = some z → (isFin z.1 && isFin z.2) = true
 | 0, _, s, z, hs, h => by cases h; exact hs
 | k + 1, i, s, z, hs, h => by
  unfold mulS at h
  obtain ⟨s', h1, h2⟩ := Option.bind_eq_some_iff.1 h
  exact mulS_fin xs ys n k (i + 1) s' z (sumE_fin h1) h2
theorem mulG_fin (xs ys : Cs) : ∀ (k : Nat) (n : Int) (zs : Cs), mulG xs ys k n = some zs → finL zs = true
 | 0, _, zs, h => by cases h; rfl
 | k + 1, n, zs, h => by
  unfold mulG at h
  obtain ⟨z, h1, h2⟩ := Option.bind_eq_some_iff.1 h
  obtain ⟨l, h3, rfl⟩ := Option.map_eq_some_iff.1 h2
  have h4 := mulG_fin xs ys k (n + 1) l h3
  have h5 := mulS_fin xs ys n _ _ (0, 0) z (by decide) h1
  show ((isFin z.1 && isFin z.2) && finL l) = true
  rw [h4, h5]
  rfl
def mulT (xs ys : Cs) : Option Cs := if xs.length = 0 ∨ ys.length = 0 then some [] else mulG xs ys (xs.length + ys.length - 1) 0
set_option maxRecDepth 100000 in
set_option maxHeartbeats 4000000 in
theorem l04Times_calls (A B : Option Addr) (c d : Nat) (xs ys : Cs) (w : World) (hr : cxk.C w A xs.length xs) (hr2 : cxk.C w B ys.length ys) (hl : xs.length ≤ 1000) (hl2 : ys.length ≤ 1000) : Calls Try.prog 55 #[.slice A xs.length c, .slice B ys.length d] w fun e w' => ResB w (mulT xs ys) e w' := by
 have HR := Aside0.mk hr; have HL := Aside0.mk hl; have HR2 := Aside0.mk hr2; have HL2 := Aside0.mk hl2
 unfold mulT
 obtain ⟨N, hN⟩ : ∃ N : Int, (xs.length : Int) = N := ⟨_, rfl⟩
 obtain ⟨M, hM⟩ : ∃ M : Int, (ys.length : Int) = M := ⟨_, rfl⟩
 have e1 : wrap64 (N + M) = N + M := w64 (by omega) (by omega)
 have e0 : wrap64 ((0 : Int) + 1) = 1 := w64 (by omega) (by omega)
 by_cases hz : xs.length = 0 ∨ ys.length = 0
 ·rw [if_pos hz]
  have HO := Aside0.mk (Own.empty (Below.refl w.heap.size w))
  by_cases hz0 : 1 < N + M
  ·have d0 : decide (1 < N + M) = true := decide_eq_true hz0
   by_cases hz1 : N > 0
   ·have d1 : decide (N > 0) = true := decide_eq_true hz1
    have d2 : decide (M > 0) = false := decide_eq_false (by omega)
    clear hr hr2 hl hl2 hz hz1 hz0
    go_enter Try.func55, Try.ntmps55
    go_wp2_with fail
    go_loopg [6, 7] 0 (fun g v u w' => v = .slice (some ⟨w.heap.size, 0, none⟩) 0 0 ∧ u = .int .i64 0 ∧ Aside0 (Own w w' (.slice (some ⟨w.heap.size, 0, none⟩) 0 0) []))
    case atStart => exact ⟨rfl, rfl, ⟨HO.out⟩⟩
    case round =>
     obtain ⟨rfl, rfl, hrel⟩ := hrel
     have HO2 := Aside0.mk hrel.out
     go_wp2
     go_ret2
     exact ResB.some_ HO2.out
   ·have d1 : decide (N > 0) = false := decide_eq_false hz1
    clear hr hr2 hl hl2 hz hz1 hz0
    go_enter Try.func55, Try.ntmps55
    go_wp2_with fail
    go_loopg [6, 7] 0 (fun g v u w' => v = .slice (some ⟨w.heap.size, 0, none⟩) 0 0 ∧ u = .int .i64 0 ∧ Aside0 (Own w w' (.slice (some ⟨w.heap.size, 0, none⟩) 0 0) []))
    case atStart => exact ⟨rfl, rfl, ⟨HO.out⟩⟩
    case round =>
     obtain ⟨rfl, rfl, hrel⟩ := hrel
     have HO2 := Aside0.mk hrel.out
     go_wp2
     go_ret2
     exact ResB.some_ HO2.out
  ·have d0 : decide (1 < N + M) = false := decide_eq_false hz0
   clear hr hr2 hl hl2 hz hz0
   go_enter Try.func55, Try.ntmps55
   go_wp2_with fail
   go_loopg [6, 7] 0 (fun g v u w' => v = .slice (some ⟨w.heap.size, 0, none⟩) 0 0 ∧ u = .int .i64 0 ∧ Aside0 (Own w w' (.slice (some ⟨w.heap.size, 0, none⟩) 0 0) []))
   case atStart => exact ⟨rfl, rfl, ⟨HO.out⟩⟩
   case round =>
    obtain ⟨rfl, rfl, hrel⟩ := hrel
    have HO2 := Aside0.mk hrel.out
    go_wp2
    go_ret2
    exact ResB.some_ HO2.out
 rw [if_neg hz]
 have NB : 0 < N ∧ N ≤ 1000 ∧ 0 < M ∧ M ≤ 1000 := by omega
 have HNB := Aside0.mk NB
 have d1 : decide (N > 0) = true := decide_eq_true NB.1
 have d2 : decide (M > 0) = true := decide_eq_true NB.2.2.1
 obtain ⟨R, hR⟩ : ∃ R, mulG xs ys (xs.length + ys.length - 1) 0 = R := ⟨_, rfl⟩
 rw [hR]
 have HQ := Aside0.mk hR
 have HNM := Aside0.mk (And.intro hN hM)
 clear hr hr2 hl hl2 hz NB hR
 go_enter Try.func55, Try.ntmps55
 have HO := Aside0.mk (Own.empty (Below.refl w.heap.size w))
 go_wp2_with fail
 go_loopg [6, 7] (xs.length + ys.length - 1) (fun g v u w' => ∃ (n : Int), u = .int .i64 n ∧ Aside0 (ProdAt xs ys R w w' v g n))
 case atStart => exact ⟨0, rfl, ⟨⟨[], HO.out, by rw [HQ.out]; cases R <;> rfl, rfl, by have := HNB.out; have := HNM.out; omega⟩⟩⟩
 case round =>
  clear HO
  obtain ⟨n, rfl, hj⟩ := hrel
  obtain ⟨os, ho, hm, hos, hg⟩ := hj.out.at_
  clear hj
  have e3 : wrap64 (n + 1) = n + 1 := by have := HNB.out; have := HNM.out; exact w64 (by omega) (by omega)
  cases gk with
  | succ k =>
   have HO := Aside0.mk ho
   have HJ := Aside0.mk (show 0 ≤ n ∧ n + k + 1 = N + M - 1 ∧ n < N + M - 1 ∧ n ≤ 2000 ∧ (os.length : Int) = n by have h1 := HNB.out; omega)
   have hl' : decide (n + 1 < N + M) = true := decide_eq_true (by have := HJ.out; omega)
   unfold mulG at hm
   obtain ⟨Z, hZ⟩ : ∃ Z, mulC xs ys n = Z := ⟨_, rfl⟩
   rw [hZ] at hm
   unfold mulC at hZ
   rw [hN, hM] at hZ
   obtain ⟨L, hL⟩ : ∃ L, loI M n = L := ⟨_, rfl⟩
   obtain ⟨H, hH⟩ : ∃ H, hiI N n = H := ⟨_, rfl⟩
   rw [hL, hH] at hZ
   unfold loI at hL
   unfold hiI at hH
   have HLH := Aside0.mk (show 0 ≤ L ∧ L ≤ H ∧ H ≤ n ∧ H < N ∧ n - L < M ∧ ∀ i, i ≤ n → i < N → i ≤ H by
    have h1 := HJ.out; have h2 := HNB.out
    unfold maxI at hL; unfold minI at hH
    split at hL <;> split at hH <;> refine ⟨?_, ?_, ?_, ?_, ?_, ?_⟩ <;> omega)
   have HM := Aside0.mk hm
   have HZ := Aside0.mk hZ
   have w1 : wrap64 (n - M) = n - M := by have := HJ.out; have := HNB.out; exact w64 (by omega) (by omega)
   have w2 : wrap64 (n - M + 1) = n - M + 1 := by have := HJ.out; have := HNB.out; exact w64 (by omega) (by omega)
   clear hm hZ ho hos hg hH
   go_wp2_with fail
   simp only [w1, w2, hL, e3, e1]
   go_loopg [8, 9] (H - L + 1).toNat (fun q v8 v9 w' => ∃ (s1 s2 : Nat) (i : Int), v8 = .complex .f64 s1 s2 ∧ v9 = .int .i64 i ∧ Aside0 (mulS xs ys n q i (s1, s2) = Z ∧ L ≤ i ∧ i + q = H + 1 ∧ Own w w' u6 os))
   case atStart => exact ⟨0, 0, L, rfl, rfl, ⟨HZ.out, by omega, by have := HLH.out; omega, HO.out⟩⟩
   case round =>
    clear HZ HO
    obtain ⟨s1, s2, i, rfl, rfl, hi⟩ := hrel
    have HI := Aside0.mk hi.out; clear hi
    cases gk with
    | succ q =>
     have HIB := Aside0.mk (show 0 ≤ i ∧ i < N ∧ 0 ≤ n - i ∧ n - i < M ∧ i ≤ n by have h1 := HI.out; have h2 := HLH.out; omega)
     have hi' : decide (i ≤ n) = true := decide_eq_true HIB.out.2.2.2.2
     have hi2 : decide (i < N) = true := decide_eq_true HIB.out.2.1
     obtain ⟨ad, rfl, hx⟩ := cx_at (Kd.C_below HR.out HI.out.2.2.2.low) i HIB.out.1 (by have := HIB.out; have := HNM.out; omega)
     obtain ⟨bd, rfl, hy⟩ := cx_at (Kd.C_below HR2.out HI.out.2.2.2.low) (n - i) HIB.out.2.2.1 (by have := HIB.out; have := HNM.out; omega)
     have hz := HI.out.1
     unfold mulS at hz
     obtain ⟨⟨x1, x2⟩, hxx⟩ : ∃ z, rdOf (0, 0) xs i = z := ⟨_, rfl⟩
     obtain ⟨⟨y1, y2⟩, hyy⟩ : ∃ z, rdOf (0, 0) ys (n - i) = z := ⟨_, rfl⟩
     unfold at_ at hz
     rw [hxx] at hx hz
     rw [hyy] at hy hz
     have HZ := Aside0.mk hz
     have w4 : wrap64 (n - i) = n - i := by have := HIB.out; have := HJ.out; exact w64 (by omega) (by omega)
     have q0 := eq_true HIB.out.1
     have q1 := eq_true HIB.out.2.1
     have q2 := eq_true HIB.out.2.2.2.2
     have q3 := eq_true HIB.out.2.2.2.1
     clear hz hxx hyy
     go_wp2_with fail
     refine start_ (n := 14) (S := fun w' => w'.cell? (ad.add i.toNat) = some (.complex .f64 x1 x2) ∧ w'.cell? (bd.add (n - i).toNat) = some (.complex .f64 y1 y2)) (ds := [11, 12]) #[false, false, false, false, false, false, false, false, false, false, false, false, false, false] (by kernel_rfl) rfl rfl ⟨hx, hy⟩ (fun hHeld => ?_)
     have DW := Aside0.mk ((Below.refl wr.heap.size wr).drew)
     generalize wr.drew = W at hHeld DW ⊢
     refine pure_ (i := 0) (N := some 48) (v := ?_) (a' := ?_) #[true, false, false, false, false, false, false, false, false, false, false, false, false, false] rfl rfl (by kernel_rfl) (fun _ _ _ h => h) (Or.inl ⟨by rfl, ?_⟩) ?_ ?_
     rotate_left
     ·intro w'
      go_simp
      with_reducible rfl
     rotate_left
     ·simp only [Act.put, List.setIfInBounds_toArray, List.set_cons_zero, List.set_cons_succ, i64_w, i32_w]
      rfl
     refine pure_ (i := 1) (N := some 49) (v := ?_) (a' := ?_) #[true, true, false, false, false, false, false, false, false, false, false, false, false, false] rfl rfl (by kernel_rfl) (fun _ _ _ h => h) (Or.inl ⟨by rfl, ?_⟩) ?_ ?_
     rotate_left
     ·intro w'
      go_simp
      with_reducible rfl
     rotate_left
     ·simp only [Act.put, List.setIfInBounds_toArray, List.set_cons_zero, List.set_cons_succ, i64_w, i32_w]
      rfl
     refine pure_ (i := 2) (N := some 50) (v := ?_) (a' := ?_) #[true, true, true, false, false, false, false, false, false, false, false, false, false, false] rfl rfl (by kernel_rfl) (fun _ _ _ h => h) (Or.inl ⟨by rfl, ?_⟩) ?_ ?_
     rotate_left
     ·intro w'
      go_simp
      with_reducible rfl
     rotate_left
     ·simp only [Act.put, List.setIfInBounds_toArray, List.set_cons_zero, List.set_cons_succ, i64_w, i32_w]
      rfl
     refine pure_ (i := 3) (N := some 51) (v := ?_) (a' := ?_) #[true, true, true, true, false, false, false, false, false, false, false, false, false, false] rfl rfl (by kernel_rfl) (fun _ _ _ h => h) (Or.inl ⟨by rfl, ?_⟩) ?_ ?_
     rotate_left
     ·intro w'
      go_simp
      with_reducible rfl
     rotate_left
     ·simp only [Act.put, List.setIfInBounds_toArray, List.set_cons_zero, List.set_cons_succ, i64_w, i32_w]
      rfl
     refine pure_ (i := 5) (N := some 53) (v := ?_) (a' := ?_) #[true, true, true, true, false, true, false, false, false, false, false, false, false, false] rfl rfl (by kernel_rfl) (fun _ _ _ h => h) (Or.inl ⟨by rfl, ?_⟩) ?_ ?_
     rotate_left
     ·intro w'
      go_simp
      with_reducible rfl
     rotate_left
     ·simp only [Act.put, List.setIfInBounds_toArray, List.set_cons_zero, List.set_cons_succ, i64_w, i32_w]
      rfl
     refine pure_ (i := 6) (N := some 54) (v := ?_) (a' := ?_) #[true, true, true, true, false, true, true, false, false, false, false, false, false, false] rfl rfl (by kernel_rfl) (fun _ _ _ h => h) (Or.inl ⟨by rfl, ?_⟩) ?_ ?_
     rotate_left
     ·intro w'
      go_simp
      with_reducible rfl
     rotate_left
     ·simp only [Act.put, List.setIfInBounds_toArray, List.set_cons_zero, List.set_cons_succ, i64_w, i32_w]
      rfl
     refine pure_ (i := 7) (N := some 55) (v := ?_) (a' := ?_) #[true, true, true, true, false, true, true, true, false, false, false, false, false, false] rfl rfl (by kernel_rfl) (fun _ _ _ h => h) (Or.inl ⟨by rfl, ?_⟩) ?_ ?_
     rotate_left
     ·intro w'
      go_simp
      with_reducible rfl
     rotate_left
     ·simp only [Act.put, List.setIfInBounds_toArray, List.set_cons_zero, List.set_cons_succ, i64_w, i32_w]
      rfl
     refine pure_ (i := 8) (N := some 56) (v := ?_) (a' := ?_) #[true, true, true, true, false, true, true, true, true, false, false, false, false, false] rfl rfl (by kernel_rfl) (fun _ _ _ h => h) (Or.inl ⟨by rfl, ?_⟩) ?_ ?_
     rotate_left
     ·intro w'
      go_simp
      with_reducible rfl
     rotate_left
     ·simp only [Act.put, List.setIfInBounds_toArray, List.set_cons_zero, List.set_cons_succ, i64_w, i32_w]
      rfl
     refine pure_ (i := 9) (N := some 57) (v := ?_) (a' := ?_) #[true, true, true, true, false, true, true, true, true, true, false, false, false, false] rfl rfl (by kernel_rfl) (fun _ _ _ h => h) (Or.inl ⟨by rfl, ?_⟩) ?_ ?_
     rotate_left
     ·intro w'
      go_simp
      with_reducible rfl
     rotate_left
     ·simp only [Act.put, List.setIfInBounds_toArray, List.set_cons_zero, List.set_cons_succ, i64_w, i32_w]
      rfl
     refine take_ (i := 4) (N := some 52) (v := ?_) (a' := ?_) #[true, true, true, true, true, true, true, true, true, true, false, false, false, false] rfl rfl (by kernel_rfl) (fun _ _ _ h => h) (Or.inl ⟨by rfl, ?_⟩) hHeld ?_ ?_
     rotate_left
     ·rintro w' ⟨s0, s1⟩
      go_simp
      with_reducible rfl
     rotate_left
     ·simp only [Act.put, List.setIfInBounds_toArray, List.set_cons_zero, List.set_cons_succ, i64_w, i32_w]
      rfl
     refine take_ (i := 10) (N := some 58) (v := ?_) (a' := ?_) #[true, true, true, true, true, true, true, true, true, true, true, false, false, false] rfl rfl (by kernel_rfl) (fun _ _ _ h => h) (Or.inl ⟨by rfl, ?_⟩) hHeld ?_ ?_
     rotate_left
     ·rintro w' ⟨s0, s1⟩
      go_simp
      with_reducible rfl
     rotate_left
     ·simp only [Act.put, List.setIfInBounds_toArray, List.set_cons_zero, List.set_cons_succ, i64_w, i32_w]
      rfl
     refine last_ (i := 11) (N := some 59) #[true, true, true, true, true, true, true, true, true, true, true, true, false, false] rfl rfl (by kernel_rfl) (by decide) (fun K hK => ?_)
     refine goes_ Try.func64 (by kernel_rfl) rfl #[.complex .f64 x1 x2, .complex .f64 y1 y2] (by rfl) rfl rfl (by simp only [List.map_toArray, List.map_cons, List.map_nil]; rfl) ?_
     with_reducible refine (l01Times_calls x1 x2 y1 y2 _).mono ?_
     rintro e w2 ⟨⟨v2, rfl, pr, pi, rfl, hr, hi⟩, n3, rfl⟩
     refine ⟨_, rfl, ?_⟩
     refine hK.out _ _ ?_
     clear hK K
     refine norm_ (a' := ?_) ?_ ?_
     rotate_left
     ·show Act.put _ (some 59) _ = _
      simp only [Act.put, List.setIfInBounds_toArray, List.set_cons_zero, List.set_cons_succ, i64_w, i32_w]
      rfl
     refine last_ (i := 12) (N := some 60) #[true, true, true, true, true, true, true, true, true, true, true, true, true, false] rfl rfl (by kernel_rfl) (by decide) (fun K hK => ?_)
     refine value_ (w1 := ?_) (v := ?_) (by rfl) rfl ?_ ?_
     rotate_left 2
     ·go_simp
      constructor
      ·rfl
      ·rfl
     refine hK.out _ _ ?_
     clear hK K
     refine norm_ (a' := ?_) ?_ ?_
     rotate_left
     ·show Act.put _ (some 60) _ = _
      simp only [Act.put, List.setIfInBounds_toArray, List.set_cons_zero, List.set_cons_succ, i64_w, i32_w]
      rfl
     refine pure_ (i := 13) (N := some 8) (v := ?_) (a' := ?_) #[true, true, true, true, true, true, true, true, true, true, true, true, true, true] rfl rfl (by kernel_rfl) (fun _ _ _ h => h) (Or.inl ⟨by rfl, ?_⟩) ?_ ?_
     rotate_left
     ·intro w'
      go_simp
      with_reducible rfl
     rotate_left
     ·simp only [Act.put, List.setIfInBounds_toArray, List.set_cons_zero, List.set_cons_succ, i64_w, i32_w]
      rfl
     refine done_ (by kernel_rfl) ?_
     have HOW := Aside0.mk (HI.out.2.2.2.below DW.out)
     obtain ⟨r, hrr⟩ : ∃ r, fr .add s1 pr (W.drewN n3) = r := ⟨_, rfl⟩
     obtain ⟨ri, hri⟩ : ∃ r, fr .add s2 pi (W.drewN (n3 + fn .add s1 pr)) = r := ⟨_, rfl⟩
     rw [hrr, hri]
     have HSE := Aside0.mk (show sumE (s1, s2) (x1, x2) (y1, y2) = if isFin r && isFin ri then some (r, ri) else none from sumE_of (by rw [← hrr, can_fr, hr]) (by rw [← hri, can_fr, hi]))
     clear hrr hri hr hi hx hy w4 q0 q1 q2 q3
     cases hgs : (isFin r && isFin ri)
     ·have HRN := Aside0.mk (show R = none by
       have h1 := HZ.out
       rw [HSE.out, hgs] at h1
       have h2 : none = Z := h1
       have h3 := HM.out
       rw [← h2] at h3
       exact h3.symm)
      go_wp2_with fail
      refine (l01Finite_calls r ri _).mono ?_
      rintro e w4 ⟨rfl, n6, rfl⟩
      rw [hgs]
      go_wp2
      go_ret2
      rw [HRN.out]
      exact ResB.none_ (by repeat (first | exact HOW.out.low | refine pw_below_drewN ?_ _))
     ·have HZ2 := Aside0.mk (show mulS xs ys n q (i + 1) (r, ri) = Z by
       have h1 := HZ.out
       rw [HSE.out, hgs] at h1
       exact h1)
      go_wp2_with fail
      refine (l01Finite_calls r ri _).mono ?_
      rintro e w4 ⟨rfl, n6, rfl⟩
      rw [hgs]
      go_wp2_with fail
      go_roundg q
      case measure => omega
      case rel =>
       have e : wrap64 (i + 1) = i + 1 := by have := HIB.out; have := HNB.out; exact w64 (by omega) (by omega)
       exact ⟨r, ri, i + 1, rfl, by first | rfl | rw [e], ⟨HZ2.out, by have := HI.out; omega, by have := HI.out; omega, by repeat (first | exact HOW.out | refine Own.drewN ?_ _)⟩⟩
    | zero =>
     have HM2 := Aside0.mk (show (mulG xs ys k (n + 1)).map ((os ++ [(s1, s2)]) ++ ·) = R by
      have h1 : some (s1, s2) = Z := HI.out.1
      have h2 := HM.out
      rw [← h1] at h2
      have h3 : ((mulG xs ys k (n + 1)).map ((s1, s2) :: ·)).map (os ++ ·) = R := h2
      rw [← h3]
      cases mulG xs ys k (n + 1) <;> simp)
     have HOW := Aside0.mk HI.out.2.2.2
     by_cases hin : i ≤ n
     ·have hi' : decide (i ≤ n) = true := decide_eq_true hin
      have hi2 : decide (i < N) = false := decide_eq_false (fun h => by have h1 := HLH.out.2.2.2.2.2 i hin h; have := HI.out; omega)
      clear hin
      go_wp2_with (first | ((with_reducible refine gate_builtin (b := .append) (xs := #[.tmp 64, .tmp 66]) rfl ?_); at_builtin; refine Kd.R_append cxk (w0 := w) w.heap.size rfl (.tmp 64) (.tmp 66) 24 34 (.complex .f64 0 0) 16 rfl Try.underlying24 info_cx rfl (by decide) (by omega) _ os (s1, s2) [.complex .f64 _ _] (fun _ => True) (fun _ => False) rfl rfl ?aP (fun _ hk => hk.elim) ?aF ?aO ?aB ?aS ?aL ?_; (case aP => exact rfl); (case aF => exact (fun _ _ => trivial)); (case aB => repeat (first | exact HOW.out.low | (with_reducible refine pw_below_drewN ?_ _))); (case aO => repeat (first | exact HOW.out.row | (with_reducible refine Kd.R_drewN ?_ _))); (case aS => exact HOW.out.low.size); (case aL => have h1 := HJ.out; omega); intro v1 w4 ho hb hg hat))
      have EO := Aside0.mk (Own.mk ho hb)
      clear ho hb hg hat
      go_wp2_with fail
      go_roundg k
      case measure => omega
      case rel => exact ⟨n + 1, by first | rfl | rw [e3], ⟨⟨os ++ [(s1, s2)], EO.out, HM2.out, by have := HJ.out; simp; omega, by have := HJ.out; have := HNM.out; omega⟩⟩⟩
     ·have hi' : decide (i ≤ n) = false := decide_eq_false hin
      clear hin
      go_wp2_with (first | ((with_reducible refine gate_builtin (b := .append) (xs := #[.tmp 64, .tmp 66]) rfl ?_); at_builtin; refine Kd.R_append cxk (w0 := w) w.heap.size rfl (.tmp 64) (.tmp 66) 24 34 (.complex .f64 0 0) 16 rfl Try.underlying24 info_cx rfl (by decide) (by omega) _ os (s1, s2) [.complex .f64 _ _] (fun _ => True) (fun _ => False) rfl rfl ?bP (fun _ hk => hk.elim) ?bF ?bO ?bB ?bS ?bL ?_; (case bP => exact rfl); (case bF => exact (fun _ _ => trivial)); (case bB => repeat (first | exact HOW.out.low | (with_reducible refine pw_below_drewN ?_ _))); (case bO => repeat (first | exact HOW.out.row | (with_reducible refine Kd.R_drewN ?_ _))); (case bS => exact HOW.out.low.size); (case bL => have h1 := HJ.out; omega); intro v1 w4 ho hb hg hat))
      have EO := Aside0.mk (Own.mk ho hb)
      clear ho hb hg hat
      go_wp2_with fail
      go_roundg k
      case measure => omega
      case rel => exact ⟨n + 1, by first | rfl | rw [e3], ⟨⟨os ++ [(s1, s2)], EO.out, HM2.out, by have := HJ.out; simp; omega, by have := HJ.out; have := HNM.out; omega⟩⟩⟩
  | zero =>
   have hl' : decide (n + 1 < N + M) = false := decide_eq_false (by have := HNM.out; omega)
   have hq : some os = R := by
    have h : some (os ++ []) = R := hm
    rw [List.append_nil] at h
    exact h
   have HRS := Aside0.mk hq
   have HC := Aside0.mk ho
   clear hm ho hos hg hq
   go_wp2
   go_ret2
   rw [← HRS.out]
   exact ResB.some_ (by repeat (first | exact HC.out | refine Own.drewN ?_ _))
end Go.Proofs.Ytdjkcpmoigemdaa
namespace Go.Proofs.Ytdjkcpmoigemdaa
open Go Ieee Go.RowKit Go.Proofs.Ytdjkcpmoigemdaa.Fl Go.Proofs.Ytdjkcpmoigemdaa.Fx Go.Proofs.Ytdjkcpmoigemdaa.P Go.Proofs.YtdjkcpmoigemdaaW.PrintWords Go.Proofs.YtdjkcpmoigemdaaW.PrintLast Go.Proofs.YtdjkcpmoigemdaaW.PrintMore
set_option linter.unusedVariables false
set_option linter.unusedSimpArgs false
attribute [local go_sem] run_add run_sub run_quo run_cadd run_csub run_neg run_cneg run_store_cx conv_f
theorem run_mul_some {P : Program} {x y r : Nat} (t : TypeId) (h : fb .mul x y = some r) (w : World) : (binOp .mul t (.float .f64 x) (.float .f64 y)).run P w = .ok (.float .f64 r) w := by
 rw [run_mul]
 unfold fr fn
 rw [h]
 simp
 rfl
def mulF (x : Nat) (n : Int) : Nat := (fb .mul x (floatOfInt .f64 n)).getD 0
theorem foi_fin (n : Int) (h0 : 0 ≤ n) (h1 : n ≤ 13) : isFin (floatOfInt .f64 n) = true := by
 obtain ⟨k, rfl⟩ : ∃ k : Nat, n = k := ⟨n.toNat, by omega⟩
 have hk : k ≤ 13 := by omega
 have : ∀ k : Fin 14, isFin (floatOfInt .f64 ((k.val : Nat) : Int)) = true := by decide +kernel
 exact this ⟨k, by omega⟩
theorem mulF_some {x : Nat} {n : Int} (hx : isFin x = true) (h0 : 0 ≤ n) (h1 : n ≤ 13) : fb .mul x (floatOfInt .f64 n) = some (mulF x n) := by
 obtain ⟨r, hr⟩ := fb_mul_some hx (foi_fin n h0 h1)
 unfold mulF
 rw [hr]
 rfl
def derG (xs : Cs) : Nat → Int → Cs
 | 0, _ => []
 | k + 1, i => (mulF (at_ xs i).1 i, mulF (at_ xs i).2 i) :: derG xs k (i + 1)
def derL (xs : Cs) : Cs := derG xs (xs.length - 1) 1
theorem derG_len (xs : Cs) : ∀ (k : Nat) (i : Int), (derG xs k i).length = k
 | 0, _ => rfl
 | k + 1, i => by unfold derG; rw [List.length_cons, derG_len xs k (i + 1)]
structure DerAt (xs : Cs) (w w' : World) (v : Value) (g : Nat) (i : Int) : Prop where
 at_ : ∃ os, Own w w' v os ∧ os ++ derG xs g i = derL xs ∧ (os.length : Int) + 1 = i ∧ i + g = max 1 (xs.length : Int)
end Go.Proofs.Ytdjkcpmoigemdaa
namespace Go.Proofs.Ytdjkcpmoigemdaa
open Go Ieee Go.RowKit Go.Proofs.Ytdjkcpmoigemdaa.Fl Go.Proofs.Ytdjkcpmoigemdaa.Fx Go.Proofs.Ytdjkcpmoigemdaa.P Go.Proofs.YtdjkcpmoigemdaaW.PrintWords Go.Proofs.YtdjkcpmoigemdaaW.PrintLast Go.Proofs.YtdjkcpmoigemdaaW.PrintMore
set_option linter.unusedVariables false
set_option linter.unusedSimpArgs false
theorem foi_read (n : Int) (h0 : 1 ≤ n) (h1 : n ≤ 13) : double.read (floatOfInt .f64 n) = .number false (n.toNat * 2 ^ (52 - n.toNat.log2)) (-((52 - n.toNat.log2 : Nat) : Int)) := by
 obtain ⟨k, rfl⟩ : ∃ k : Nat, n = k := ⟨n.toNat, by omega⟩
 have : ∀ k : Fin 14, 1 ≤ k.val → double.read (floatOfInt .f64 ((k.val : Nat) : Int)) = .number false (((k.val : Nat) : Int).toNat * 2 ^ (52 - ((k.val : Nat) : Int).toNat.log2)) (-((52 - ((k.val : Nat) : Int).toNat.log2 : Nat) : Int)) := by decide +kernel
 exact this ⟨k, by omega⟩ (by simp; omega)
theorem mulF_zero {x : Nat} {n : Int} (hf : isFin x = true) (h0 : 1 ≤ n) (h1 : n ≤ 13) (hr : isFin (mulF x n) = true) (hz : U (mulF x n) = 0) : U x = 0 := by
 obtain ⟨s, m, p, e1, e2, e3, e4, e5, e6⟩ := U_bound hf
 have key : mulF x n = double.nearest s (m * n.toNat * 2 ^ (p + 1074).toNat) (-1074) := by
  have hs := mulF_some hf (show 0 ≤ n by omega) h1
  have hp : ((double.read x).product (double.read (floatOfInt .f64 n))).map double.write = some (mulF x n) := hs
  rw [e1, foi_read n h0 h1] at hp
  simp only [Datum.product, Option.map_some, Option.some.injEq] at hp
  rw [← hp]
  show double.nearest (s ^^ false) (m * (n.toNat * 2 ^ (52 - n.toNat.log2))) (p + -((52 - n.toNat.log2 : Nat) : Int)) = _
  have a1 := nearest_shift s (m * n.toNat) p (52 - n.toNat.log2)
  have a2 := nearest_shift s (m * n.toNat) p (p + 1074).toNat
  rw [show p - (((p + 1074).toNat : Nat) : Int) = -1074 from by omega] at a2
  rw [show (s ^^ false) = s from by cases s <;> rfl, ← Nat.mul_assoc, show p + -((52 - n.toNat.log2 : Nat) : Int) = p - ((52 - n.toNat.log2 : Nat) : Int) from by omega, a1, a2]
 by_cases hm : m = 0
 ·subst hm
  rw [e6]
  cases s <;> simp [signed]
 ·exfalso
  have hX : m * n.toNat * 2 ^ (p + 1074).toNat ≠ 0 := Nat.mul_ne_zero (Nat.mul_ne_zero hm (by omega)) (Nat.pos_iff_ne_zero.1 (Nat.two_pow_pos _))
  rw [key] at hz hr
  have hge := vo_ge hX e2 (show m * 2 ^ (p + 1074).toNat ≤ m * n.toNat * 2 ^ (p + 1074).toNat from Nat.mul_le_mul_right _ (Nat.le_mul_of_pos_right _ (by omega)))
  have hpos : 0 < m * 2 ^ (p + 1074).toNat := Nat.mul_pos (Nat.pos_of_ne_zero hm) (Nat.two_pow_pos _)
  rcases nearest_fin s hX with ⟨_, e⟩ | e
  ·rw [e, signed_eq] at hz
   cases s <;> simp at hz <;> omega
  ·unfold isFin at hr
   rw [show rd64 _ = _ from e] at hr
   cases hr
end Go.Proofs.Ytdjkcpmoigemdaa
namespace Go.Proofs.Ytdjkcpmoigemdaa
open Go Ieee Go.RowKit Go.Proofs.Ytdjkcpmoigemdaa.Fl Go.Proofs.Ytdjkcpmoigemdaa.Fx Go.Proofs.Ytdjkcpmoigemdaa.P Go.Proofs.YtdjkcpmoigemdaaW.PrintWords Go.Proofs.YtdjkcpmoigemdaaW.PrintLast Go.Proofs.YtdjkcpmoigemdaaW.PrintMore
set_option linter.unusedVariables false
set_option linter.unusedSimpArgs false
attribute [local go_sem] run_add run_sub run_mul run_quo run_cadd run_csub run_neg run_cneg run_store_cx
theorem polyB_of {xs : Cs} (h : polyB xs = true) : 2 ≤ xs.length ∧ xs.length ≤ 13 ∧ finL xs = true ∧ lastZ xs = false := by
 unfold polyB at h
 simp only [Bool.and_eq_true, decide_eq_true_eq, Bool.not_eq_true'] at h
 exact ⟨h.1, h.2.1, h.2.2.1, h.2.2.2⟩
theorem trimL_self {zs : Cs} (h : lastZ zs = false) : trimL zs = zs := by
 unfold trimL
 cases hn : zs.length with
 | zero => rw [List.eq_nil_of_length_eq_zero hn]; rfl
 | succ k =>
  unfold lastZ at h
  rw [hn, show (((k + 1 : Nat) : Int) - 1) = (k : Int) by omega] at h
  unfold trimN
  rw [h]
  show zs.take (k + 1) = zs
  rw [← hn, List.take_length]
theorem zero_U {z : Nat × Nat} (h1 : isFin z.1 = true) (h2 : isFin z.2 = true) : zero_ z = true ↔ U z.1 = 0 ∧ U z.2 = 0 := by
 have f0 : isFin 0 = true := by decide
 have u0 : U 0 = 0 := by decide
 unfold zero_ isZ
 rw [Bool.and_eq_true, beq_iff_eq, beq_iff_eq, (gt_U f0 h1).2.2, (gt_U f0 h2).2.2, u0]
theorem derG_at (xs : Cs) : ∀ (k : Nat) (i : Int) (j : Nat), j < k → at_ (derG xs k i) (j : Int) = (mulF (at_ xs (i + j)).1 (i + j), mulF (at_ xs (i + j)).2 (i + j))
 | k + 1, i, 0, _ => by
  have e : i + ((0 : Nat) : Int) = i := by omega
  rw [e]
  rfl
 | k + 1, i, j + 1, h => by
  have e : i + ((j + 1 : Nat) : Int) = (i + 1) + (j : Int) := by omega
  rw [e, ← derG_at xs k (i + 1) j (by omega)]
  rfl
theorem derL_len (xs : Cs) : (derL xs).length = xs.length - 1 := derG_len xs _ _
theorem derL_trim {xs : Cs} (h : polyB xs = true) (hf : finL (derL xs) = true) : trimL (derL xs) = derL xs := by
 obtain ⟨h1, h2, h3, h4⟩ := polyB_of h
 apply trimL_self
 rw [Bool.eq_false_iff]
 intro hz
 unfold lastZ at hz
 have hl := derL_len xs
 have f1 := fin_at hf (((derL xs).length : Int) - 1) (by omega) (by omega)
 have f2 := fin_at h3 ((xs.length : Int) - 1) (by omega) (by omega)
 have e1 : at_ (derL xs) (((derL xs).length : Int) - 1) = (mulF (at_ xs ((xs.length : Int) - 1)).1 ((xs.length : Int) - 1), mulF (at_ xs ((xs.length : Int) - 1)).2 ((xs.length : Int) - 1)) := by
  have := derG_at xs (xs.length - 1) 1 (xs.length - 2) (by omega)
  rw [show ((derL xs).length : Int) - 1 = ((xs.length - 2 : Nat) : Int) by omega]
  rw [show (1 : Int) + ((xs.length - 2 : Nat) : Int) = (xs.length : Int) - 1 by omega] at this
  exact this
 rw [show rdOf (0, 0) (derL xs) (((derL xs).length : Int) - 1) = at_ (derL xs) (((derL xs).length : Int) - 1) from rfl, e1, Bool.and_eq_true] at f1
 rw [Bool.and_eq_true] at f2
 rw [e1, zero_U f1.1 f1.2] at hz
 have g1 := mulF_zero f2.1 (by omega) (by omega) f1.1 hz.1
 have g2 := mulF_zero f2.2 (by omega) (by omega) f1.2 hz.2
 have := (zero_U (z := at_ xs ((xs.length : Int) - 1)) f2.1 f2.2).2 ⟨g1, g2⟩
 unfold lastZ at h4
 rw [this] at h4
 cases h4
def derP (xs : Cs) : Cs × Int := if polyB xs then (if finL (derL xs) then (derL xs, 0) else ([], 3)) else ([], 1)
end Go.Proofs.Ytdjkcpmoigemdaa
namespace Go.Proofs.Ytdjkcpmoigemdaa
open Go Ieee Go.RowKit Go.Proofs.Ytdjkcpmoigemdaa.Fl Go.Proofs.Ytdjkcpmoigemdaa.Fx Go.Proofs.Ytdjkcpmoigemdaa.P Go.Proofs.YtdjkcpmoigemdaaW.PrintWords Go.Proofs.YtdjkcpmoigemdaaW.PrintLast Go.Proofs.YtdjkcpmoigemdaaW.PrintMore
set_option linter.unusedVariables false
set_option linter.unusedSimpArgs false
attribute [local go_sem] run_add run_sub run_mul run_quo run_cadd run_csub run_neg run_cneg run_store_cx
def one_n : Nat × Nat := (4607182418800017408, 0)
def monG (xs : Cs) (q : Nat × Nat) : Nat → Int → Option Cs
 | 0, _ => some [one_n]
 | k + 1, i => (stp quoO (at_ xs i).1 (at_ xs i).2 q.1 q.2).bind fun z => (monG xs q k (i + 1)).map (z :: ·)
def monL (xs : Cs) : Option Cs := monG xs (at_ xs ((xs.length : Int) - 1)) (xs.length - 1) 0
def monP (xs : Cs) : Cs × Int := if polyB xs then (match monL xs with | some zs => (zs, 0) | none => ([], 3)) else ([], 1)
theorem monG_len (xs : Cs) (q : Nat × Nat) : ∀ (k : Nat) (i : Int) (zs : Cs), monG xs q k i = some zs → zs.length = k + 1 ∧ at_ zs k = one_n
 | 0, _, zs, h => by cases h; exact ⟨rfl, rfl⟩
 | k + 1, i, zs, h => by
  unfold monG at h
  obtain ⟨z, _, h2⟩ := Option.bind_eq_some_iff.1 h
  obtain ⟨l, h3, rfl⟩ := Option.map_eq_some_iff.1 h2
  obtain ⟨h4, h5⟩ := monG_len xs q k (i + 1) l h3
  exact ⟨by rw [List.length_cons, h4], h5⟩
structure Mons (xs : Cs) (q : Nat × Nat) (R : Option Cs) (os : Cs) (k : Nat) (i : Int) : Prop where
 ok : finL os = true → R = (monG xs q k i).map (os ++ ·)
 no : finL os = false → R = none
theorem Mons.next {xs : Cs} {q : Nat × Nat} {R : Option Cs} {os : Cs} {k : Nat} {i : Int} {a b : Nat} (h : Mons xs q R os (k + 1) i) (ha : can a = (quoO (at_ xs i).1 (at_ xs i).2 q.1 q.2).1) (hb : can b = (quoO (at_ xs i).1 (at_ xs i).2 q.1 q.2).2) : Mons xs q R (os ++ [(a, b)]) k (i + 1) := by
 have e := stp_of ha hb
 have key : monG xs q (k + 1) i = ((stp quoO (at_ xs i).1 (at_ xs i).2 q.1 q.2).bind fun z => (monG xs q k (i + 1)).map (z :: ·)) := rfl
 rw [e] at key
 constructor
 ·intro hf
  rw [finL_append, finL_one, Bool.and_eq_true] at hf
  rw [h.ok hf.1, key, if_pos hf.2]
  cases monG xs q k (i + 1) <;> simp
 ·intro hf
  rw [finL_append, finL_one] at hf
  cases h1 : finL os
  ·exact h.no h1
  ·rw [h1, Bool.true_and] at hf
   rw [h.ok h1, key, hf]
   rfl
theorem Mons.done {xs : Cs} {q : Nat × Nat} {R : Option Cs} {os : Cs} {i : Int} (h : Mons xs q R os 0 i) : R = if finL (os ++ [one_n]) then some (os ++ [one_n]) else none := by
 rw [finL_append, show finL [one_n] = true by decide, Bool.and_true]
 cases h1 : finL os
 ·exact h.no h1
 ·rw [h.ok h1]; rfl
structure MonAt (xs : Cs) (q : Nat × Nat) (R : Option Cs) (w w' : World) (v : Value) (g : Nat) (i : Int) : Prop where
 at_ : ∃ os, Own w w' v os ∧ Mons xs q R os g i ∧ (os.length : Int) = i ∧ i + g = (xs.length : Int) - 1
set_option maxRecDepth 100000 in
set_option maxHeartbeats 4000000 in
theorem monic_calls (A : Option Addr) (c : Nat) (xs : Cs) (w : World) (hr : cxk.C w A xs.length xs) (hl : xs.length ≤ 13) (h2 : 1 ≤ xs.length) (hc : xs.length ≤ c) (hq : (at_ xs ((xs.length : Int) - 1)).1 < 2 ^ 64 ∧ (at_ xs ((xs.length : Int) - 1)).2 < 2 ^ 64) : Calls Try.prog 35 #[.slice A xs.length c] w fun e w' => ∃ v zs, e = .returned v ∧ Own w w' v zs ∧ zs.length = xs.length ∧ monL xs = if finL zs then some zs else none := by
 have HR := Aside0.mk hr; have HL := Aside0.mk (And.intro hl (And.intro h2 hc))
 obtain ⟨N, hN⟩ : ∃ N : Int, (xs.length : Int) = N := ⟨_, rfl⟩
 obtain ⟨ad, rfl, hlast⟩ := cx_last hr hN (by omega) (by omega)
 obtain ⟨q, hqq⟩ : ∃ q, at_ xs ((xs.length : Int) - 1) = q := ⟨_, rfl⟩
 obtain ⟨R, hR⟩ : ∃ R, monL xs = R := ⟨_, rfl⟩
 rw [hR]
 unfold monL at hR
 rw [hqq] at hR hlast hq
 obtain ⟨q1, q2⟩ := q
 have HLA := Aside0.mk hlast
 have HQ := Aside0.mk hq
 have HRR := Aside0.mk hR
 have HN := Aside0.mk hN
 have w3 : wrap64 (N - 1) = N - 1 := w64 (by omega) (by omega)
 obtain ⟨K, hK⟩ : ∃ K, xs.length - 1 = K := ⟨_, rfl⟩
 have HK := Aside0.mk hK
 obtain ⟨KI, hKI⟩ : ∃ KI : Int, (K : Int) = KI := ⟨_, rfl⟩
 have HKI := Aside0.mk (show N - 1 = KI by omega)
 obtain ⟨i0, hi0, -, -, -⟩ := info_parts info_cx
 have hsl := cut_to (P := Try.prog) 24 34 .i64 Try.underlying24 hi0 (some ad) xs.length c (N - 1) (by omega) (by omega) hc
 rw [show (N - 1).toNat = K by omega] at hsl
 clear hi0 hr hl h2 hc hq hR hqq hlast hK
 go_enter Try.func35, Try.ntmps35
 have HO := Aside0.mk (Own.empty (Below.refl w.heap.size w))
 go_wp2_with fail
 try simp only [w3]
 go_loopg [3, 15] K (fun g v u w' => ∃ (i : Int), u = .int .i64 i ∧ Aside0 (MonAt xs (q1, q2) R w w' v g i))
 case atStart => exact ⟨0, rfl, ⟨⟨[], HO.out, ⟨fun _ => by rw [HK.out] at HRR; rw [← HRR.out]; cases monG xs (q1, q2) K 0 <;> rfl, fun h => by cases h⟩, rfl, by have := HK.out; have := HL.out; omega⟩⟩⟩
 case round =>
  clear HO HRR
  obtain ⟨i, rfl, hj⟩ := hrel
  obtain ⟨os, ho, hd, hos, hg⟩ := hj.out.at_
  clear hj
  cases gk with
  | succ k =>
   have HO := Aside0.mk ho
   have HJ := Aside0.mk (show 0 ≤ i ∧ i < KI ∧ i ≤ 12 ∧ (os.length : Int) = i ∧ i + k + 1 = N - 1 by have h1 := HL.out; have h2 := HN.out; have h3 := HKI.out; omega)
   have hl' : decide (i < KI) = true := decide_eq_true HJ.out.2.1
   obtain ⟨ad', e', hx⟩ := cx_at (Kd.C_below HR.out ho.low) i HJ.out.1 (by have := HJ.out; have := HN.out; omega)
   cases e'
   have hy := pw_cell_below ho.low HLA.out
   obtain ⟨⟨x1, x2⟩, hxx⟩ : ∃ z, rdOf (0, 0) xs i = z := ⟨_, rfl⟩
   rw [hxx] at hx
   have HX := Aside0.mk (show at_ xs i = (x1, x2) from hxx)
   have HD := Aside0.mk hd
   have q0 := eq_true HJ.out.1
   have q1' := eq_true HJ.out.2.1
   have p0 : 0 < N := by have := HL.out; omega
   have p1 : N ≤ 13 := by have := HL.out; omega
   clear ho hd hos hg hxx
   go_wp2_with fail
   refine (divide_calls x1 x2 q1 q2 HQ.out.1 HQ.out.2 _).mono ?_
   rintro e w2 ⟨⟨v2, rfl, r, ri, rfl, hr, hi⟩, n3, rfl⟩
   have HD2 := Aside0.mk (HD.out.next (a := r) (b := ri) (by rw [HX.out]; exact hr) (by rw [HX.out]; exact hi))
   clear hr hi
   go_wp2_with (first | ((with_reducible refine gate_builtin (b := .append) (xs := #[.tmp 19, .tmp 26]) rfl ?_); at_builtin; refine Kd.R_append cxk (w0 := w) w.heap.size rfl (.tmp 19) (.tmp 26) 24 34 (.complex .f64 0 0) 16 rfl Try.underlying24 info_cx rfl (by decide) (by omega) _ os (r, ri) [.complex .f64 _ _] (fun _ => True) (fun _ => False) rfl rfl ?aP (fun _ hk => hk.elim) ?aF ?aO ?aB ?aS ?aL ?_; (case aP => exact rfl); (case aF => exact (fun _ _ => trivial)); (case aB => repeat (first | exact HO.out.low | (with_reducible refine pw_below_drewN ?_ _))); (case aO => repeat (first | exact HO.out.row | (with_reducible refine Kd.R_drewN ?_ _))); (case aS => exact HO.out.low.size); (case aL => have h1 := HJ.out; omega); intro v1 w4 ho hb hg hat))
   have EO := Aside0.mk (Own.mk ho hb)
   clear ho hb hg hat
   go_wp2_with fail
   go_roundg k
   case measure => omega
   case rel =>
    have e : wrap64 (i + 1) = i + 1 := by have := HJ.out; exact w64 (by omega) (by omega)
    exact ⟨i + 1, by first | rfl | rw [e], ⟨⟨_, EO.out, HD2.out, by have := HJ.out; simp; omega, by have := HJ.out; have := HN.out; omega⟩⟩⟩
  | zero =>
   have hl' : decide (i < KI) = false := decide_eq_false (by have := HN.out; have := HKI.out; omega)
   have HD := Aside0.mk hd.done
   have HO := Aside0.mk ho
   have HJ := Aside0.mk (show os.length + 1 = xs.length by have := HL.out; omega)
   clear ho hd hos hg
   go_wp2_with (first | ((with_reducible refine gate_builtin (b := .append) (xs := #[.tmp 29, .tmp 30]) rfl ?_); at_builtin; refine Kd.R_append cxk (w0 := w) w.heap.size rfl (.tmp 29) (.tmp 30) 24 34 (.complex .f64 0 0) 16 rfl Try.underlying24 info_cx rfl (by decide) (by omega) _ os one_n [.complex .f64 _ _] (fun _ => True) (fun _ => False) rfl rfl ?bP (fun _ hk => hk.elim) ?bF ?bO ?bB ?bS ?bL ?_; (case bP => exact rfl); (case bF => exact (fun _ _ => trivial)); (case bB => repeat (first | exact HO.out.low | (with_reducible refine pw_below_drewN ?_ _))); (case bO => repeat (first | exact HO.out.row | (with_reducible refine Kd.R_drewN ?_ _))); (case bS => exact HO.out.low.size); (case bL => have h1 := HJ.out; have h2 := HL.out; omega); intro v1 w4 ho hb hg hat))
   have EO := Aside0.mk (Own.mk ho hb)
   clear ho hb hg hat
   go_wp2
   go_ret
   exact ⟨_, _, rfl, EO.out, by rw [List.length_append, List.length_singleton]; exact HJ.out, HD.out⟩
theorem words_at {P : Cs} (h : ∀ p ∈ P, p.1 < 2 ^ 64 ∧ p.2 < 2 ^ 64) (j : Int) (h0 : 0 ≤ j) (h1 : j < P.length) : (at_ P j).1 < 2 ^ 64 ∧ (at_ P j).2 < 2 ^ 64 := by
 apply h
 unfold at_ rdOf
 rw [List.getD_eq_getElem?_getD, List.getElem?_eq_getElem (by omega)]
 exact List.getElem_mem _
end Go.Proofs.Ytdjkcpmoigemdaa
