/- The contract of impl.readBig at texts of decimal digits, in plain words. Condition: at most 2000 digits, and a sign ahead of them at most. -/
import Derived.Test.YtbmjakaoniegfaaDoorBnd5
import Derived.Test.YtbmjakaoniegfaaDoorMathM
namespace Go.Proofs.YtbmjakaoniegfaaDoor
open Go.RowKit Go.Proofs.YtbmjakaoniegfaaDoorW.PrintWords Go.Proofs.YtbmjakaoniegfaaDoorW.PrintLast Go.Proofs.YtbmjakaoniegfaaDoorW.PrintMore Go.Proofs.YtbmjakaoniegfaaDoor.Math Go.Proofs.YtbmjakaoniegfaaDoor.Big
set_option linter.unusedVariables false
set_option linter.unusedSimpArgs false

theorem big_new (w : World) : Big (w.alloc (.cells #[.bool false, .slice none 0 0] 84)) w.heap.size 0 0 :=
  ⟨false, [], ⟨.slice none 0 0, heap_alloc_new w _, own_nil _ _ _ _⟩, Okd.nil, (fun h => absurd rfl h), (fun h => by cases h), Nat.zero_le _, rfl⟩
/-- A text's number, as far as the first k bytes. -/
def dnum (b : ByteArray) (k : Nat) : Int := dpre (fun j => bt b (j : Int)) k
/-- Only decimal digits. -/
def AllDig (b : ByteArray) : Prop := ∀ i : Nat, i < b.size → 48 ≤ bt b (i : Int) ∧ bt b (i : Int) ≤ 57
theorem dnum_succ (b : ByteArray) (k : Nat) : dnum b (k + 1) = dnum b k * 10 + (bt b (k : Int) - 48) := rfl
theorem dnum_nonneg {b : ByteArray} (h : AllDig b) {k : Nat} (hk : k ≤ b.size) : 0 ≤ dnum b k := dpre_nonneg (fun i hi => h i (by omega))
/-- What the loop of readBig keeps. -/
structure Rd (w w1 wr : World) (b t : Nat) (cur : Int) (m : Nat) : Prop where
  lo : Below w.heap.size w wr
  vb : Big wr b cur m
  vt : Big wr t 10 2
theorem Rd.below {w w1 wr w2 : World} {b t : Nat} {cur : Int} {m : Nat} (h : Rd w w1 wr b t cur m) (hb : Below wr.heap.size wr w2) : Rd w w1 w2 b t cur m := ⟨h.lo.trans (hb.mono h.lo.size), h.vb.below hb, h.vt.below hb⟩
theorem opd_nonneg {w : World} {b : Nat} {neg : Bool} {xs : List Int} {A : Option Addr} {c : Nat} (h : Opd w b neg xs A c) (h0 : 0 ≤ bval neg xs) : neg = false := by
  cases neg
  · rfl
  · exfalso
    have h1 := h.ne rfl
    have h2 := val_ge h.ok h.ti h1
    have h3 := pow_pos' (xs.length - 1)
    simp only [bval, if_true] at h0
    omega

set_option maxRecDepth 100000 in
set_option maxHeartbeats 4000000 in
theorem readBig_pos (body : ByteArray) (w : World) (hd : AllDig body) (hp : 0 < body.size) (h2 : body.size ≤ 2000) (h45 : bt body 0 ≠ 45) :
    Calls Tryd.prog 80 #[.string body] w fun e w' => ∃ z, e = .returned (.tuple #[.pointer (some ⟨z, 0, none⟩), .bool true]) ∧ Big w' z (dnum body body.size) 10000 ∧ Below w.heap.size w w' := by
  have HD := Aside0.mk hd
  have HP := Aside0.mk hp
  have NB := Aside0.mk (big_new w)
  have NL := Aside0.mk ((Below.refl w.heap.size w).alloc (Nat.le_refl _) (.cells #[.bool false, .slice none 0 0] 84))
  have hx6 : ∀ h : 0 < body.size, ((body[0]'h).toNat : Int) = bt body 0 := bt_at body 0
  have q6 : (0 < body.size) = True := eq_true hp
  have qi6 : (0 < (body.size : Int)) = True := eq_true (by omega)
  have c0 : (bt body 0 == 45) = false := by simpa using h45
  have c1 : decide (0 < (body.size : Int)) = true := decide_eq_true (by omega)
  go_enter Tryd.func80, Tryd.ntmps80
  go_wp2_with fail
  refine (newBig_calls 10 _ (by omega) (by omega)).mono ?_
  rintro e w1 ⟨rfl, hb1, hg1⟩
  rw [alloc_size] at hb1
  have START : Rd w w w1 w.heap.size (w.heap.size + 1) 0 2 := ⟨NL.out.trans (hg1.mono NL.out.size), (NB.out.below hg1).more (by omega), hb1.more (by omega)⟩
  have ST := Aside0.mk START
  clear START hb1 hg1 hx6 q6 qi6 c0 c1 
  go_wp2
  go_loopw [23] (fun v wr => ∃ (i : Int), v = .int .i64 i ∧ 0 ≤ i ∧ i ≤ (body.size : Int) ∧ Aside0 (Rd w w wr w.heap.size (w.heap.size + 1) (dnum body i.toNat) (2 + 3 * i.toNat))) (fun v _ => body.size - (intOf v).toNat)
  case atStart => exact ⟨0, rfl, by omega, by omega, ⟨ST.out⟩⟩
  case round =>
    obtain ⟨i, rfl, hi0, hi1, hR⟩ := hrel
    by_cases hlt : i < (body.size : Int)
    · have hdg := HD.out i.toNat (by omega)
      rw [show ((i.toNat : Nat) : Int) = i from by omega] at hdg
      have hx := bt_at body i
      have p20 := eq_true hi0
      have q20 := eq_true hlt
      have c20 : decide (bt body i < 48) = false := decide_eq_false (by omega)
      have c21 : decide (57 < bt body i) = false := decide_eq_false (by omega)
      have hu8 : IntKind.u8.wrap (bt body i - 48) = bt body i - 48 := by simp [IntKind.wrap, IntKind.signed, IntKind.bits]; omega
      have hu64 : IntKind.i64.wrap (bt body i - 48) = bt body i - 48 := by rw [IntKind.wrap_i64]; omega
      have hu65 : wrap64 (bt body i - 48) = bt body i - 48 := w64s (by omega) (by omega)
      go_wp2
      refine start_ (n := 12) (S := fun w' => True) (ds := []) #[false, false, false, false, false, false, false, false, false, false, false, false] (by kernel_rfl) rfl rfl trivial (fun hHeld => ?_)
      have Dw5 := Aside0.mk ((Below.refl wr.heap.size wr).drew)
      generalize wr.drew = w5 at hHeld Dw5 ⊢
      refine pure_ (i := 0) (N := some 37) (v := ?_) (a' := ?_) #[true, false, false, false, false, false, false, false, false, false, false, false] rfl rfl (by kernel_rfl) (fun _ _ _ h => h) (Or.inl ⟨by rfl, ?_⟩) ?_ ?_
      rotate_left
      · intro w'
        go_simp
        with_reducible rfl
      rotate_left
      · simp only [Act.put, List.setIfInBounds_toArray, List.set_cons_zero, List.set_cons_succ, i64_w, i32_w]
        rfl
      refine pure_ (i := 1) (N := some 38) (v := ?_) (a' := ?_) #[true, true, false, false, false, false, false, false, false, false, false, false] rfl rfl (by kernel_rfl) (fun _ _ _ h => h) (Or.inl ⟨by rfl, ?_⟩) ?_ ?_
      rotate_left
      · intro w'
        go_simp
        with_reducible rfl
      rotate_left
      · simp only [Act.put, List.setIfInBounds_toArray, List.set_cons_zero, List.set_cons_succ, i64_w, i32_w]
        rfl
      refine pure_ (i := 2) (N := some 39) (v := ?_) (a' := ?_) #[true, true, true, false, false, false, false, false, false, false, false, false] rfl rfl (by kernel_rfl) (fun _ _ _ h => h) (Or.inl ⟨by rfl, ?_⟩) ?_ ?_
      rotate_left
      · intro w'
        go_simp
        with_reducible rfl
      rotate_left
      · simp only [Act.put, List.setIfInBounds_toArray, List.set_cons_zero, List.set_cons_succ, i64_w, i32_w]
        rfl
      refine pure_ (i := 3) (N := some 40) (v := ?_) (a' := ?_) #[true, true, true, true, false, false, false, false, false, false, false, false] rfl rfl (by kernel_rfl) (fun _ _ _ h => h) (Or.inl ⟨by rfl, ?_⟩) ?_ ?_
      rotate_left
      · intro w'
        go_simp
        with_reducible rfl
      rotate_left
      · simp only [Act.put, List.setIfInBounds_toArray, List.set_cons_zero, List.set_cons_succ, i64_w, i32_w]
        rfl
      refine pure_ (i := 5) (N := some 42) (v := ?_) (a' := ?_) #[true, true, true, true, false, true, false, false, false, false, false, false] rfl rfl (by kernel_rfl) (fun _ _ _ h => h) (Or.inl ⟨by rfl, ?_⟩) ?_ ?_
      rotate_left
      · intro w'
        go_simp
        with_reducible rfl
      rotate_left
      · simp only [Act.put, List.setIfInBounds_toArray, List.set_cons_zero, List.set_cons_succ, i64_w, i32_w]
        rfl
      refine pure_ (i := 6) (N := some 43) (v := ?_) (a' := ?_) #[true, true, true, true, false, true, true, false, false, false, false, false] rfl rfl (by kernel_rfl) (fun _ _ _ h => h) (Or.inl ⟨by rfl, ?_⟩) ?_ ?_
      rotate_left
      · intro w'
        go_simp
        with_reducible rfl
      rotate_left
      · simp only [Act.put, List.setIfInBounds_toArray, List.set_cons_zero, List.set_cons_succ, i64_w, i32_w]
        rfl
      refine take_ (i := 7) (N := some 44) (v := ?_) (a' := ?_) #[true, true, true, true, false, true, true, true, false, false, false, false] rfl rfl (by kernel_rfl) (fun _ _ _ h => h) (Or.inl ⟨by rfl, ?_⟩) hHeld ?_ ?_
      rotate_left
      · intro w' _
        go_simp
        with_reducible rfl
      rotate_left
      · simp only [Act.put, List.setIfInBounds_toArray, List.set_cons_zero, List.set_cons_succ, i64_w, i32_w]
        rfl
      refine pure_ (i := 8) (N := some 45) (v := ?_) (a' := ?_) #[true, true, true, true, false, true, true, true, true, false, false, false] rfl rfl (by kernel_rfl) (fun _ _ _ h => h) (Or.inl ⟨by rfl, ?_⟩) ?_ ?_
      rotate_left
      · intro w'
        go_simp
        with_reducible rfl
      rotate_left
      · simp only [Act.put, List.setIfInBounds_toArray, List.set_cons_zero, List.set_cons_succ, i64_w, i32_w]
        rfl
      refine pure_ (i := 9) (N := some 46) (v := ?_) (a' := ?_) #[true, true, true, true, false, true, true, true, true, true, false, false] rfl rfl (by kernel_rfl) (fun _ _ _ h => h) (Or.inl ⟨by rfl, ?_⟩) ?_ ?_
      rotate_left
      · intro w'
        go_simp
        with_reducible rfl
      rotate_left
      · simp only [Act.put, List.setIfInBounds_toArray, List.set_cons_zero, List.set_cons_succ, i64_w, i32_w]
        rfl
      refine one_ (i := 4) (N := some 41) #[true, true, true, true, true, true, true, true, true, true, false, false] rfl rfl (by kernel_rfl) (by decide) (fun K hK => ?_)
      have R5 := Aside0.mk (hR.out.below Dw5.out)
      refine goes_ Tryd.func87 (by kernel_rfl) rfl #[.pointer (some ⟨w.heap.size, 0, none⟩), .pointer (some ⟨w.heap.size, 0, none⟩), .pointer (some ⟨w.heap.size + 1, 0, none⟩)] (by rfl) rfl rfl (by simp only [List.map_toArray, List.map_cons, List.map_nil]; rfl) ?_
      with_reducible refine (mul_calls w.heap.size w.heap.size (w.heap.size + 1) _ 10 _ 2 _ R5.out.vb.is R5.out.vb (by omega) R5.out.vt (by omega)).mono ?_
      rintro e w6 ⟨rfl, hb6, hg6⟩
      refine ⟨_, rfl, ?_⟩
      have R6 : Aside0 (Rd w w w6 w.heap.size (w.heap.size + 1) (dnum body i.toNat * 10) (2 + 3 * i.toNat + 2)) := Aside0.mk ⟨below_of_grown R5.out.lo hg6 (Nat.le_refl _), hb6, R5.out.vt.grown hg6 R5.out.vb.is (Nat.succ_ne_self _)⟩
      clear hb6 hg6
      refine hK.out _ _ trivial (fun hHeld => ?_)
      clear hK K
      refine norm_ (a' := ?_) ?_ ?_
      rotate_left
      · show Act.put _ (some 41) _ = _
        simp only [Act.put, List.setIfInBounds_toArray, List.set_cons_zero, List.set_cons_succ, i64_w, i32_w]
        rfl
      refine one_ (i := 10) (N := some 47) #[true, true, true, true, true, true, true, true, true, true, true, false] rfl rfl (by kernel_rfl) (by decide) (fun K hK => ?_)
      have hdr : -9223372036854775808 ≤ bt body i - 48 ∧ bt body i - 48 ≤ 9223372036854775807 := by omega
      refine goes_ Tryd.func75 (by kernel_rfl) rfl #[.int .i64 (bt body i - 48)] (by rfl) rfl rfl (by simp only [List.map_toArray, List.map_cons, List.map_nil]; rfl) ?_
      with_reducible refine (newBig_calls (bt body i - 48) _ hdr.1 hdr.2).mono ?_
      rintro e w7 ⟨rfl, hb7, hg7⟩
      refine ⟨_, rfl, ?_⟩
      have R7 := Aside0.mk (R6.out.below hg7)
      have B7 := Aside0.mk hb7
      clear hb7 hg7
      refine hK.out _ _ trivial (fun hHeld => ?_)
      clear hK K
      refine norm_ (a' := ?_) ?_ ?_
      rotate_left
      · show Act.put _ (some 47) _ = _
        simp only [Act.put, List.setIfInBounds_toArray, List.set_cons_zero, List.set_cons_succ, i64_w, i32_w]
        rfl
      refine one_ (i := 11) (N := some 48) #[true, true, true, true, true, true, true, true, true, true, true, true] rfl rfl (by kernel_rfl) (by decide) (fun K hK => ?_)
      refine goes_ Tryd.func93 (by kernel_rfl) rfl #[.pointer (some ⟨w.heap.size, 0, none⟩), .pointer (some ⟨w.heap.size, 0, none⟩), .pointer (some ⟨w6.heap.size, 0, none⟩)] (by rfl) rfl rfl (by simp only [List.map_toArray, List.map_cons, List.map_nil]; rfl) ?_
      with_reducible refine (add_calls w.heap.size w.heap.size w6.heap.size _ _ _ _ _ R7.out.vb.is R7.out.vb (by omega) B7.out (by omega)).mono ?_
      rintro e w8 ⟨rfl, hb8, hg8⟩
      refine ⟨_, rfl, ?_⟩
      have R8 : Aside0 (Rd w w w8 w.heap.size (w.heap.size + 1) (dnum body (i.toNat + 1)) (2 + 3 * (i.toNat + 1))) := Aside0.mk ⟨below_of_grown R7.out.lo hg8 (Nat.le_refl _), by rw [dnum_succ, show ((i.toNat : Nat) : Int) = i from by omega]; exact hb8.more (by omega), R7.out.vt.grown hg8 R7.out.vb.is (Nat.succ_ne_self _)⟩
      clear hb8 hg8
      refine hK.out _ _ trivial (fun hHeld => ?_)
      clear hK K
      refine norm_ (a' := ?_) ?_ ?_
      rotate_left
      · show Act.put _ (some 48) _ = _
        simp only [Act.put, List.setIfInBounds_toArray, List.set_cons_zero, List.set_cons_succ, i64_w, i32_w]
        rfl
      refine done_ (by kernel_rfl) ?_

      clear hx p20 q20 c20 c21 hu8 hu64 hu65 hdg
      go_wp2
      go_roundw
      case rel =>
        refine ⟨i + 1, by go_num, by omega, by omega, ⟨?_⟩⟩
        rw [show (i + 1).toNat = i.toNat + 1 from by omega]
        exact R8.out
      case measure => simp [intOf]; omega
    · obtain rfl : i = (body.size : Int) := by omega
      obtain ⟨ng, xs, A, c, hop, hv, hlm⟩ := hR.out.vb.opd (by omega)
      rw [Int.toNat_natCast] at hv
      obtain rfl := opd_nonneg hop (by rw [← hv]; exact dnum_nonneg HD.out (Nat.le_refl _))
      have OP := Aside0.mk hop
      have HV := Aside0.mk hv
      have c1 := hop.c1
      have c5 : decide (0 < (body.size : Int)) = true := decide_eq_true (by have := HP.out; omega)
      clear hop hv
      go_wp2_with fail
      refine (put_big w.heap.size false _ _ _ hR.out.vb.is OP.out.d OP.out.ok).mono ?_
      rintro e w9 ⟨rfl, hb9, hg9⟩
      have HB := Aside0.mk hb9
      have HG := Aside0.mk (below_of_grown hR.out.lo hg9 (Nat.le_refl _))
      clear hb9 hg9
      go_wp2
      go_ret2
      refine ⟨_, rfl, ?_, HG.out⟩
      have h := HB.out
      rw [show bval false xs = dnum body body.size from by rw [HV.out]; first | done | rfl] at h
      exact h.more (by omega)

set_option maxRecDepth 100000 in
set_option maxHeartbeats 4000000 in
theorem readBig_neg (a body : ByteArray) (w : World) (hd : AllDig body) (hp : 0 < body.size) (h2 : body.size ≤ 2000) (h0 : 0 < a.size) (h45 : bt a 0 = 45) (hbody : a.extract 1 a.size = body) :
    Calls Tryd.prog 80 #[.string a] w fun e w' => ∃ z, e = .returned (.tuple #[.pointer (some ⟨z, 0, none⟩), .bool true]) ∧ Big w' z (-dnum body body.size) 10000 ∧ Below w.heap.size w w' := by
  have HD := Aside0.mk hd
  have HP := Aside0.mk hp
  have NB := Aside0.mk (big_new w)
  have NL := Aside0.mk ((Below.refl w.heap.size w).alloc (Nat.le_refl _) (.cells #[.bool false, .slice none 0 0] 84))
  have hx6 : ∀ h : 0 < a.size, ((a[0]'h).toNat : Int) = bt a 0 := bt_at a 0
  have q6 : (0 < a.size) = True := eq_true h0
  have qi6 : (0 < (a.size : Int)) = True := eq_true (by omega)
  have c0 : (bt a 0 == 45) = true := by simpa using h45
  have c1 : decide (0 < (a.size : Int)) = true := decide_eq_true (by omega)
  have c2 : decide (1 ≤ (a.size : Int)) = true := decide_eq_true (by omega)
  have c3 : (1 ≤ (a.size : Int)) = True := eq_true (by omega)
  go_enter Tryd.func80, Tryd.ntmps80
  go_wp2_with fail
  refine (newBig_calls 10 _ (by omega) (by omega)).mono ?_
  rintro e w1 ⟨rfl, hb1, hg1⟩
  rw [alloc_size] at hb1
  have START : Rd w w w1 w.heap.size (w.heap.size + 1) 0 2 := ⟨NL.out.trans (hg1.mono NL.out.size), (NB.out.below hg1).more (by omega), hb1.more (by omega)⟩
  have ST := Aside0.mk START
  clear START hb1 hg1 hx6 q6 qi6 c0 c1 c2 c3
  go_wp2
  go_loopw [23] (fun v wr => ∃ (i : Int), v = .int .i64 i ∧ 0 ≤ i ∧ i ≤ (body.size : Int) ∧ Aside0 (Rd w w wr w.heap.size (w.heap.size + 1) (dnum body i.toNat) (2 + 3 * i.toNat))) (fun v _ => body.size - (intOf v).toNat)
  case atStart => exact ⟨0, rfl, by omega, by omega, ⟨ST.out⟩⟩
  case round =>
    obtain ⟨i, rfl, hi0, hi1, hR⟩ := hrel
    by_cases hlt : i < (body.size : Int)
    · have hdg := HD.out i.toNat (by omega)
      rw [show ((i.toNat : Nat) : Int) = i from by omega] at hdg
      have hx := bt_at body i
      have p20 := eq_true hi0
      have q20 := eq_true hlt
      have c20 : decide (bt body i < 48) = false := decide_eq_false (by omega)
      have c21 : decide (57 < bt body i) = false := decide_eq_false (by omega)
      have hu8 : IntKind.u8.wrap (bt body i - 48) = bt body i - 48 := by simp [IntKind.wrap, IntKind.signed, IntKind.bits]; omega
      have hu64 : IntKind.i64.wrap (bt body i - 48) = bt body i - 48 := by rw [IntKind.wrap_i64]; omega
      have hu65 : wrap64 (bt body i - 48) = bt body i - 48 := w64s (by omega) (by omega)
      go_wp2
      refine start_ (n := 12) (S := fun w' => True) (ds := []) #[false, false, false, false, false, false, false, false, false, false, false, false] (by kernel_rfl) rfl rfl trivial (fun hHeld => ?_)
      have Dw5 := Aside0.mk ((Below.refl wr.heap.size wr).drew)
      generalize wr.drew = w5 at hHeld Dw5 ⊢
      refine pure_ (i := 0) (N := some 37) (v := ?_) (a' := ?_) #[true, false, false, false, false, false, false, false, false, false, false, false] rfl rfl (by kernel_rfl) (fun _ _ _ h => h) (Or.inl ⟨by rfl, ?_⟩) ?_ ?_
      rotate_left
      · intro w'
        go_simp
        with_reducible rfl
      rotate_left
      · simp only [Act.put, List.setIfInBounds_toArray, List.set_cons_zero, List.set_cons_succ, i64_w, i32_w]
        rfl
      refine pure_ (i := 1) (N := some 38) (v := ?_) (a' := ?_) #[true, true, false, false, false, false, false, false, false, false, false, false] rfl rfl (by kernel_rfl) (fun _ _ _ h => h) (Or.inl ⟨by rfl, ?_⟩) ?_ ?_
      rotate_left
      · intro w'
        go_simp
        with_reducible rfl
      rotate_left
      · simp only [Act.put, List.setIfInBounds_toArray, List.set_cons_zero, List.set_cons_succ, i64_w, i32_w]
        rfl
      refine pure_ (i := 2) (N := some 39) (v := ?_) (a' := ?_) #[true, true, true, false, false, false, false, false, false, false, false, false] rfl rfl (by kernel_rfl) (fun _ _ _ h => h) (Or.inl ⟨by rfl, ?_⟩) ?_ ?_
      rotate_left
      · intro w'
        go_simp
        with_reducible rfl
      rotate_left
      · simp only [Act.put, List.setIfInBounds_toArray, List.set_cons_zero, List.set_cons_succ, i64_w, i32_w]
        rfl
      refine pure_ (i := 3) (N := some 40) (v := ?_) (a' := ?_) #[true, true, true, true, false, false, false, false, false, false, false, false] rfl rfl (by kernel_rfl) (fun _ _ _ h => h) (Or.inl ⟨by rfl, ?_⟩) ?_ ?_
      rotate_left
      · intro w'
        go_simp
        with_reducible rfl
      rotate_left
      · simp only [Act.put, List.setIfInBounds_toArray, List.set_cons_zero, List.set_cons_succ, i64_w, i32_w]
        rfl
      refine pure_ (i := 5) (N := some 42) (v := ?_) (a' := ?_) #[true, true, true, true, false, true, false, false, false, false, false, false] rfl rfl (by kernel_rfl) (fun _ _ _ h => h) (Or.inl ⟨by rfl, ?_⟩) ?_ ?_
      rotate_left
      · intro w'
        go_simp
        with_reducible rfl
      rotate_left
      · simp only [Act.put, List.setIfInBounds_toArray, List.set_cons_zero, List.set_cons_succ, i64_w, i32_w]
        rfl
      refine pure_ (i := 6) (N := some 43) (v := ?_) (a' := ?_) #[true, true, true, true, false, true, true, false, false, false, false, false] rfl rfl (by kernel_rfl) (fun _ _ _ h => h) (Or.inl ⟨by rfl, ?_⟩) ?_ ?_
      rotate_left
      · intro w'
        go_simp
        with_reducible rfl
      rotate_left
      · simp only [Act.put, List.setIfInBounds_toArray, List.set_cons_zero, List.set_cons_succ, i64_w, i32_w]
        rfl
      refine take_ (i := 7) (N := some 44) (v := ?_) (a' := ?_) #[true, true, true, true, false, true, true, true, false, false, false, false] rfl rfl (by kernel_rfl) (fun _ _ _ h => h) (Or.inl ⟨by rfl, ?_⟩) hHeld ?_ ?_
      rotate_left
      · intro w' _
        go_simp
        with_reducible rfl
      rotate_left
      · simp only [Act.put, List.setIfInBounds_toArray, List.set_cons_zero, List.set_cons_succ, i64_w, i32_w]
        rfl
      refine pure_ (i := 8) (N := some 45) (v := ?_) (a' := ?_) #[true, true, true, true, false, true, true, true, true, false, false, false] rfl rfl (by kernel_rfl) (fun _ _ _ h => h) (Or.inl ⟨by rfl, ?_⟩) ?_ ?_
      rotate_left
      · intro w'
        go_simp
        with_reducible rfl
      rotate_left
      · simp only [Act.put, List.setIfInBounds_toArray, List.set_cons_zero, List.set_cons_succ, i64_w, i32_w]
        rfl
      refine pure_ (i := 9) (N := some 46) (v := ?_) (a' := ?_) #[true, true, true, true, false, true, true, true, true, true, false, false] rfl rfl (by kernel_rfl) (fun _ _ _ h => h) (Or.inl ⟨by rfl, ?_⟩) ?_ ?_
      rotate_left
      · intro w'
        go_simp
        with_reducible rfl
      rotate_left
      · simp only [Act.put, List.setIfInBounds_toArray, List.set_cons_zero, List.set_cons_succ, i64_w, i32_w]
        rfl
      refine one_ (i := 4) (N := some 41) #[true, true, true, true, true, true, true, true, true, true, false, false] rfl rfl (by kernel_rfl) (by decide) (fun K hK => ?_)
      have R5 := Aside0.mk (hR.out.below Dw5.out)
      refine goes_ Tryd.func87 (by kernel_rfl) rfl #[.pointer (some ⟨w.heap.size, 0, none⟩), .pointer (some ⟨w.heap.size, 0, none⟩), .pointer (some ⟨w.heap.size + 1, 0, none⟩)] (by rfl) rfl rfl (by simp only [List.map_toArray, List.map_cons, List.map_nil]; rfl) ?_
      with_reducible refine (mul_calls w.heap.size w.heap.size (w.heap.size + 1) _ 10 _ 2 _ R5.out.vb.is R5.out.vb (by omega) R5.out.vt (by omega)).mono ?_
      rintro e w6 ⟨rfl, hb6, hg6⟩
      refine ⟨_, rfl, ?_⟩
      have R6 : Aside0 (Rd w w w6 w.heap.size (w.heap.size + 1) (dnum body i.toNat * 10) (2 + 3 * i.toNat + 2)) := Aside0.mk ⟨below_of_grown R5.out.lo hg6 (Nat.le_refl _), hb6, R5.out.vt.grown hg6 R5.out.vb.is (Nat.succ_ne_self _)⟩
      clear hb6 hg6
      refine hK.out _ _ trivial (fun hHeld => ?_)
      clear hK K
      refine norm_ (a' := ?_) ?_ ?_
      rotate_left
      · show Act.put _ (some 41) _ = _
        simp only [Act.put, List.setIfInBounds_toArray, List.set_cons_zero, List.set_cons_succ, i64_w, i32_w]
        rfl
      refine one_ (i := 10) (N := some 47) #[true, true, true, true, true, true, true, true, true, true, true, false] rfl rfl (by kernel_rfl) (by decide) (fun K hK => ?_)
      have hdr : -9223372036854775808 ≤ bt body i - 48 ∧ bt body i - 48 ≤ 9223372036854775807 := by omega
      refine goes_ Tryd.func75 (by kernel_rfl) rfl #[.int .i64 (bt body i - 48)] (by rfl) rfl rfl (by simp only [List.map_toArray, List.map_cons, List.map_nil]; rfl) ?_
      with_reducible refine (newBig_calls (bt body i - 48) _ hdr.1 hdr.2).mono ?_
      rintro e w7 ⟨rfl, hb7, hg7⟩
      refine ⟨_, rfl, ?_⟩
      have R7 := Aside0.mk (R6.out.below hg7)
      have B7 := Aside0.mk hb7
      clear hb7 hg7
      refine hK.out _ _ trivial (fun hHeld => ?_)
      clear hK K
      refine norm_ (a' := ?_) ?_ ?_
      rotate_left
      · show Act.put _ (some 47) _ = _
        simp only [Act.put, List.setIfInBounds_toArray, List.set_cons_zero, List.set_cons_succ, i64_w, i32_w]
        rfl
      refine one_ (i := 11) (N := some 48) #[true, true, true, true, true, true, true, true, true, true, true, true] rfl rfl (by kernel_rfl) (by decide) (fun K hK => ?_)
      refine goes_ Tryd.func93 (by kernel_rfl) rfl #[.pointer (some ⟨w.heap.size, 0, none⟩), .pointer (some ⟨w.heap.size, 0, none⟩), .pointer (some ⟨w6.heap.size, 0, none⟩)] (by rfl) rfl rfl (by simp only [List.map_toArray, List.map_cons, List.map_nil]; rfl) ?_
      with_reducible refine (add_calls w.heap.size w.heap.size w6.heap.size _ _ _ _ _ R7.out.vb.is R7.out.vb (by omega) B7.out (by omega)).mono ?_
      rintro e w8 ⟨rfl, hb8, hg8⟩
      refine ⟨_, rfl, ?_⟩
      have R8 : Aside0 (Rd w w w8 w.heap.size (w.heap.size + 1) (dnum body (i.toNat + 1)) (2 + 3 * (i.toNat + 1))) := Aside0.mk ⟨below_of_grown R7.out.lo hg8 (Nat.le_refl _), by rw [dnum_succ, show ((i.toNat : Nat) : Int) = i from by omega]; exact hb8.more (by omega), R7.out.vt.grown hg8 R7.out.vb.is (Nat.succ_ne_self _)⟩
      clear hb8 hg8
      refine hK.out _ _ trivial (fun hHeld => ?_)
      clear hK K
      refine norm_ (a' := ?_) ?_ ?_
      rotate_left
      · show Act.put _ (some 48) _ = _
        simp only [Act.put, List.setIfInBounds_toArray, List.set_cons_zero, List.set_cons_succ, i64_w, i32_w]
        rfl
      refine done_ (by kernel_rfl) ?_

      clear hx p20 q20 c20 c21 hu8 hu64 hu65 hdg
      go_wp2
      go_roundw
      case rel =>
        refine ⟨i + 1, by go_num, by omega, by omega, ⟨?_⟩⟩
        rw [show (i + 1).toNat = i.toNat + 1 from by omega]
        exact R8.out
      case measure => simp [intOf]; omega
    · obtain rfl : i = (body.size : Int) := by omega
      obtain ⟨ng, xs, A, c, hop, hv, hlm⟩ := hR.out.vb.opd (by omega)
      rw [Int.toNat_natCast] at hv
      obtain rfl := opd_nonneg hop (by rw [← hv]; exact dnum_nonneg HD.out (Nat.le_refl _))
      have OP := Aside0.mk hop
      have HV := Aside0.mk hv
      have c1 := hop.c1
      have c5 : decide (0 < (body.size : Int)) = true := decide_eq_true (by have := HP.out; omega)
      clear hop hv
      go_wp2_with fail
      refine (put_big w.heap.size true _ _ _ hR.out.vb.is OP.out.d OP.out.ok).mono ?_
      rintro e w9 ⟨rfl, hb9, hg9⟩
      have HB := Aside0.mk hb9
      have HG := Aside0.mk (below_of_grown hR.out.lo hg9 (Nat.le_refl _))
      clear hb9 hg9
      go_wp2
      go_ret2
      refine ⟨_, rfl, ?_, HG.out⟩
      have h := HB.out
      rw [show bval true xs = -dnum body body.size from by rw [HV.out]; first | done | rfl] at h
      exact h.more (by omega)
end Go.Proofs.YtbmjakaoniegfaaDoor
