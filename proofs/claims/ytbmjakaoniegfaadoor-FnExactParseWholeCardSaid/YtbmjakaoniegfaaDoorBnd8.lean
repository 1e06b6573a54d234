/- The contract of impl.ParseWhole in plain words. Condition: at most 140737488351232 bytes. -/
import Derived.Test.YtbmjakaoniegfaaDoorBnd7
namespace Go.Proofs.YtbmjakaoniegfaaDoor
open Go.RowKit Go.Proofs.YtbmjakaoniegfaaDoorW.PrintWords Go.Proofs.YtbmjakaoniegfaaDoorW.PrintLast Go.Proofs.YtbmjakaoniegfaaDoorW.PrintMore Go.Proofs.YtbmjakaoniegfaaDoor.Math Go.Proofs.YtbmjakaoniegfaaDoor.Big
set_option linter.unusedVariables false
set_option linter.unusedSimpArgs false

def isneg (a : ByteArray) : Bool := decide (0 < a.size) && (bt a 0 == 45)
def bodyOf (a : ByteArray) : ByteArray := if isneg a then a.extract 1 a.size else a
def digB (b : ByteArray) : Bool := (List.range b.size).all fun i => decide (48 ≤ bt b (i : Int)) && decide (bt b (i : Int) ≤ 57)
theorem digB_iff (b : ByteArray) : digB b = true ↔ AllDig b := by
  simp [digB, AllDig, List.all_eq_true]
/-- What ParseWhole answers. -/
def parseres (ng : Bool) (b : ByteArray) : Int × List Int × Int :=
  if digB b = false then (0, [], 6) else if b.size = 0 ∨ (1 < b.size ∧ bt b 0 = 48) ∨ (ng = true ∧ b.size = 1 ∧ bt b 0 = 48) then (0, [], 6) else
  if 2000 < b.size then (0, [], 3) else wfit (if ng then -dnum b b.size else dnum b b.size)
def impl_ParseWhole.f (a0 : ByteArray) : Option (Int × List Int × Int) := if a0.size ≤ 140737488351232 then some (parseres (isneg a0) (bodyOf a0)) else none
theorem bad_dig {b : ByteArray} {i : Int} (h0 : 0 ≤ i) (h1 : i < (b.size : Int)) (h : ¬ (48 ≤ bt b i ∧ bt b i ≤ 57)) : digB b = false := by
  rw [Bool.eq_false_iff]
  intro g
  have := (digB_iff b).1 g i.toNat (by omega)
  rw [show ((i.toNat : Nat) : Int) = i from by omega] at this
  exact h this
theorem parse_bad {ng : Bool} {b : ByteArray} (h : digB b = false) : parseres ng b = (0, [], 6) := by rw [parseres, if_pos h]
theorem loop_eq (b : ByteArray) : ∀ (n i : Nat) (acc : List UInt8), b.size - i = n → ByteArray.toList.loop b i acc = acc.reverse ++ b.data.toList.drop i := by
  intro n
  induction n with
  | zero =>
    intro i acc h
    rw [ByteArray.toList.loop, if_neg (by omega), List.drop_of_length_le (by simp; exact Nat.le_of_sub_eq_zero h), List.append_nil]
  | succ n ih =>
    intro i acc h
    have hi : i < b.size := by omega
    rw [ByteArray.toList.loop, if_pos hi, ih (i + 1) _ (by omega)]
    have : i < b.data.toList.length := by simpa using hi
    rw [List.drop_eq_getElem_cons this, List.reverse_cons, List.append_assoc, List.singleton_append]
    congr 2
    simp [ByteArray.get!]
    exact getElem!_pos b.data i hi
theorem toList_data (b : ByteArray) : b.toList = b.data.toList := by
  rw [ByteArray.toList, loop_eq b _ 0 [] rfl]
  simp
theorem size_list (b : ByteArray) : b.toList.length = b.size := by
  rw [toList_data]
  rfl
theorem empty_true {b : ByteArray} (h : b.size = 0) : b.toList.isEmpty = true := by
  rw [List.isEmpty_iff, ← List.length_eq_zero_iff, size_list, h]
theorem empty_false {b : ByteArray} (h : 0 < b.size) : b.toList.isEmpty = false := by
  rw [Bool.eq_false_iff]
  intro g
  rw [List.isEmpty_iff, ← List.length_eq_zero_iff, size_list] at g
  omega
theorem two_of {a : ByteArray} (h : a.toList = [45, 48]) : a.size = 2 ∧ bt a 0 = 45 ∧ bt a 1 = 48 := by
  obtain ⟨d⟩ := a
  rw [toList_data] at h
  obtain rfl : d = #[45, 48] := by
    apply Array.ext'
    exact h
  exact ⟨rfl, rfl, rfl⟩
theorem to_two {a : ByteArray} (h : a.size = 2) (h0 : bt a 0 = 45) (h1 : bt a 1 = 48) : a.toList = [45, 48] := by
  have e0 := bt_at a 0 (by rw [h]; decide)
  have e1 := bt_at a 1 (by rw [h]; decide)
  rw [h0] at e0
  rw [h1] at e1
  rw [toList_data]
  apply List.ext_getElem
  · have : a.data.toList.length = a.size := rfl
    rw [this, h]
    rfl
  · intro i hi hj
    have hj2 : i = 0 ∨ i = 1 := by simp at hj; omega
    rcases hj2 with rfl | rfl
    · have : (a[0]'(by omega)).toNat = 45 := by exact_mod_cast e0
      have := UInt8.toNat_inj.1 (this.trans (show (45 : Nat) = (45 : UInt8).toNat from rfl))
      rw [Array.getElem_toList]
      exact this
    · have : (a[1]'(by omega)).toNat = 48 := by exact_mod_cast e1
      have := UInt8.toNat_inj.1 (this.trans (show (48 : Nat) = (48 : UInt8).toNat from rfl))
      rw [Array.getElem_toList]
      exact this
theorem bt_extract {a : ByteArray} (h : 1 < a.size) : bt (a.extract 1 a.size) 0 = bt a 1 := by
  unfold bt
  have h1 : (0 : Int).toNat < (a.extract 1 a.size).size := by rw [ByteArray.size_extract]; simp; omega
  have h2 : (1 : Int).toNat < a.size := by simpa using h
  rw [dif_pos h1, dif_pos h2]
  congr 2
  exact ByteArray.getElem_extract h1

set_option maxRecDepth 100000 in
set_option maxHeartbeats 4000000 in
theorem parse_neg (a body : ByteArray) (r1 : Int) (r2 : List Int) (r3 : Int) (w : World) (hsz : a.size ≤ 140737488351232) (h0 : 0 < a.size) (h45 : bt a 0 = 45) (hbody : a.extract 1 a.size = body) (h : parseres true body = (r1, r2, r3)) :
    Calls Tryd.prog 28 #[.string a] w fun e w' => ∃ v1_ : Value, e = .returned (.tuple #[.agg #[.int .i64 r1, v1_], .int .i64 r3]) ∧ Kd.R (Kd.int .i64) 2 w' w.heap.size (fun _ => True) v1_ r2 ∧ Below w.heap.size w w' := by
  have R0 := Aside0.mk (ResAt.next (Below.refl w.heap.size w))
  have HH := Aside0.mk h
  clear h
  have hx6 : ∀ h : 0 < a.size, ((a[0]'h).toNat : Int) = bt a 0 := bt_at a 0
  have q6 : (0 < a.size) = True := eq_true h0
  have qi6 : (0 < (a.size : Int)) = True := eq_true (by omega)
  have c0 : (bt a 0 == 45) = true := by simpa using h45
  have c1 : decide (0 < (a.size : Int)) = true := decide_eq_true (by omega)
  have c2 : decide (1 ≤ (a.size : Int)) = true := decide_eq_true (by omega)
  have c3 : (1 ≤ (a.size : Int)) = True := eq_true (by omega)
  have hbs : body.size ≤ 140737488351232 := by rw [← hbody, ByteArray.size_extract]; omega
  go_enter Tryd.func28, Tryd.ntmps28
  go_wp2
  go_loopw [21] (fun v wr => ∃ (i : Int), v = .int .i64 i ∧ 0 ≤ i ∧ i ≤ (body.size : Int) ∧ Aside0 (∀ j : Nat, (j : Int) < i → 48 ≤ bt body (j : Int) ∧ bt body (j : Int) ≤ 57) ∧ Aside0 (ResAt w wr w.heap.size)) (fun v _ => body.size - (intOf v).toNat)
  case atStart => exact ⟨0, rfl, by omega, by omega, ⟨fun j hj => by omega⟩, R0⟩
  case round =>
    obtain ⟨i, rfl, hi0, hi1, hD, hR⟩ := hrel
    by_cases hlt : i < (body.size : Int)
    · have hx := bt_at body i
      have p20 := eq_true hi0
      have q20 := eq_true hlt
      by_cases hlow : bt body i < 48
      · have hbad := parse_bad (ng := true) (bad_dig hi0 hlt (by omega))
        rw [HH.out] at hbad
        simp only [Prod.mk.injEq] at hbad
        obtain ⟨rfl, rfl, rfl⟩ := hbad
        have c20 : decide (bt body i < 48) = true := decide_eq_true hlow
        obtain ⟨q0, q1, q2, q3⟩ := hR.out.cells
        go_wp2_with fail
        refine bodyPost_ret (results_ct rfl _ _ w.heap.size 28 #[.int .i64 0, .slice none 0 0] (0, 0) _ rfl (hR.out.put _ _) Tryd.underlying28 rfl (by kernel_rfl)) rfl ?_
        exact ⟨_, rfl, hR.out.row (own_zero wr (w.heap.size + 3)) (by omega) _ _, hR.out.low _ _⟩
      · by_cases hhi : 57 < bt body i
        · have hbad := parse_bad (ng := true) (bad_dig hi0 hlt (by omega))
          rw [HH.out] at hbad
          simp only [Prod.mk.injEq] at hbad
          obtain ⟨rfl, rfl, rfl⟩ := hbad
          have c20 : decide (bt body i < 48) = false := decide_eq_false hlow
          have c21 : decide (57 < bt body i) = true := decide_eq_true hhi
          obtain ⟨q0, q1, q2, q3⟩ := hR.out.cells
          go_wp2_with fail
          refine bodyPost_ret (results_ct rfl _ _ w.heap.size 28 #[.int .i64 0, .slice none 0 0] (0, 0) _ rfl (hR.out.put _ _) Tryd.underlying28 rfl (by kernel_rfl)) rfl ?_
          exact ⟨_, rfl, hR.out.row (own_zero wr (w.heap.size + 3)) (by omega) _ _, hR.out.low _ _⟩
        · have c20 : decide (bt body i < 48) = false := decide_eq_false hlow
          have c21 : decide (57 < bt body i) = false := decide_eq_false hhi
          go_wp2
          go_roundw
          case rel =>
            refine ⟨i + 1, by go_num, by omega, by omega, ⟨fun j hj => ?_⟩, hR⟩
            rcases (show (j : Int) < i ∨ (j : Int) = i from by omega) with h | h
            · exact hD.out j h
            · rw [h]
              omega
          case measure => simp [intOf]; omega
    · obtain rfl : i = (body.size : Int) := by omega
      have hall : AllDig body := fun j hj => hD.out j (by omega)
      have hdb := (digB_iff body).2 hall
      have HA := Aside0.mk hall
      have hpr := HH.out
      rw [parseres, if_neg (by rw [hdb]; decide)] at hpr
      obtain ⟨q0, q1, q2, q3⟩ := hR.out.cells
      clear hall hdb
      by_cases hz : body.size = 0
      · rw [if_pos (.inl hz)] at hpr
        simp only [Prod.mk.injEq] at hpr
        obtain ⟨rfl, rfl, rfl⟩ := hpr
        have he := empty_true hz
        go_wp2_with fail
        refine bodyPost_ret (results_ct rfl _ _ w.heap.size 28 #[.int .i64 0, .slice none 0 0] (0, 0) _ rfl (hR.out.put _ _) Tryd.underlying28 rfl (by kernel_rfl)) rfl ?_
        exact ⟨_, rfl, hR.out.row (own_zero wr (w.heap.size + 3)) (by omega) _ _, hR.out.low _ _⟩
      · have hpos : 0 < body.size := by omega
        have he := empty_false hpos
        have hx0 : ∀ h : 0 < body.size, ((body[0]'h).toNat : Int) = bt body 0 := bt_at body 0
        have p0_ := eq_true hpos
        have p1_ : (0 < (body.size : Int)) = True := eq_true (by omega)
        by_cases h1s : 1 < body.size
        · have c5 : decide (1 < (body.size : Int)) = true := decide_eq_true (by omega)
          by_cases h48 : bt body 0 = 48
          · rw [if_pos (.inr (.inl ⟨h1s, h48⟩))] at hpr
            simp only [Prod.mk.injEq] at hpr
            obtain ⟨rfl, rfl, rfl⟩ := hpr
            have c6 : (bt body 0 == 48) = true := beq_iff_eq.2 h48
            go_wp2_with fail
            refine bodyPost_ret (results_ct rfl _ _ w.heap.size 28 #[.int .i64 0, .slice none 0 0] (0, 0) _ rfl (hR.out.put _ _) Tryd.underlying28 rfl (by kernel_rfl)) rfl ?_
            exact ⟨_, rfl, hR.out.row (own_zero wr (w.heap.size + 3)) (by omega) _ _, hR.out.low _ _⟩
          · have hno : ¬ (body.size = 1 ∧ bt body 0 = 48) := fun g => h48 g.2
            have hm : (a.toList == [45, 48]) = false := Bool.eq_false_iff.2 (fun g => by have h2 := two_of (eq_of_beq g); have e := bt_extract (a := a) (by omega); have es := ByteArray.size_extract (a := a) (b := 1) (e := a.size); rw [hbody] at e es; rw [h2.2.2] at e; exact hno ⟨by omega, e⟩)
            have c6 : (bt body 0 == 48) = false := beq_eq_false_iff_ne.2 h48
            rw [if_neg (by rintro (g | g | g); exact hz g; exact h48 g.2; exact h48 g.2.2)] at hpr
            by_cases h2k : body.size ≤ 2000
            · have c7 : decide (2000 < (body.size : Int)) = false := decide_eq_false (by omega)
              rw [if_neg (by omega)] at hpr
              have hw : wfit (-dnum body body.size) = (r1, r2, r3) := hpr
              have HW := Aside0.mk hw
              clear hpr hw
              go_wp2_with fail
              refine (readBig_neg a body _ HA.out hpos h2k h0 h45 hbody).mono ?_
              rintro e w2 ⟨z, rfl, hbz, hb2⟩
              have BZ := Aside0.mk hbz
              have R2 := Aside0.mk (hR.out.below hb2)
              clear hbz hb2 q0 q1 q2 q3
              go_wp2_with fail
              refine (whole_calls z _ 10000 _ BZ.out (by omega) r1 r2 r3 HW.out).mono ?_
              rintro e w5 ⟨v, rfl, hr, hb5⟩
              obtain ⟨A1, c1, rfl⟩ := own_slice hr
              have R5 := Aside0.mk (R2.out.below hb5)
              have HRW := Aside0.mk hr
              obtain ⟨q0, q1, q2, q3⟩ := R5.out.cells
              clear hr hb5
              go_wp2_with fail
              refine bodyPost_ret (results_ct rfl _ _ w.heap.size 28 #[.int .i64 r1, .slice A1 r2.length c1] (0, 0) _ rfl (R5.out.put _ _) Tryd.underlying28 rfl (by kernel_rfl)) rfl ?_
              exact ⟨_, rfl, R5.out.row HRW.out R2.out.lo.size _ _, R5.out.low _ _⟩
            · have c7 : decide (2000 < (body.size : Int)) = true := decide_eq_true (by omega)
              rw [if_pos (by omega)] at hpr
              simp only [Prod.mk.injEq] at hpr
              obtain ⟨rfl, rfl, rfl⟩ := hpr
              go_wp2_with fail
              refine bodyPost_ret (results_ct rfl _ _ w.heap.size 28 #[.int .i64 0, .slice none 0 0] (0, 0) _ rfl (hR.out.put _ _) Tryd.underlying28 rfl (by kernel_rfl)) rfl ?_
              exact ⟨_, rfl, hR.out.row (own_zero wr (w.heap.size + 3)) (by omega) _ _, hR.out.low _ _⟩
        · have h1e : body.size = 1 := by omega
          have c5 : decide (1 < (body.size : Int)) = false := decide_eq_false (by omega)
          have c7 : decide (2000 < (body.size : Int)) = false := decide_eq_false (by omega)
          have h2k : body.size ≤ 2000 := by omega
          by_cases h48 : bt body 0 = 48
          · rw [if_pos (.inr (.inr ⟨rfl, h1e, h48⟩))] at hpr
            simp only [Prod.mk.injEq] at hpr
            obtain ⟨rfl, rfl, rfl⟩ := hpr
            have hm : (a.toList == [45, 48]) = true := by
              have es := ByteArray.size_extract (a := a) (b := 1) (e := a.size)
              rw [hbody] at es
              have e := bt_extract (a := a) (by omega)
              rw [hbody, h48] at e
              exact beq_iff_eq.2 (to_two (by omega) h45 e.symm)
            go_wp2_with fail
            refine bodyPost_ret (results_ct rfl _ _ w.heap.size 28 #[.int .i64 0, .slice none 0 0] (0, 0) _ rfl (hR.out.put _ _) Tryd.underlying28 rfl (by kernel_rfl)) rfl ?_
            exact ⟨_, rfl, hR.out.row (own_zero wr (w.heap.size + 3)) (by omega) _ _, hR.out.low _ _⟩
          · have hno : ¬ (body.size = 1 ∧ bt body 0 = 48) := fun g => h48 g.2
            have hm : (a.toList == [45, 48]) = false := Bool.eq_false_iff.2 (fun g => by have h2 := two_of (eq_of_beq g); have e := bt_extract (a := a) (by omega); have es := ByteArray.size_extract (a := a) (b := 1) (e := a.size); rw [hbody] at e es; rw [h2.2.2] at e; exact hno ⟨by omega, e⟩)
            rw [if_neg (by rintro (g | g | g); exact hz g; exact h48 g.2; exact h48 g.2.2), if_neg (by omega)] at hpr
            have hw : wfit (-dnum body body.size) = (r1, r2, r3) := hpr
            have HW := Aside0.mk hw
            clear hpr hw
            go_wp2_with fail
            refine (readBig_neg a body _ HA.out hpos h2k h0 h45 hbody).mono ?_
            rintro e w2 ⟨z, rfl, hbz, hb2⟩
            have BZ := Aside0.mk hbz
            have R2 := Aside0.mk (hR.out.below hb2)
            clear hbz hb2 q0 q1 q2 q3
            go_wp2_with fail
            refine (whole_calls z _ 10000 _ BZ.out (by omega) r1 r2 r3 HW.out).mono ?_
            rintro e w5 ⟨v, rfl, hr, hb5⟩
            obtain ⟨A1, c1, rfl⟩ := own_slice hr
            have R5 := Aside0.mk (R2.out.below hb5)
            have HRW := Aside0.mk hr
            obtain ⟨q0, q1, q2, q3⟩ := R5.out.cells
            clear hr hb5
            go_wp2_with fail
            refine bodyPost_ret (results_ct rfl _ _ w.heap.size 28 #[.int .i64 r1, .slice A1 r2.length c1] (0, 0) _ rfl (R5.out.put _ _) Tryd.underlying28 rfl (by kernel_rfl)) rfl ?_
            exact ⟨_, rfl, R5.out.row HRW.out R2.out.lo.size _ _, R5.out.low _ _⟩

set_option maxRecDepth 100000 in
set_option maxHeartbeats 4000000 in
theorem parse_pos (body : ByteArray) (r1 : Int) (r2 : List Int) (r3 : Int) (w : World) (hsz : body.size ≤ 140737488351232) (hp : 0 < body.size) (h45 : 0 < body.size → bt body 0 ≠ 45) (h : parseres false body = (r1, r2, r3)) :
    Calls Tryd.prog 28 #[.string body] w fun e w' => ∃ v1_ : Value, e = .returned (.tuple #[.agg #[.int .i64 r1, v1_], .int .i64 r3]) ∧ Kd.R (Kd.int .i64) 2 w' w.heap.size (fun _ => True) v1_ r2 ∧ Below w.heap.size w w' := by
  have R0 := Aside0.mk (ResAt.next (Below.refl w.heap.size w))
  have HH := Aside0.mk h
  clear h
  have hbs := hsz
  have hx6 : ∀ h : 0 < body.size, ((body[0]'h).toNat : Int) = bt body 0 := bt_at body 0
  have q6 : (0 < body.size) = True := eq_true hp
  have qi6 : (0 < (body.size : Int)) = True := eq_true (by omega)
  have c0 : (bt body 0 == 45) = false := by simpa using h45 hp
  have c1 : decide (0 < (body.size : Int)) = true := decide_eq_true (by omega)
  go_enter Tryd.func28, Tryd.ntmps28
  go_wp2
  go_loopw [21] (fun v wr => ∃ (i : Int), v = .int .i64 i ∧ 0 ≤ i ∧ i ≤ (body.size : Int) ∧ Aside0 (∀ j : Nat, (j : Int) < i → 48 ≤ bt body (j : Int) ∧ bt body (j : Int) ≤ 57) ∧ Aside0 (ResAt w wr w.heap.size)) (fun v _ => body.size - (intOf v).toNat)
  case atStart => exact ⟨0, rfl, by omega, by omega, ⟨fun j hj => by omega⟩, R0⟩
  case round =>
    obtain ⟨i, rfl, hi0, hi1, hD, hR⟩ := hrel
    by_cases hlt : i < (body.size : Int)
    · have hx := bt_at body i
      have p20 := eq_true hi0
      have q20 := eq_true hlt
      by_cases hlow : bt body i < 48
      · have hbad := parse_bad (ng := false) (bad_dig hi0 hlt (by omega))
        rw [HH.out] at hbad
        simp only [Prod.mk.injEq] at hbad
        obtain ⟨rfl, rfl, rfl⟩ := hbad
        have c20 : decide (bt body i < 48) = true := decide_eq_true hlow
        obtain ⟨q0, q1, q2, q3⟩ := hR.out.cells
        go_wp2_with fail
        refine bodyPost_ret (results_ct rfl _ _ w.heap.size 28 #[.int .i64 0, .slice none 0 0] (0, 0) _ rfl (hR.out.put _ _) Tryd.underlying28 rfl (by kernel_rfl)) rfl ?_
        exact ⟨_, rfl, hR.out.row (own_zero wr (w.heap.size + 3)) (by omega) _ _, hR.out.low _ _⟩
      · by_cases hhi : 57 < bt body i
        · have hbad := parse_bad (ng := false) (bad_dig hi0 hlt (by omega))
          rw [HH.out] at hbad
          simp only [Prod.mk.injEq] at hbad
          obtain ⟨rfl, rfl, rfl⟩ := hbad
          have c20 : decide (bt body i < 48) = false := decide_eq_false hlow
          have c21 : decide (57 < bt body i) = true := decide_eq_true hhi
          obtain ⟨q0, q1, q2, q3⟩ := hR.out.cells
          go_wp2_with fail
          refine bodyPost_ret (results_ct rfl _ _ w.heap.size 28 #[.int .i64 0, .slice none 0 0] (0, 0) _ rfl (hR.out.put _ _) Tryd.underlying28 rfl (by kernel_rfl)) rfl ?_
          exact ⟨_, rfl, hR.out.row (own_zero wr (w.heap.size + 3)) (by omega) _ _, hR.out.low _ _⟩
        · have c20 : decide (bt body i < 48) = false := decide_eq_false hlow
          have c21 : decide (57 < bt body i) = false := decide_eq_false hhi
          go_wp2
          go_roundw
          case rel =>
            refine ⟨i + 1, by go_num, by omega, by omega, ⟨fun j hj => ?_⟩, hR⟩
            rcases (show (j : Int) < i ∨ (j : Int) = i from by omega) with h | h
            · exact hD.out j h
            · rw [h]
              omega
          case measure => simp [intOf]; omega
    · obtain rfl : i = (body.size : Int) := by omega
      have hall : AllDig body := fun j hj => hD.out j (by omega)
      have hdb := (digB_iff body).2 hall
      have HA := Aside0.mk hall
      have hpr := HH.out
      rw [parseres, if_neg (by rw [hdb]; decide)] at hpr
      obtain ⟨q0, q1, q2, q3⟩ := hR.out.cells
      clear hall hdb
      by_cases hz : body.size = 0
      · exact absurd hp (by omega)
      · have hpos : 0 < body.size := by omega
        have he := empty_false hpos
        have hx0 : ∀ h : 0 < body.size, ((body[0]'h).toNat : Int) = bt body 0 := bt_at body 0
        have p0_ := eq_true hpos
        have p1_ : (0 < (body.size : Int)) = True := eq_true (by omega)
        by_cases h1s : 1 < body.size
        · have c5 : decide (1 < (body.size : Int)) = true := decide_eq_true (by omega)
          by_cases h48 : bt body 0 = 48
          · rw [if_pos (.inr (.inl ⟨h1s, h48⟩))] at hpr
            simp only [Prod.mk.injEq] at hpr
            obtain ⟨rfl, rfl, rfl⟩ := hpr
            have c6 : (bt body 0 == 48) = true := beq_iff_eq.2 h48
            go_wp2_with fail
            refine bodyPost_ret (results_ct rfl _ _ w.heap.size 28 #[.int .i64 0, .slice none 0 0] (0, 0) _ rfl (hR.out.put _ _) Tryd.underlying28 rfl (by kernel_rfl)) rfl ?_
            exact ⟨_, rfl, hR.out.row (own_zero wr (w.heap.size + 3)) (by omega) _ _, hR.out.low _ _⟩
          · have hno : ¬ (body.size = 1 ∧ bt body 0 = 48) := fun g => h48 g.2
            have hm : (body.toList == [45, 48]) = false := Bool.eq_false_iff.2 (fun g => h45 hpos (two_of (eq_of_beq g)).2.1)
            have c6 : (bt body 0 == 48) = false := beq_eq_false_iff_ne.2 h48
            rw [if_neg (by rintro (g | g | g); exact hz g; exact h48 g.2; exact h48 g.2.2)] at hpr
            by_cases h2k : body.size ≤ 2000
            · have c7 : decide (2000 < (body.size : Int)) = false := decide_eq_false (by omega)
              rw [if_neg (by omega)] at hpr
              have hw : wfit (dnum body body.size) = (r1, r2, r3) := hpr
              have HW := Aside0.mk hw
              clear hpr hw
              go_wp2_with fail
              refine (readBig_pos body _ HA.out hpos h2k (h45 hpos)).mono ?_
              rintro e w2 ⟨z, rfl, hbz, hb2⟩
              have BZ := Aside0.mk hbz
              have R2 := Aside0.mk (hR.out.below hb2)
              clear hbz hb2 q0 q1 q2 q3
              go_wp2_with fail
              refine (whole_calls z _ 10000 _ BZ.out (by omega) r1 r2 r3 HW.out).mono ?_
              rintro e w5 ⟨v, rfl, hr, hb5⟩
              obtain ⟨A1, c1, rfl⟩ := own_slice hr
              have R5 := Aside0.mk (R2.out.below hb5)
              have HRW := Aside0.mk hr
              obtain ⟨q0, q1, q2, q3⟩ := R5.out.cells
              clear hr hb5
              go_wp2_with fail
              refine bodyPost_ret (results_ct rfl _ _ w.heap.size 28 #[.int .i64 r1, .slice A1 r2.length c1] (0, 0) _ rfl (R5.out.put _ _) Tryd.underlying28 rfl (by kernel_rfl)) rfl ?_
              exact ⟨_, rfl, R5.out.row HRW.out R2.out.lo.size _ _, R5.out.low _ _⟩
            · have c7 : decide (2000 < (body.size : Int)) = true := decide_eq_true (by omega)
              rw [if_pos (by omega)] at hpr
              simp only [Prod.mk.injEq] at hpr
              obtain ⟨rfl, rfl, rfl⟩ := hpr
              go_wp2_with fail
              refine bodyPost_ret (results_ct rfl _ _ w.heap.size 28 #[.int .i64 0, .slice none 0 0] (0, 0) _ rfl (hR.out.put _ _) Tryd.underlying28 rfl (by kernel_rfl)) rfl ?_
              exact ⟨_, rfl, hR.out.row (own_zero wr (w.heap.size + 3)) (by omega) _ _, hR.out.low _ _⟩
        · have h1e : body.size = 1 := by omega
          have c5 : decide (1 < (body.size : Int)) = false := decide_eq_false (by omega)
          have c7 : decide (2000 < (body.size : Int)) = false := decide_eq_false (by omega)
          have h2k : body.size ≤ 2000 := by omega
          have hm : (body.toList == [45, 48]) = false := Bool.eq_false_iff.2 (fun g => h45 hpos (two_of (eq_of_beq g)).2.1)
          rw [if_neg (by rintro (g | g | g); exact hz g; exact h1s g.1; exact absurd g.1 (by decide)), if_neg (by omega)] at hpr
          have hw : wfit (dnum body body.size) = (r1, r2, r3) := hpr
          have HW := Aside0.mk hw
          clear hpr hw
          go_wp2_with fail
          refine (readBig_pos body _ HA.out hpos h2k (h45 hpos)).mono ?_
          rintro e w2 ⟨z, rfl, hbz, hb2⟩
          have BZ := Aside0.mk hbz
          have R2 := Aside0.mk (hR.out.below hb2)
          clear hbz hb2 q0 q1 q2 q3
          go_wp2_with fail
          refine (whole_calls z _ 10000 _ BZ.out (by omega) r1 r2 r3 HW.out).mono ?_
          rintro e w5 ⟨v, rfl, hr, hb5⟩
          obtain ⟨A1, c1, rfl⟩ := own_slice hr
          have R5 := Aside0.mk (R2.out.below hb5)
          have HRW := Aside0.mk hr
          obtain ⟨q0, q1, q2, q3⟩ := R5.out.cells
          clear hr hb5
          go_wp2_with fail
          refine bodyPost_ret (results_ct rfl _ _ w.heap.size 28 #[.int .i64 r1, .slice A1 r2.length c1] (0, 0) _ rfl (R5.out.put _ _) Tryd.underlying28 rfl (by kernel_rfl)) rfl ?_
          exact ⟨_, rfl, R5.out.row HRW.out R2.out.lo.size _ _, R5.out.low _ _⟩

set_option maxRecDepth 100000 in
set_option maxHeartbeats 4000000 in
theorem parse_empty (body : ByteArray) (r1 : Int) (r2 : List Int) (r3 : Int) (w : World) (hsz : body.size ≤ 140737488351232) (hz : body.size = 0) (h : parseres false body = (r1, r2, r3)) :
    Calls Tryd.prog 28 #[.string body] w fun e w' => ∃ v1_ : Value, e = .returned (.tuple #[.agg #[.int .i64 r1, v1_], .int .i64 r3]) ∧ Kd.R (Kd.int .i64) 2 w' w.heap.size (fun _ => True) v1_ r2 ∧ Below w.heap.size w w' := by
  have R0 := Aside0.mk (ResAt.next (Below.refl w.heap.size w))
  have HH := Aside0.mk h
  clear h
  have hbs := hsz
  have c1 : decide (0 < (body.size : Int)) = false := decide_eq_false (by omega)
  go_enter Tryd.func28, Tryd.ntmps28
  go_wp2
  go_loopw [21] (fun v wr => ∃ (i : Int), v = .int .i64 i ∧ 0 ≤ i ∧ i ≤ (body.size : Int) ∧ Aside0 (∀ j : Nat, (j : Int) < i → 48 ≤ bt body (j : Int) ∧ bt body (j : Int) ≤ 57) ∧ Aside0 (ResAt w wr w.heap.size)) (fun v _ => body.size - (intOf v).toNat)
  case atStart => exact ⟨0, rfl, by omega, by omega, ⟨fun j hj => by omega⟩, R0⟩
  case round =>
    obtain ⟨i, rfl, hi0, hi1, hD, hR⟩ := hrel
    by_cases hlt : i < (body.size : Int)
    · exact absurd hlt (by omega)
    · obtain rfl : i = (body.size : Int) := by omega
      have hall : AllDig body := fun j hj => hD.out j (by omega)
      have hdb := (digB_iff body).2 hall
      have HA := Aside0.mk hall
      have hpr := HH.out
      rw [parseres, if_neg (by rw [hdb]; decide)] at hpr
      obtain ⟨q0, q1, q2, q3⟩ := hR.out.cells
      clear hall hdb
      have hz0 := hz
      by_cases hz : body.size = 0
      · rw [if_pos (.inl hz)] at hpr
        simp only [Prod.mk.injEq] at hpr
        obtain ⟨rfl, rfl, rfl⟩ := hpr
        have he := empty_true hz
        go_wp2_with fail
        refine bodyPost_ret (results_ct rfl _ _ w.heap.size 28 #[.int .i64 0, .slice none 0 0] (0, 0) _ rfl (hR.out.put _ _) Tryd.underlying28 rfl (by kernel_rfl)) rfl ?_
        exact ⟨_, rfl, hR.out.row (own_zero wr (w.heap.size + 3)) (by omega) _ _, hR.out.low _ _⟩
      · exact absurd hz0 hz

theorem impl_ParseWhole.calls (a0 : ByteArray) (r1 : Int) (r2 : List Int) (r3 : Int) (w : World) (h : impl_ParseWhole.f a0 = some (r1, r2, r3)) :
    Calls Tryd.prog 28 #[.string a0] w fun e w' => ∃ v1_ : Value, e = .returned (.tuple #[.agg #[.int .i64 r1, v1_], .int .i64 r3]) ∧ Kd.R (Kd.int .i64) 2 w' w.heap.size (fun _ => True) v1_ r2 ∧ Below w.heap.size w w' := by
  unfold impl_ParseWhole.f at h
  split at h
  case isFalse => cases h
  rename_i hsz
  injection h with h
  by_cases hz : a0.size = 0
  · have hn : isneg a0 = false := by simp [isneg, hz]
    rw [bodyOf, hn] at h
    exact parse_empty a0 r1 r2 r3 w hsz hz h
  · by_cases h45 : bt a0 0 = 45
    · have hn : isneg a0 = true := by simp [isneg, h45]; omega
      rw [bodyOf, hn, if_pos rfl] at h
      exact parse_neg a0 _ r1 r2 r3 w hsz (by omega) h45 rfl h
    · have hn : isneg a0 = false := by simp [isneg, h45]
      rw [bodyOf, hn] at h
      exact parse_pos a0 r1 r2 r3 w hsz (by omega) (fun _ => h45) h
end Go.Proofs.YtbmjakaoniegfaaDoor
