/- The walks of subDigits and cmpDigits: the difference of digits, how digits compare. Conditions: both are digits in memory; for the difference the first are no less. -/
import Derived.Test.YtbmjakaoniegfaaBig2
import Derived.Deep.QuietTactic
import Derived.BigQuiet
namespace Go.Proofs.Ytbmjakaoniegfaa.Big
open Go.RowKit Go.Proofs.YtbmjakaoniegfaaW.PrintWords Go.Proofs.Ytbmjakaoniegfaa.Math
set_option linter.unusedVariables false
set_option linter.unusedSimpArgs false

set_option maxHeartbeats 1000000 in
theorem subDigits_calls (xs ys : List Int) (vx vy : Value) (w : World) (hx : Digs w vx xs) (hy : Digs w vy ys) (ox : Okd xs) (oy : Okd ys) (hb : xs.length ≤ 1000000000) (hle : ys.length ≤ xs.length) (hv : val ys ≤ val xs) :
    Calls Try.prog 54 #[vx, vy] w fun e w' => ∃ v zs, e = .returned v ∧ Digs w' v zs ∧ Okd zs ∧ zs.length = xs.length ∧ val zs = val xs - val ys ∧ Below w.heap.size w w' := by
  obtain ⟨A, c, rfl⟩ := hx.shape
  obtain ⟨B, d, rfl⟩ := hy.shape
  have HX := Aside0.mk hx
  have HY := Aside0.mk hy
  have OX := Aside0.mk ox
  have OY := Aside0.mk oy
  have HV := Aside0.mk hv
  clear hx hy ox oy hv
  have hmk := fun W => run_make_row' (P := Try.prog) 57 66 (.int .u32 0) 4 Try.underlying57 info32 rfl .i64 .i64 xs.length (by omega) (by omega) W
  have hb2 : ys.length ≤ 1000000000 := by omega
  have D0 := Aside0.mk (Digs.made w xs.length (by omega))
  go_enter Try.func54, Try.ntmps54
  go_wp2
  go_loopw [6, 14] (fun c i wr => ∃ (k : Nat) (lent : Int) (ds : List Int), k ≤ xs.length ∧ c = .int .u64 lent ∧ i = .int .i64 k ∧ 0 ≤ lent ∧ lent ≤ 1 ∧
      Aside0 (SubRel xs ys k lent ds ∧ Digs wr (.slice (some ⟨w.heap.size, 0, none⟩) xs.length xs.length) (ds ++ List.replicate (xs.length - k) 0) ∧ Below w.heap.size w wr)) (fun _ i _ => xs.length - (intOf i).toNat)
  case atStart => exact ⟨0, 0, [], Nat.zero_le _, rfl, rfl, by omega, by omega, ⟨SubRel.start _ _, by simpa using D0.out, (Below.refl _ _).alloc (Nat.le_refl _) _⟩⟩
  case round =>
    obtain ⟨k, lent, ds, hk, rfl, rfl, hc0, hc1, hR⟩ := hrel
    by_cases hlt : k < xs.length
    · obtain ⟨g, c', he, hg⟩ := HX.out.form (by omega)
      injection he with he1 he2 he3
      subst he1 he3
      have hgw : g ≠ w.heap.size := by omega
      have hcx := ((HX.out.below hR.out.2.2).at_ hlt).1
      have hbx := getD_ok OX.out k
      obtain ⟨x, hxe⟩ : ∃ x, x = xs.getD k 0 := ⟨_, rfl⟩
      rw [← hxe] at hcx hbx
      have HXE := Aside0.mk hxe
      clear hxe
      obtain ⟨o, hoc, hof⟩ : ∃ o, wr.cell? ⟨w.heap.size, k, none⟩ = some (.int .u32 o) ∧ wr.frozen? ⟨w.heap.size, k, none⟩ = false := ⟨_, hR.out.2.1.at_ (k := k) (by simp [hR.out.1.len]; omega)⟩
      have fin : ∀ t, t = xs.getD k 0 - lent - ys.getD k 0 → SubRel xs ys (k + 1) (if t < 0 then 1 else 0) (ds ++ [t % 4294967296]) ∧ Digs (wr.setCell ⟨w.heap.size, k, none⟩ (.int .u32 (t % 4294967296))) (.slice (some ⟨w.heap.size, 0, none⟩) xs.length xs.length) ((ds ++ [t % 4294967296]) ++ List.replicate (xs.length - (k + 1)) 0) ∧ Below w.heap.size w (wr.setCell ⟨w.heap.size, k, none⟩ (.int .u32 (t % 4294967296))) := by
        intro t ht
        refine ⟨hR.out.1.step OX.out OY.out hlt ht, ?_, hR.out.2.2.setCell (Nat.le_refl _) _⟩
        have h1 := (hR.out.2.1.put (by simp [hR.out.1.len]; omega) k (t % 4294967296)).1
        have hl := hR.out.1.len
        rw [show xs.length - k = (xs.length - (k + 1)) + 1 from by omega, ← hl, set_fill] at h1
        rw [← hl]
        exact h1
      have FIN := Aside0.mk fin
      clear fin
      by_cases hlt2 : k < ys.length
      · obtain ⟨g2, d', he, hg2⟩ := HY.out.form (by omega)
        injection he with he1 he2 he3
        subst he1 he3
        have hcy := ((HY.out.below hR.out.2.2).at_ hlt2).1
        have hby := getD_ok OY.out k
        obtain ⟨y, hye⟩ : ∃ y, y = ys.getD k 0 := ⟨_, rfl⟩
        rw [← hye] at hcy hby
        have HYE := Aside0.mk hye
        clear hye
        go_wp2
        go_roundw
        case rel =>
          have hf := sub_form (x - lent - y) (by omega) (by omega)
          rw [sub_wrap, hf.1, hf.2]
          exact ⟨k + 1, _, _, by omega, rfl, by go_num, by split <;> omega, by split <;> omega, ⟨FIN.out (x - lent - y) (by rw [HXE.out, HYE.out])⟩⟩
        case measure => simp [intOf]; omega
      · go_wp2
        go_roundw
        case rel =>
          have hf := sub_form (x - lent) (by omega) (by omega)
          rw [hf.1, hf.2]
          exact ⟨k + 1, _, _, by omega, rfl, by go_num, by split <;> omega, by split <;> omega, ⟨FIN.out (x - lent) (by rw [HXE.out, List.getD_eq_getElem?_getD (l := ys), List.getElem?_eq_none (by omega)]; simp)⟩⟩
        case measure => simp [intOf]; omega
    · obtain rfl : k = xs.length := by omega
      go_wp2
      go_ret
      obtain ⟨h1, h2, h3⟩ := hR.out.1.done hle HV.out
      have h4 := hR.out.2.1
      rw [Nat.sub_self, List.replicate_zero, List.append_nil] at h4
      exact ⟨_, _, rfl, h4, h1, h2, h3, hR.out.2.2⟩

set_option maxHeartbeats 1000000 in
theorem cmpDigits_calls (xs ys : List Int) (vx vy : Value) (w : World) (hx : Digs w vx xs) (hy : Digs w vy ys) (ox : Okd xs) (oy : Okd ys) (tx : Tight xs) (ty : Tight ys) (hb : xs.length ≤ 1000000000) (hb2 : ys.length ≤ 1000000000) :
    Calls Try.prog 46 #[vx, vy] w fun e w' => e = .returned (.int .i64 (sgn (val xs - val ys))) ∧ Below w.heap.size w w' := by
  obtain ⟨A, c, rfl⟩ := hx.shape
  obtain ⟨B, d, rfl⟩ := hy.shape
  have HX := Aside0.mk hx
  have HY := Aside0.mk hy
  have OX := Aside0.mk ox
  have OY := Aside0.mk oy
  have fl : xs.length < ys.length → sgn (val xs - val ys) = -1 := fun h => by
    have := val_lt_of_length ox oy ty h
    simp only [sgn]
    rw [if_pos (by omega)]
  have fg : ys.length < xs.length → sgn (val xs - val ys) = 1 := fun h => by
    have := val_lt_of_length oy ox tx h
    simp only [sgn]
    rw [if_neg (by omega), if_neg (by omega)]
  have FL := Aside0.mk (And.intro fl fg)
  clear fl fg hx hy ox oy tx ty
  by_cases h1 : xs.length < ys.length
  · have hne : ((xs.length : Int) == (ys.length : Int)) = false := by simp; omega
    have hnq : ((xs.length : Int) != (ys.length : Int)) = true := by simp; omega
    go_enter Try.func46, Try.ntmps46
    go_wp2
    go_ret
    exact ⟨by rw [FL.out.1 h1]; rfl, Below.refl _ _⟩
  by_cases h2 : ys.length < xs.length
  · have hne : ((xs.length : Int) == (ys.length : Int)) = false := by simp; omega
    have hnq : ((xs.length : Int) != (ys.length : Int)) = true := by simp; omega
    go_enter Try.func46, Try.ntmps46
    go_wp2
    go_ret
    exact ⟨by rw [FL.out.2 h2]; rfl, Below.refl _ _⟩
  have hl : xs.length = ys.length := by omega
  have HL := Aside0.mk hl
  have hne : ((xs.length : Int) == (ys.length : Int)) = true := by simp; omega
  have hnq : ((xs.length : Int) != (ys.length : Int)) = false := by simp; omega
  clear hl
  go_enter Try.func46, Try.ntmps46
  go_wp2
  go_loopw [5] (fun i wr => ∃ (k : Nat), k ≤ xs.length ∧ i = .int .i64 ((k : Int) - 1) ∧
      Aside0 (xs.drop k = ys.drop k ∧ Below w.heap.size w wr)) (fun i _ => (intOf i + 1).toNat)
  case atStart => exact ⟨xs.length, Nat.le_refl _, rfl, ⟨by rw [List.drop_of_length_le (Nat.le_refl _), List.drop_of_length_le (by have := HL.out; omega)], Below.refl _ _⟩⟩
  case round =>
    obtain ⟨k, hk, rfl, hR⟩ := hrel
    cases k with
    | zero =>
      go_wp2
      go_ret
      have h0 := hR.out.1
      simp only [List.drop_zero] at h0
      exact ⟨by rw [h0, Int.sub_self]; rfl, hR.out.2⟩
    | succ k =>
      have ek : ((k + 1 : Nat) : Int) - 1 = (k : Int) := by omega
      rw [ek]
      clear ek
      obtain ⟨g, c', he, hg⟩ := HX.out.form (by omega)
      injection he with he1 he2 he3
      subst he1 he3
      obtain ⟨g2, d', he, hg2⟩ := HY.out.form (by have := HL.out; omega)
      injection he with he1 he2 he3
      subst he1 he3
      have hcx := ((HX.out.below hR.out.2).at_ (k := k) (by omega)).1
      have hcy := ((HY.out.below hR.out.2).at_ (k := k) (by have := HL.out; omega)).1
      have hbx := getD_ok OX.out k
      have hby := getD_ok OY.out k
      have fin : (xs.getD k 0 = ys.getD k 0 → xs.drop k = ys.drop k) ∧ (xs.getD k 0 < ys.getD k 0 → sgn (val xs - val ys) = -1) ∧ (ys.getD k 0 < xs.getD k 0 → sgn (val xs - val ys) = 1) := by
        have hl := HL.out
        refine ⟨fun h => drop_succ_getD hl (by omega) hR.out.1 h, fun h => ?_, fun h => ?_⟩
        · have := val_drop_lt OX.out OY.out hl (by omega) hR.out.1 h
          simp only [sgn]
          rw [if_pos (by omega)]
        · have := val_drop_lt OY.out OX.out hl.symm (by omega) hR.out.1.symm h
          simp only [sgn]
          rw [if_neg (by omega), if_neg (by omega)]
      obtain ⟨x, hxe⟩ : ∃ x, x = xs.getD k 0 := ⟨_, rfl⟩
      obtain ⟨y, hye⟩ : ∃ y, y = ys.getD k 0 := ⟨_, rfl⟩
      rw [← hxe] at hcx hbx fin
      rw [← hye] at hcy hby fin
      have FIN := Aside0.mk fin
      clear hxe hye fin
      have hk2 : k < ys.length := by have := HL.out; omega
      rcases Int.lt_trichotomy x y with hxy | hxy | hxy
      · have e1 : (x == y) = false := by simp; omega
        have e2 : (x != y) = true := by simp; omega
        go_wp2
        go_quiet (fail)
        go_wp2
        go_quiet (fail)
        go_wp2
        go_ret
        exact ⟨by rw [FIN.out.2.1 hxy]; rfl, by repeat (first | exact hR.out.2 | apply pw_below_drewN | apply below_drew)⟩
      · have e1 : (x == y) = true := by simp; omega
        have e2 : (x != y) = false := by simp; omega
        have HXY := Aside0.mk hxy
        clear hxy
        go_wp2
        go_quiet (fail)
        go_wp2
        go_roundw
        case rel => exact ⟨k, by omega, by go_num, ⟨FIN.out.1 HXY.out, by repeat (first | exact hR.out.2 | apply pw_below_drewN | apply below_drew)⟩⟩
        case measure => simp [intOf]
      · have e1 : (x == y) = false := by simp; omega
        have e2 : (x != y) = true := by simp; omega
        have e3 : ¬ x < y := by omega
        go_wp2
        go_quiet (fail)
        go_wp2
        go_quiet (fail)
        go_wp2
        go_ret
        exact ⟨by rw [FIN.out.2.2 hxy]; rfl, by repeat (first | exact hR.out.2 | apply pw_below_drewN | apply below_drew)⟩
end Go.Proofs.Ytbmjakaoniegfaa.Big
