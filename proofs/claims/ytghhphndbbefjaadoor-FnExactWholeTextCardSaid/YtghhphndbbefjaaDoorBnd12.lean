/- The contract of impl.WholeText in plain words. Condition: at most 1000000000 limbs. -/
import Derived.Test.YtghhphndbbefjaaDoorBnd1
import Derived.Test.YtghhphndbbefjaaDoorBndB
import Derived.Test.YtghhphndbbefjaaDoorBigC
import Derived.Test.YtghhphndbbefjaaDoorBig21
namespace Go.Proofs.YtghhphndbbefjaaDoor
open Go.RowKit Go.Proofs.YtghhphndbbefjaaDoorW.PrintWords Go.Proofs.YtghhphndbbefjaaDoorW.PrintLast Go.Proofs.YtghhphndbbefjaaDoorW.PrintMore Go.Proofs.YtghhphndbbefjaaDoor.Math Go.Proofs.YtghhphndbbefjaaDoor.Big
set_option linter.unusedVariables false
set_option linter.unusedSimpArgs false

theorem text_bound {s : Int} {l : List Int} (h : isW s l = true) : (wv s l).natAbs < 16777216 ^ 200 := by
  have hc := isW_cw h
  have h1 := limbs_lt (wv s l).natAbs
  rw [← hc.limbs] at h1
  exact Nat.lt_of_lt_of_le h1 (Nat.pow_le_pow_right (by omega) (isW_len h))
theorem text_short {m j k : Nat} (h : m < 16777216 ^ j) (e : 24 * j = k + 1) : (decI m).length ≤ k + 1 := by
  rw [lpow_two, e] at h
  exact decI_len m k (Nat.lt_of_lt_of_le h (Nat.pow_le_pow_left (by omega) _))
def textres (s : Int) (l : List Int) : ByteArray × Int := if isW s l then (strOfNums (txt (wv s l)), 0) else ((⟨#[]⟩ : ByteArray), 1)
def impl_WholeText.f (a0_0 : Int) (l0_1 : List Int) : Option (ByteArray × Int) := if l0_1.length ≤ 1000000000 then some (textres a0_0 l0_1) else none
set_option maxRecDepth 100000 in
set_option maxHeartbeats 2000000 in
theorem impl_WholeText.calls (a0_0 : Int) (A0_1 : Option Addr) (c0_1 : Nat) (l0_1 : List Int) (r1 : ByteArray) (r2 : Int) (w : World) (hr0_1 : Kd.C (Kd.int .i64) w A0_1 l0_1.length l0_1) (hc0_1 : l0_1.length ≤ c0_1) (h : impl_WholeText.f a0_0 l0_1 = some (r1, r2)) :
    Calls Tryd.prog 19 #[.agg #[.int .i64 a0_0, .slice A0_1 l0_1.length c0_1]] w fun e w' => e = .returned (.tuple #[.string r1, .int .i64 r2]) ∧ Below w.heap.size w w' := by
  unfold impl_WholeText.f at h
  split at h
  case isFalse => cases h
  rename_i hl
  injection h with h
  have HR := Aside0.mk hr0_1
  have O0 := Aside0.mk (OneBox.start w a0_0 A0_1 c0_1 l0_1)
  have HL := Aside0.mk hl
  clear hr0_1 hl
  unfold textres at h
  cases hw : isW a0_0 l0_1
  · rw [hw] at h
    simp only [Bool.false_eq_true, if_false, Prod.mk.injEq] at h
    obtain ⟨rfl, rfl⟩ := h
    have HW := Aside0.mk hw
    clear hw
    go_enter Tryd.func19, Tryd.ntmps19
    go_wp2_with fail
    refine (isWhole_of _ _ _ _ (Kd.C_below HR.out O0.out.lo) hc0_1 HL.out).mono ?_
    rintro e w1 ⟨rfl, hb⟩
    rw [HW.out]
    have O1 := Aside0.mk (O0.out.below hb)
    clear hb
    go_wp2
    go_ret2
    exact ⟨rfl, O1.out.lo⟩
  · rw [hw] at h
    simp only [if_true, Prod.mk.injEq] at h
    obtain ⟨rfl, rfl⟩ := h
    have HW := Aside0.mk hw
    clear hw
    go_enter Tryd.func19, Tryd.ntmps19
    go_wp2_with fail
    refine (isWhole_of _ _ _ _ (Kd.C_below HR.out O0.out.lo) hc0_1 HL.out).mono ?_
    rintro e w1 ⟨rfl, hb⟩
    rw [HW.out]
    have O1 := Aside0.mk (O0.out.below hb)
    have oc := (O0.out.below hb).cells
    clear hb
    go_wp2_with fail
    refine (value_calls _ _ _ _ _ (lims_of (Kd.C_below HR.out O1.out.lo) HW.out)).mono ?_
    rintro e w2 ⟨b, rfl, hge, hbig, hb2⟩
    have B2 := Aside0.mk hbig
    have L2 := Aside0.mk (O1.out.below hb2).lo
    clear hbig hb2
    go_wp2_with fail
    refine (string_calls b _ _ _ B2.out (Nat.le_trans (isW_len HW.out) (by omega)) (Nat.le_trans (text_short (text_bound HW.out) (k := 4799) rfl) (by omega))).mono ?_
    rintro e w3 ⟨rfl, hb3⟩
    have L3 := Aside0.mk (L2.out.trans (hb3.mono L2.out.size))
    clear hb3
    go_wp2
    go_ret2
    exact ⟨rfl, L3.out⟩
end Go.Proofs.YtghhphndbbefjaaDoor
