/- The draws of wide numbers, walked: each answers some number; the source stays a source. -/
import Derived.Test.YtdjkcpmoigemdaaG4
import Derived.Test.YtdjkcpmoigemdaaG15
namespace Go.Proofs.Ytdjkcpmoigemdaa
open Go Go.RowKit Go.Proofs.Ytdjkcpmoigemdaa.Fl Go.Proofs.Ytdjkcpmoigemdaa.P Go.Proofs.YtdjkcpmoigemdaaW.PrintWords Go.Proofs.YtdjkcpmoigemdaaW.PrintLast Go.Proofs.YtdjkcpmoigemdaaW.PrintMore
set_option linter.unusedVariables false
set_option linter.unusedSimpArgs false
attribute [local go_sem] run_add run_sub run_mul run_quo run_cadd run_csub
def Fv (v : Value) : Prop := ∃ b, v = .float .f64 b ∧ b < 2 ^ 64
def In64 (n : Int) : Prop := -9223372036854775808 ≤ n ∧ n ≤ 9223372036854775807
def ival : Value → Int
 | .int _ n => n
 | _ => 0
theorem w64 {z : Int} (h0 : -9223372036854775808 ≤ z) (h1 : z ≤ 9223372036854775807) : wrap64 z = z := by
 unfold wrap64
 omega
theorem w64in (z : Int) : In64 (wrap64 z) := by
 unfold wrap64 In64
 omega
set_option maxRecDepth 100000 in
theorem scale_calls (x : Nat) (k : Int) (hx : x < 2 ^ 64) (hk : In64 k) (w : World) : Calls Try.prog 26 #[.float .f64 x, .int .i64 k] w fun e w' => Qt w Fv e w' := by
 go_enter Try.func26, Try.ntmps26
 go_wp2_with fail
 go_loopw [0, 1] (fun v u w' => ∃ (b m : Nat) (n : Int), v = .float .f64 b ∧ b < 2 ^ 64 ∧ u = .int .i64 n ∧ Aside0 (In64 n) ∧ w' = w.drewN m) (fun _ u _ => (ival u).toNat)
 case atStart => exact ⟨x, 0, k, rfl, hx, rfl, ⟨hk⟩, rfl⟩
 case round =>
  obtain ⟨b, m, n, rfl, hb, rfl, hn, rfl⟩ := hrel
  by_cases hp : n > 0
  ·have hp' : decide (n > 0) = true := by simpa using hp
   go_wp2_with fail
   have hn' := hn.out
   have e : wrap64 (n - 1) = n - 1 := w64 (by unfold In64 at hn'; omega) (by unfold In64 at hn'; omega)
   refine ⟨⟨_, _, _, rfl, fr_lt _ _ _ _, rfl, ⟨w64in _⟩, rfl⟩, ?_⟩
   simp only [ival, e]
   omega
  ·have hp' : decide (n > 0) = false := by simpa using hp
   go_wp2_with fail
   go_loopw [0, 1] (fun v u w' => ∃ (b m : Nat) (n : Int), v = .float .f64 b ∧ b < 2 ^ 64 ∧ u = .int .i64 n ∧ Aside0 (In64 n) ∧ w' = w.drewN m) (fun _ u _ => (- ival u).toNat)
   case atStart => exact ⟨b, m, n, rfl, hb, rfl, hn, rfl⟩
   case round =>
    obtain ⟨b, m, n, rfl, hb, rfl, hn, rfl⟩ := hrel
    by_cases hq : n < 0
    ·have hq' : decide (n < 0) = true := by simpa using hq
     go_wp2_with fail
     have hn' := hn.out
     have e : wrap64 (n + 1) = n + 1 := w64 (by unfold In64 at hn'; omega) (by unfold In64 at hn'; omega)
     refine ⟨⟨_, _, _, rfl, fr_lt _ _ _ _, rfl, ⟨w64in _⟩, rfl⟩, ?_⟩
     simp only [ival, e]
     omega
    ·have hq' : decide (n < 0) = false := by simpa using hq
     go_wp2
     go_ret
     exact ⟨⟨_, rfl, _, rfl, hb⟩, _, rfl⟩
def Src (W w0 w : World) (g : Nat) : Prop := ∃ (l : List Int) (a h : Int), IsS78 w0 w g l a h ∧ 0 ≤ a ∧ l.length ≤ 140737488351232 ∧ (∀ x ∈ l, 0 ≤ x ∧ x < 256) ∧ Below w0.heap.size w0 w ∧ KeepBut W w g none
theorem Src.drewN {W w0 w : World} {g : Nat} (h : Src W w0 w g) (n : Nat) : Src W w0 (w.drewN n) g := by
 obtain ⟨l, a, k, h1, h2, h3, h4, h5, h6⟩ := h
 exact ⟨l, a, k, h1.drewN n, h2, h3, h4, pw_below_drewN h5 n, keep_drewN h6 n⟩
theorem mask_range {X : Int} (h0 : 0 ≤ X) (h1 : X < 2 ^ 64) : 0 ≤ bits .and .u64 X 16777215 ∧ bits .and .u64 X 16777215 < 16777216 := by
 have := bits_mask .u64 64 (by decide) (fun n h0 h1 => by simp [IntKind.wrap, IntKind.bits, IntKind.signed]; omega) 24 (by decide) X h0 h1
 rw [show ((2 : Int) ^ 24 - 1) = 16777215 from rfl] at this
 rw [this]
 omega
theorem u64_range (z : Int) : 0 ≤ IntKind.u64.wrap z ∧ IntKind.u64.wrap z < 2 ^ 64 := by
 simp only [IntKind.wrap, IntKind.bits, IntKind.signed]
 simp
 omega
theorem tmod_range {x n : Int} (h0 : 0 ≤ x) (h1 : 1 ≤ n) : 0 ≤ Int.tmod x n ∧ Int.tmod x n < n := by
 rw [Int.tmod_eq_emod_of_nonneg h0]
 exact ⟨Int.emod_nonneg _ (by omega), Int.emod_lt_of_pos _ (by omega)⟩
theorem rd_byte {l : List Int} (hl : ∀ x ∈ l, 0 ≤ x ∧ x < 256) (a : Int) : 0 ≤ rd l a ∧ rd l a < 256 := by
 unfold rd
 rw [List.getD_eq_getElem?_getD]
 cases h : l[a.toNat]? with
 | none => exact ⟨by decide, by decide⟩
 | some x => exact hl x (List.mem_of_getElem? h)
theorem next_key (hx : ∀ X, 0 ≤ bits .and .u64 (IntKind.u64.wrap X / 8589934592) 16777215 ∧ bits .and .u64 (IntKind.u64.wrap X / 8589934592) 16777215 < 16777216) (a : Int) (l : List Int) (k n : Int) (ha : 0 ≤ a) (hl : l.length ≤ 140737488351232) (hb : ∀ x ∈ l, 0 ≤ x ∧ x < 256) :
  ∃ r1 r2 r3, spec_l01Next.f l a k n = some (r1, r2, r3) ∧ 0 ≤ r2 ∧ (1 ≤ n → 0 ≤ r1 ∧ r1 < n) := by
 unfold spec_l01Next.f
 by_cases h1 : n < 1
 ·rw [if_pos h1]
  exact ⟨_, _, _, rfl, ha, fun h => by omega⟩
 ·rw [if_neg h1]
  have hX := hx (IntKind.u64.wrap (k * 6364136223846793005) + 1442695040888963407)
  generalize bits .and .u64 (IntKind.u64.wrap (IntKind.u64.wrap (k * 6364136223846793005) + 1442695040888963407) / 8589934592) 16777215 = X at hX
  have hr := rd_byte hb a
  have e1 : wrap64 X = X := w64 (by omega) (by omega)
  by_cases h2 : a < (l.length : Int)
  ·rw [if_pos h2, if_pos ha, if_neg (by omega)]
   have e2 : wrap64 (rd l a) = rd l a := w64 (by omega) (by omega)
   have e3 : wrap64 (X + rd l a) = X + rd l a := w64 (by omega) (by omega)
   rw [e1, e2, e3]
   refine ⟨_, _, _, rfl, ?_, fun h => tmod_range (by omega) h⟩
   rw [w64 (by omega) (by omega)]
   omega
  ·rw [if_neg h2, if_neg (by omega), e1]
   exact ⟨_, _, _, rfl, ha, fun h => tmod_range (by omega) h⟩
theorem mask_all (X : Int) : 0 ≤ bits .and .u64 (IntKind.u64.wrap X / 8589934592) 16777215 ∧ bits .and .u64 (IntKind.u64.wrap X / 8589934592) 16777215 < 16777216 := by
 have := u64_range X
 refine mask_range ?_ ?_
 ·omega
 ·omega
theorem next_calls {W : World} (w0 w : World) (g : Nat) (n : Int) (h : Src W w0 w g) : Calls Try.prog 23 #[.pointer (some ⟨g, 0, none⟩), .int .i64 n] w fun e w' => ∃ r, e = .returned (.int .i64 r) ∧ Src W w0 w' g ∧ (1 ≤ n → 0 ≤ r ∧ r < n) := by
 obtain ⟨l, a, k, hs, ha, hl, hb, hB, hK⟩ := h
 obtain ⟨r1, r2, r3, hf, h2, h3⟩ := next_key mask_all a l k n ha hl hb
 refine (spec_l01Next.calls g l a k n r1 r2 r3 w0 w hs hB hf).mono ?_
 rintro e w' ⟨rfl, hs', hB', hk⟩
 exact ⟨r1, rfl, ⟨l, r2, r3, hs', h2, hl, hb, hB', KeepBut.trans hK hk (.inl rfl)⟩, h3⟩
theorem lit_C (w : World) (l : List Int) (t : TypeId) (hl : l.length ≤ 1000) : Kd.C (Kd.int .i64) (w.alloc (.cells (nums .i64 l).toArray t)) (some ⟨w.heap.size, 0, none⟩) l.length l := by
 have h := World.ownsRow_lit (base := 0) (e := t) (size := 1) w (nums .i64 l).toArray l.length (Nat.zero_le _) (by unfold maxLen; omega) (by simp [nums])
 have h2 : Kd.R (Kd.int .i64) t (w.alloc (.cells (nums .i64 l).toArray t)) 0 (fun _ => True) (.slice (some ⟨w.heap.size, 0, none⟩) l.length l.length) l := Kd.R_of_own (by simpa [nums, encs] using h) (fun _ _ => trivial)
 exact (Kd.R_reads' h2).2.2
theorem Src.alloc {W w0 w : World} {g : Nat} (h : Src W w0 w g) (o : Obj) : Src W w0 (w.alloc o) g := by
 obtain ⟨l, a, k, h1, h2, h3, h4, h5, h6⟩ := h
 exact ⟨l, a, k, h1.alloc _, h2, h3, h4, below_alloc h5 _, keep_alloc h6 _⟩
theorem Src.lt {W w0 w : World} {g : Nat} (h : Src W w0 w g) : g < w.heap.size := by
 obtain ⟨l, a, k, h1, h2, h3, h4, h5⟩ := h
 exact h1.lt
theorem pick_calls {W : World} (w0 w : World) (g : Nat) (l : List Int) (t : TypeId) (h : Src W w0 w g) (h0 : 0 < l.length) (h1 : l.length ≤ 1000) :
  Calls Try.prog 60 #[.pointer (some ⟨g, 0, none⟩), .slice (some ⟨w.heap.size, 0, none⟩) l.length l.length] (w.alloc (.cells (nums .i64 l).toArray t)) fun e w' => ∃ r, e = .returned (.int .i64 r) ∧ Src W w0 w' g ∧ r ∈ l := by
 have hC := lit_C w l t h1
 have hlt := h.lt
 have hs := h.alloc (.cells (nums .i64 l).toArray t)
 obtain ⟨c, a, k, hi, ha, hl, hb, hB, hK⟩ := hs
 obtain ⟨r1, r2, r3, hf, h2, h3⟩ := next_key mask_all a c k (l.length : Int) ha hl hb
 obtain ⟨p0, p1⟩ := h3 (by omega)
 have hp : spec_l01Pick.f c a k l = some (rd l r1, r2, r3) := by
  unfold spec_l01Pick.f
  rw [hf, Option.bind_some, if_pos p0, if_pos p1]
 refine (spec_l01Pick.calls g c a k _ _ l _ _ _ w0 _ hi hB hC (Nat.le_refl _) ?_ hp).mono ?_
 ·intro ad e _
  cases e
  show w.heap.size ≠ g
  omega
 ·rintro e w' ⟨rfl, hs', hB', hk⟩
  refine ⟨_, rfl, ⟨c, r2, r3, hs', h2, hl, hb, hB', KeepBut.trans hK hk (.inl rfl)⟩, ?_⟩
  unfold rd
  rw [List.getD_eq_getElem?_getD, List.getElem?_eq_getElem (by omega)]
  exact List.getElem_mem _
theorem Src.keep {W w0 w : World} {g : Nat} (h : Src W w0 w g) : KeepBut W w g none := by
 obtain ⟨l, a, k, h1, h2, h3, h4, h5, h6⟩ := h
 exact h6
theorem Src.from_ {W w0 w : World} {g : Nat} (h : Src W w0 w g) : Src w w0 w g := by
 obtain ⟨l, a, k, h1, h2, h3, h4, h5, h6⟩ := h
 exact ⟨l, a, k, h1, h2, h3, h4, h5, KeepBut.refl _ _ _⟩
end Go.Proofs.Ytdjkcpmoigemdaa
namespace Go.Proofs.Ytdjkcpmoigemdaa
open Go Go.RowKit Go.Proofs.Ytdjkcpmoigemdaa.Fl Go.Proofs.Ytdjkcpmoigemdaa.P Go.Proofs.YtdjkcpmoigemdaaW.PrintWords Go.Proofs.YtdjkcpmoigemdaaW.PrintLast Go.Proofs.YtdjkcpmoigemdaaW.PrintMore
set_option linter.unusedVariables false
set_option linter.unusedSimpArgs false
attribute [local go_sem] run_add run_sub run_mul run_quo run_cadd run_csub run_neg run_cneg
def Cv (v : Value) : Prop := ∃ a b, v = .complex .f64 a b ∧ a < 2 ^ 64 ∧ b < 2 ^ 64
theorem neg_lt {x : Nat} (h : x < 2 ^ 64) : Op.negFloat .f64 x < 2 ^ 64 := Nat.xor_lt_two_pow h (by decide)
theorem huge_calls (w : World) : Calls Try.prog 61 #[] w fun e w' => Qt w Fv e w' := by
 go_enter Try.func61, Try.ntmps61
 go_wp2
 go_ret
 exact ⟨⟨_, rfl, _, rfl, fr_lt _ _ _ _⟩, _, rfl⟩
set_option maxRecDepth 100000 in
theorem strange_calls {W : World} (w0 w : World) (g : Nat) (h : Src W w0 w g) : Calls Try.prog 25 #[.pointer (some ⟨g, 0, none⟩)] w fun e w' => (∃ v, e = .returned v ∧ Fv v) ∧ Src W w0 w' g := by
 have HS := Aside0.mk h; clear h
 go_enter Try.func25, Try.ntmps25
 go_wp2_with fail
 refine (huge_calls w).mono ?_
 rintro e w1 ⟨⟨v, rfl, b, rfl, hb⟩, n, rfl⟩
 replace HS := Aside0.mk (HS.out.drewN n)
 generalize w.drewN n = w1 at HS ⊢
 go_wp2_with fail
 refine (next_calls w0 w1 g 5 HS.out).mono ?_
 rintro e w2 ⟨r, rfl, hs, hr⟩
 replace HS := Aside0.mk hs; clear hs hr
 by_cases c0 : r = 0
 ·have d0 : (r == 0) = true := by simpa using c0
  clear c0
  go_wp2
  go_ret
  exact ⟨⟨_, rfl, _, rfl, hb⟩, HS.out⟩
 ·have d0 : (r == 0) = false := by simpa using c0
  by_cases c1 : r = 1
  ·have d1 : (r == 1) = true := by simpa using c1
   clear c0 c1
   go_wp2
   go_ret
   exact ⟨⟨_, rfl, _, rfl, neg_lt hb⟩, HS.out⟩
  ·have d1 : (r == 1) = false := by simpa using c1
   by_cases c2 : r = 2
   ·have d2 : (r == 2) = true := by simpa using c2
    clear c0 c1 c2
    go_wp2
    go_ret
    exact ⟨⟨_, rfl, _, rfl, fr_lt _ _ _ _⟩, HS.out.drewN _⟩
   ·have d2 : (r == 2) = false := by simpa using c2
    by_cases c3 : r = 3
    ·have d3 : (r == 3) = true := by simpa using c3
     clear c0 c1 c2 c3
     go_wp2
     go_ret
     exact ⟨⟨_, rfl, _, rfl, fr_lt _ _ _ _⟩, HS.out.drewN _⟩
    ·have d3 : (r == 3) = false := by simpa using c3
     clear c0 c1 c2 c3
     go_wp2
     go_ret
     exact ⟨⟨_, rfl, _, rfl, by decide⟩, HS.out⟩
theorem foi_lt (n : Int) : floatOfInt .f64 n < 2 ^ 64 := FloatKind.f64.format.write_lt (.number (n < 0) n.natAbs 0)
theorem conv_f (n : Int) (w : World) : (convert 2 25 (.int .i64 n)).run Try.prog w = .ok (.float .f64 (floatOfInt .f64 n)) w := run_convert_int_float w 2 25 .i64 .f64 n (by rw [Try.underlying2]; rfl) Try.underlying25
attribute [local go_sem] conv_f
theorem pick_in {l : List Int} (h : ∀ x ∈ l, In64 x) {r : Int} (hr : r ∈ l) : In64 r := h r hr
set_option maxRecDepth 100000 in
theorem bits_calls {W : World} (w0 w : World) (g : Nat) (h : Src W w0 w g) : Calls Try.prog 62 #[.pointer (some ⟨g, 0, none⟩)] w fun e w' => (∃ v, e = .returned v ∧ Fv v) ∧ Src W w0 w' g := by
 have HS := Aside0.mk h; clear h
 go_enter Try.func62, Try.ntmps62
 go_wp2_with fail
 refine (next_calls w0 w g _ HS.out).mono ?_
 rintro e w1 ⟨r1, rfl, hs, hr⟩
 replace HS := Aside0.mk hs; clear hs hr
 go_wp2_with fail
 refine (next_calls w0 w1 g _ HS.out).mono ?_
 rintro e w2 ⟨r2, rfl, hs, hr⟩
 replace HS := Aside0.mk hs; clear hs hr
 go_wp2_with fail
 refine (next_calls w0 _ g _ (HS.out.drewN _)).mono ?_
 rintro e w3 ⟨r3, rfl, hs, hr⟩
 replace HS := Aside0.mk hs; clear hs hr
 by_cases c : r3 = 0
 ·have d : (r3 == 0) = true := by simpa using c
  clear c
  go_wp2_with fail
  refine (next_calls w0 _ g _ HS.out).mono ?_
  rintro e w4 ⟨r4, rfl, hs, hr⟩
  replace HS := Aside0.mk hs; clear hs hr
  go_wp2_with fail
  refine (next_calls w0 _ g _ HS.out).mono ?_
  rintro e w5 ⟨r5, rfl, hs, hr⟩
  replace HS := Aside0.mk hs; clear hs hr
  go_wp2_with fail
  refine (pick_calls w0 w5 g [0, -24, -23, -30, 10, wrap64 (r4 - 40), wrap64 (r5 - 1080), 990, -1060, 102, -149] _ HS.out (by simp) (by simp)).mono ?_
  rintro e w6 ⟨r6, rfl, hs, hr⟩
  replace HS := Aside0.mk hs; clear hs
  have hin : In64 r6 := pick_in (by intro x hx; simp only [List.mem_cons, List.not_mem_nil, or_false] at hx; rcases hx with rfl | rfl | rfl | rfl | rfl | rfl | rfl | rfl | rfl | rfl | rfl <;> first | exact w64in _ | (unfold In64; decide)) hr
  clear hr
  go_wp2_with fail
  refine (scale_calls _ r6 (neg_lt (fr_lt _ _ _ _)) hin w6).mono ?_
  rintro e w7 ⟨⟨v, rfl, b, rfl, hb⟩, n, rfl⟩
  go_wp2
  go_ret
  exact ⟨⟨_, rfl, _, rfl, hb⟩, HS.out.drewN _⟩
 ·have d : (r3 == 0) = false := by simpa using c
  clear c
  go_wp2_with fail
  refine (next_calls w0 _ g _ HS.out).mono ?_
  rintro e w4 ⟨r4, rfl, hs, hr⟩
  replace HS := Aside0.mk hs; clear hs hr
  go_wp2_with fail
  refine (next_calls w0 _ g _ HS.out).mono ?_
  rintro e w5 ⟨r5, rfl, hs, hr⟩
  replace HS := Aside0.mk hs; clear hs hr
  go_wp2_with fail
  refine (pick_calls w0 w5 g [0, -24, -23, -30, 10, wrap64 (r4 - 40), wrap64 (r5 - 1080), 990, -1060, 102, -149] _ HS.out (by simp) (by simp)).mono ?_
  rintro e w6 ⟨r6, rfl, hs, hr⟩
  replace HS := Aside0.mk hs; clear hs
  have hin : In64 r6 := pick_in (by intro x hx; simp only [List.mem_cons, List.not_mem_nil, or_false] at hx; rcases hx with rfl | rfl | rfl | rfl | rfl | rfl | rfl | rfl | rfl | rfl | rfl <;> first | exact w64in _ | (unfold In64; decide)) hr
  clear hr
  go_wp2_with fail
  refine (scale_calls _ r6 (fr_lt _ _ _ _) hin w6).mono ?_
  rintro e w7 ⟨⟨v, rfl, b, rfl, hb⟩, n, rfl⟩
  go_wp2
  go_ret
  exact ⟨⟨_, rfl, _, rfl, hb⟩, HS.out.drewN _⟩
end Go.Proofs.Ytdjkcpmoigemdaa
namespace Go.Proofs.Ytdjkcpmoigemdaa
open Go Go.RowKit Go.Proofs.Ytdjkcpmoigemdaa.Fl Go.Proofs.Ytdjkcpmoigemdaa.P Go.Proofs.YtdjkcpmoigemdaaW.PrintWords Go.Proofs.YtdjkcpmoigemdaaW.PrintLast Go.Proofs.YtdjkcpmoigemdaaW.PrintMore
set_option linter.unusedVariables false
set_option linter.unusedSimpArgs false
attribute [local go_sem] run_add run_sub run_mul run_quo run_cadd run_csub run_neg run_cneg conv_f
set_option maxRecDepth 100000 in
set_option maxHeartbeats 1000000 in
theorem float_calls {W : World} (w0 w : World) (g : Nat) (h : Src W w0 w g) : Calls Try.prog 24 #[.pointer (some ⟨g, 0, none⟩)] w fun e w' => (∃ v, e = .returned v ∧ Fv v) ∧ Src W w0 w' g := by
 have HS := Aside0.mk h; clear h
 go_enter Try.func24, Try.ntmps24
 go_wp2_with fail
 refine (next_calls w0 _ g _ HS.out).mono ?_
 rintro e w_r ⟨r, rfl, hs, hr⟩
 replace HS := Aside0.mk hs; clear hs hr
 by_cases cr0 : r = 0
 ·have dr0 : (r == 0) = true := by simpa using cr0
  clear cr0
  go_wp2_with fail
  refine (next_calls w0 _ g _ HS.out).mono ?_
  rintro e w_q ⟨q, rfl, hs, hr⟩
  replace HS := Aside0.mk hs; clear hs hr
  go_wp2
  go_ret
  exact ⟨⟨_, rfl, _, rfl, foi_lt _⟩, HS.out⟩
 ·have dr0 : (r == 0) = false := by simpa using cr0
  clear cr0
  by_cases cr1 : r = 1
  ·have dr1 : (r == 1) = true := by simpa using cr1
   clear cr1
   go_wp2_with fail
   refine (next_calls w0 _ g _ HS.out).mono ?_
   rintro e w_q ⟨q, rfl, hs, hr⟩
   replace HS := Aside0.mk hs; clear hs hr
   go_wp2
   go_ret
   exact ⟨⟨_, rfl, _, rfl, foi_lt _⟩, HS.out⟩
  ·have dr1 : (r == 1) = false := by simpa using cr1
   clear cr1
   by_cases cr2 : r = 2
   ·have dr2 : (r == 2) = true := by simpa using cr2
    clear cr2
    go_wp2_with fail
    refine (next_calls w0 _ g _ HS.out).mono ?_
    rintro e w_q ⟨q, rfl, hs, hr⟩
    replace HS := Aside0.mk hs; clear hs hr
    go_wp2
    go_ret
    exact ⟨⟨_, rfl, _, rfl, foi_lt _⟩, HS.out⟩
   ·have dr2 : (r == 2) = false := by simpa using cr2
    clear cr2
    by_cases cr3 : r = 3
    ·have dr3 : (r == 3) = true := by simpa using cr3
     clear cr3
     go_wp2_with fail
     refine (next_calls w0 _ g _ HS.out).mono ?_
     rintro e w_q ⟨q, rfl, hs, hr⟩
     replace HS := Aside0.mk hs; clear hs hr
     go_wp2_with fail
     refine (pick_calls w0 _ g [2, 4, 8, 16, 3, 10] _ HS.out (by simp) (by simp)).mono ?_
     rintro e w_u ⟨u, rfl, hs, hr⟩
     replace HS := Aside0.mk hs; clear hs hr
     go_wp2
     go_ret
     exact ⟨⟨_, rfl, _, rfl, fr_lt _ _ _ _⟩, HS.out.drewN _⟩
    ·have dr3 : (r == 3) = false := by simpa using cr3
     clear cr3
     by_cases cr4 : r = 4
     ·have dr4 : (r == 4) = true := by simpa using cr4
      clear cr4
      go_wp2_with fail
      refine (next_calls w0 _ g _ HS.out).mono ?_
      rintro e w_q ⟨q, rfl, hs, hr⟩
      replace HS := Aside0.mk hs; clear hs hr
      go_wp2_with fail
      refine (pick_calls w0 _ g [2, 4, 8, 16, 3, 10] _ HS.out (by simp) (by simp)).mono ?_
      rintro e w_u ⟨u, rfl, hs, hr⟩
      replace HS := Aside0.mk hs; clear hs hr
      go_wp2
      go_ret
      exact ⟨⟨_, rfl, _, rfl, fr_lt _ _ _ _⟩, HS.out.drewN _⟩
     ·have dr4 : (r == 4) = false := by simpa using cr4
      clear cr4
      by_cases cr5 : r = 5
      ·have dr5 : (r == 5) = true := by simpa using cr5
       clear cr5
       go_wp2_with fail
       refine (next_calls w0 _ g _ HS.out).mono ?_
       rintro e w_q ⟨q, rfl, hs, hr⟩
       replace HS := Aside0.mk hs; clear hs hr
       go_wp2_with fail
       refine (pick_calls w0 _ g [1, 1000, 1048576] _ HS.out (by simp) (by simp)).mono ?_
       rintro e w_u ⟨u, rfl, hs, hr⟩
       replace HS := Aside0.mk hs; clear hs hr
       go_wp2
       go_ret
       exact ⟨⟨_, rfl, _, rfl, fr_lt _ _ _ _⟩, HS.out.drewN _⟩
      ·have dr5 : (r == 5) = false := by simpa using cr5
       clear cr5
       by_cases cr6 : r = 6
       ·have dr6 : (r == 6) = true := by simpa using cr6
        clear cr6
        go_wp2_with fail
        refine (next_calls w0 _ g _ HS.out).mono ?_
        rintro e w_q ⟨q, rfl, hs, hr⟩
        replace HS := Aside0.mk hs; clear hs hr
        by_cases cq0 : q = 0
        ·have dq0 : (q == 0) = true := by simpa using cq0
         clear cq0
         go_wp2_with fail
         refine (huge_calls _).mono ?_
         rintro e w_ ⟨⟨v, rfl, b, rfl, hb⟩, n, rfl⟩
         go_wp2
         go_ret
         exact ⟨⟨_, rfl, _, rfl, fr_lt _ _ _ _⟩, HS.out.drewN _⟩
        ·have dq0 : (q == 0) = false := by simpa using cq0
         clear cq0
         go_wp2
         go_ret
         exact ⟨⟨_, rfl, _, rfl, by decide⟩, HS.out⟩
       ·have dr6 : (r == 6) = false := by simpa using cr6
        clear cr6
        go_wp2_with fail
        refine (bits_calls w0 _ g HS.out).mono ?_
        rintro e w_ ⟨⟨v, rfl, b, rfl, hb⟩, hs⟩
        replace HS := Aside0.mk hs; clear hs
        go_wp2
        go_ret
        exact ⟨⟨_, rfl, _, rfl, hb⟩, HS.out⟩
set_option maxRecDepth 100000 in
set_option maxHeartbeats 1000000 in
theorem draw_calls {W : World} (w0 w : World) (g : Nat) (h : Src W w0 w g) : Calls Try.prog 71 #[.pointer (some ⟨g, 0, none⟩)] w fun e w' => (∃ v, e = .returned v ∧ Cv v) ∧ Src W w0 w' g := by
 have HS := Aside0.mk h; clear h
 go_enter Try.func71, Try.ntmps71
 go_wp2_with fail
 refine (next_calls w0 _ g _ HS.out).mono ?_
 rintro e w_r ⟨r, rfl, hs, hr⟩
 replace HS := Aside0.mk hs; clear hs hr
 by_cases cr0 : r = 0
 ·have dr0 : (r == 0) = true := by simpa using cr0
  clear cr0
  go_wp2_with fail
  refine (float_calls w0 _ g HS.out).mono ?_
  rintro e w_ ⟨⟨v, rfl, b, rfl, hb⟩, hs⟩
  replace HS := Aside0.mk hs; clear hs
  go_wp2
  go_ret
  exact ⟨⟨_, rfl, _, _, rfl, hb, by decide⟩, HS.out⟩
 ·have dr0 : (r == 0) = false := by simpa using cr0
  clear cr0
  by_cases cr1 : r = 1
  ·have dr1 : (r == 1) = true := by simpa using cr1
   clear cr1
   go_wp2_with fail
   refine (float_calls w0 _ g HS.out).mono ?_
   rintro e w_ ⟨⟨v, rfl, b, rfl, hb⟩, hs⟩
   replace HS := Aside0.mk hs; clear hs
   go_wp2
   go_ret
   exact ⟨⟨_, rfl, _, _, rfl, by decide, hb⟩, HS.out⟩
  ·have dr1 : (r == 1) = false := by simpa using cr1
   clear cr1
   by_cases cr2 : r = 2
   ·have dr2 : (r == 2) = true := by simpa using cr2
    clear cr2
    go_wp2_with fail
    refine (next_calls w0 _ g _ HS.out).mono ?_
    rintro e w_q ⟨q, rfl, hs, hr⟩
    replace HS := Aside0.mk hs; clear hs hr
    go_wp2_with fail
    refine (next_calls w0 _ g _ HS.out).mono ?_
    rintro e w_u ⟨u, rfl, hs, hr⟩
    replace HS := Aside0.mk hs; clear hs hr
    go_wp2
    go_ret
    exact ⟨⟨_, rfl, _, _, rfl, foi_lt _, foi_lt _⟩, HS.out⟩
   ·have dr2 : (r == 2) = false := by simpa using cr2
    clear cr2
    go_wp2_with fail
    refine (float_calls w0 _ g HS.out).mono ?_
    rintro e w_ ⟨⟨v, rfl, b, rfl, hb⟩, hs⟩
    replace HS := Aside0.mk hs; clear hs
    go_wp2_with fail
    refine (float_calls w0 _ g HS.out).mono ?_
    rintro e w_ ⟨⟨v, rfl, c, rfl, hc⟩, hs⟩
    replace HS := Aside0.mk hs; clear hs
    go_wp2
    go_ret
    exact ⟨⟨_, rfl, _, _, rfl, hb, hc⟩, HS.out⟩
set_option maxRecDepth 100000 in
set_option maxHeartbeats 1000000 in
theorem spoil_calls {W : World} (w0 w : World) (g : Nat) (h : Src W w0 w g) : Calls Try.prog 48 #[.pointer (some ⟨g, 0, none⟩)] w fun e w' => (∃ v, e = .returned v ∧ Cv v) ∧ Src W w0 w' g := by
 have HS := Aside0.mk h; clear h
 go_enter Try.func48, Try.ntmps48
 go_wp2_with fail
 refine (draw_calls w0 _ g HS.out).mono ?_
 rintro e w_ ⟨⟨v, rfl, a, b, rfl, ha, hb⟩, hs⟩
 replace HS := Aside0.mk hs; clear hs
 go_wp2_with fail
 refine (next_calls w0 _ g _ HS.out).mono ?_
 rintro e w_r ⟨r, rfl, hs, hr⟩
 replace HS := Aside0.mk hs; clear hs hr
 by_cases cr0 : r = 0
 ·have dr0 : (r == 0) = true := by simpa using cr0
  clear cr0
  go_wp2_with fail
  refine (strange_calls w0 _ g HS.out).mono ?_
  rintro e w_ ⟨⟨v, rfl, c, rfl, hc⟩, hs⟩
  replace HS := Aside0.mk hs; clear hs
  go_wp2
  go_ret
  exact ⟨⟨_, rfl, _, _, rfl, hc, hb⟩, HS.out⟩
 ·have dr0 : (r == 0) = false := by simpa using cr0
  clear cr0
  go_wp2_with fail
  refine (next_calls w0 _ g _ HS.out).mono ?_
  rintro e w_q ⟨q, rfl, hs, hr⟩
  replace HS := Aside0.mk hs; clear hs hr
  by_cases cq0 : q = 0
  ·have dq0 : (q == 0) = true := by simpa using cq0
   clear cq0
   go_wp2_with fail
   refine (strange_calls w0 _ g HS.out).mono ?_
   rintro e w_ ⟨⟨v, rfl, c, rfl, hc⟩, hs⟩
   replace HS := Aside0.mk hs; clear hs
   go_wp2
   go_ret
   exact ⟨⟨_, rfl, _, _, rfl, ha, hc⟩, HS.out⟩
  ·have dq0 : (q == 0) = false := by simpa using cq0
   clear cq0
   go_wp2
   go_ret
   exact ⟨⟨_, rfl, _, _, rfl, ha, hb⟩, HS.out⟩
structure Code8 (w : World) (A : Option Addr) (c : Nat) (l : List Int) : Prop where
 r : Kd.C (Kd.int .u8) w A l.length l
 c : l.length ≤ c
 n : l.length ≤ 140737488351232
 b : ∀ x ∈ l, 0 ≤ x ∧ x < 256
theorem Code8.below {w w' : World} {A : Option Addr} {c : Nat} {l : List Int} (h : Code8 w A c l) (hb : Below w.heap.size w w') : Code8 w' A c l := ⟨Kd.C_below h.r hb, h.c, h.n, h.b⟩
theorem from_ev (l : List Int) (hl : l.length ≤ 140737488351232) (d : Nat) : ∀ (k i : Nat) (h : Int), l.length - i = d → d < k → i ≤ l.length → ∃ r2 r3, spec_l01From.l0 k l (i : Int) l 0 h = some (l, r2, r3) ∧ r2 = 0 := by
 induction d with
 | zero =>
  intro k i h h1 h2 h3
  obtain ⟨k, rfl⟩ : ∃ k', k = k' + 1 := ⟨k - 1, by omega⟩
  simp only [spec_l01From.l0]
  rw [if_neg (by omega)]
  exact ⟨_, _, rfl, rfl⟩
 | succ d ih =>
  intro k i h h1 h2 h3
  obtain ⟨k, rfl⟩ : ∃ k', k = k' + 1 := ⟨k - 1, by omega⟩
  simp only [spec_l01From.l0]
  rw [if_pos (by omega)]
  by_cases c : (i : Int) < 4096
  ·rw [if_pos c, if_pos (Int.natCast_nonneg _), show wrap64 ((i : Int) + 1) = ((i + 1 : Nat) : Int) from by rw [w64 (by omega) (by omega)]; omega]
   exact ih k (i + 1) _ (by omega) (by omega) (by omega)
  ·rw [if_neg c]
   exact ⟨_, _, rfl, rfl⟩
theorem from_calls (w : World) (A : Option Addr) (c : Nat) (l : List Int) (h : Code8 w A c l) : Calls Try.prog 22 #[.slice A l.length c] w fun e w' => ∃ g, e = .returned (.pointer (some ⟨g, 0, none⟩)) ∧ Src w' w w' g := by
 obtain ⟨r2, r3, hf, rfl⟩ := from_ev l h.n l.length (l.length + 1) 0 (IntKind.u64.wrap (6737 + (IntKind.u64.wrap ((l.length : Int))))) (by omega) (by omega) (by omega)
 refine (spec_l01From.calls (l.length + 1) A c l l 0 r3 w h.r h.c hf).mono ?_
 rintro e w' ⟨g, rfl, hs, hB, -⟩
 exact ⟨g, rfl, l, 0, r3, hs, Int.le_refl _, h.n, h.b, hB, KeepBut.refl _ _ _⟩
theorem Src.low {W w0 w : World} {g : Nat} (h : Src W w0 w g) : Below w0.heap.size w0 w := by
 obtain ⟨l, a, k, h1, h2, h3, h4, h5, h6⟩ := h
 exact h5
def Cv2 (v : Value) : Prop := ∃ a b c d, v = .tuple #[.complex .f64 a b, .complex .f64 c d] ∧ a < 2 ^ 64 ∧ b < 2 ^ 64 ∧ c < 2 ^ 64 ∧ d < 2 ^ 64
end Go.Proofs.Ytdjkcpmoigemdaa
namespace Go.Proofs.Ytdjkcpmoigemdaa
open Go Ieee Go.RowKit Go.Proofs.Ytdjkcpmoigemdaa.Fl Go.Proofs.Ytdjkcpmoigemdaa.Fx Go.Proofs.Ytdjkcpmoigemdaa.P Go.Proofs.YtdjkcpmoigemdaaW.PrintWords Go.Proofs.YtdjkcpmoigemdaaW.PrintLast Go.Proofs.YtdjkcpmoigemdaaW.PrintMore
set_option linter.unusedVariables false
set_option linter.unusedSimpArgs false
attribute [local go_sem] run_add run_sub run_mul run_quo run_cadd run_csub run_neg run_cneg max_two
def sz (a b : Nat) : Nat := (fb .add (Op.Complex.abs a) (Op.Complex.abs b)).getD 0
theorem sz_some {a b : Nat} (ha : isFin a = true) (hb : isFin b = true) : fb .add (Op.Complex.abs a) (Op.Complex.abs b) = some (sz a b) := by
 obtain ⟨s, e, _⟩ := add_U (U_abs ha).1 (U_abs hb).1
 unfold sz
 rw [e]
 rfl
def sizeR (a b : Nat) : Nat × Int := if isFin a && isFin b then (if isFin (sz a b) then (sz a b, 0) else (0, 3)) else (0, 1)
def partR (a b : Nat) : Nat × Int := if isFin a && isFin b then (lgr (Op.Complex.abs a) (Op.Complex.abs b), 0) else (0, 1)
def fparts (p : Nat × Int) : Value := .tuple #[.float .f64 p.1, .int .i64 p.2]
def conjR (a b : Nat) : Nat × Nat × Int := if isFin a && isFin b then (a, Op.negFloat .f64 b, 0) else (0, 0, 1)
theorem l01Abs_calls (x : Nat) (hx : x < 2 ^ 64) (h : isFin x = true) (w : World) : Calls Try.prog 70 #[.float .f64 x] w fun e w' => e = .returned (.float .f64 (Op.Complex.abs x)) ∧ w' = w := by
 obtain ⟨h1, h2, h3⟩ := abs_cases hx h
 have l := lt_zero h
 have z := eq_zero_iff h
 by_cases c1 : U x < 0
 ·rw [decide_eq_true c1] at l
  have e := h1 c1
  clear h1 h2 h3 z
  have E := Aside0.mk e; clear e
  go_enter Try.func70, Try.ntmps70
  go_wp2
  go_ret
  exact ⟨by rw [E.out]; rfl, rfl⟩
 ·rw [decide_eq_false c1] at l
  by_cases c2 : U x = 0
  ·rw [decide_eq_true c2] at z
   have E := Aside0.mk (h2 c2)
   clear h1 h2 h3
   go_enter Try.func70, Try.ntmps70
   go_wp2
   go_ret
   exact ⟨by rw [E.out]; rfl, rfl⟩
  ·rw [decide_eq_false c2] at z
   have E := Aside0.mk (h3 (by omega))
   clear h1 h2 h3
   go_enter Try.func70, Try.ntmps70
   go_wp2
   go_ret
   exact ⟨by rw [E.out]; rfl, rfl⟩
theorem l01Size_calls (a b : Nat) (la : a < 2 ^ 64) (lb : b < 2 ^ 64) (ha : isFin a = true) (hb : isFin b = true) (w : World) : Calls Try.prog 40 #[.complex .f64 a b] w fun e w' => e = .returned (.float .f64 (sz a b)) ∧ ∃ n, w' = w.drewN n := by
 have hf := fr_of' (sz_some ha hb)
 go_enter Try.func40, Try.ntmps40
 go_wp2_with fail
 refine (l01Abs_calls a la ha w).mono ?_
 rintro e w1 ⟨rfl, rfl⟩
 go_wp2_with fail
 refine (l01Abs_calls b lb hb _).mono ?_
 rintro e w1 ⟨rfl, rfl⟩
 go_wp2
 go_ret
 exact ⟨rfl, _, rfl⟩
end Go.Proofs.Ytdjkcpmoigemdaa
