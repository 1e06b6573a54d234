/- The draws of wide numbers, walked: each answers some number; the source stays a source. -/
import Derived.Test.YteefmpcmfkfmnaaFl3
import Derived.Test.YteefmpcmfkfmnaaP1
import Derived.Test.YteefmpcmfkfmnaaP2
namespace Go.Proofs.Yteefmpcmfkfmnaa
open Go Go.RowKit Go.Proofs.Yteefmpcmfkfmnaa.Fl Go.Proofs.Yteefmpcmfkfmnaa.P Go.Proofs.YteefmpcmfkfmnaaW.PrintWords Go.Proofs.YteefmpcmfkfmnaaW.PrintLast Go.Proofs.YteefmpcmfkfmnaaW.PrintMore
set_option linter.unusedVariables false
set_option linter.unusedSimpArgs false
attribute [local go_sem] run_add run_sub run_mul run_quo run_cadd run_csub

/-- Some float. -/
def Fv (v : Value) : Prop := ∃ b, v = .float .f64 b ∧ b < 2 ^ 64
def In64 (n : Int) : Prop := -9223372036854775808 ≤ n ∧ n ≤ 9223372036854775807
def ival : Value → Int
  | .int _ n => n
  | _ => 0
theorem w64 {z : Int} (h0 : -9223372036854775808 ≤ z) (h1 : z ≤ 9223372036854775807) : wrap64 z = z := by
  unfold wrap64
  omega
theorem w64in (z : Int) : In64 (wrap64 z) := by
  unfold wrap64 In64
  omega
set_option maxRecDepth 100000 in
theorem scale_calls (x : Nat) (k : Int) (hx : x < 2 ^ 64) (hk : In64 k) (w : World) : Calls Try.prog 47 #[.float .f64 x, .int .i64 k] w fun e w' => Qt w Fv e w' := by
  go_enter Try.func47, Try.ntmps47
  go_wp2_with fail
  go_loopw [0, 1] (fun v u w' => ∃ (b m : Nat) (n : Int), v = .float .f64 b ∧ b < 2 ^ 64 ∧ u = .int .i64 n ∧ Aside0 (In64 n) ∧ w' = w.drewN m) (fun _ u _ => (ival u).toNat)
  case atStart => exact ⟨x, 0, k, rfl, hx, rfl, ⟨hk⟩, rfl⟩
  case round =>
    obtain ⟨b, m, n, rfl, hb, rfl, hn, rfl⟩ := hrel
    by_cases hp : n > 0
    · have hp' : decide (n > 0) = true := by simpa using hp
      go_wp2_with fail
      have hn' := hn.out
      have e : wrap64 (n - 1) = n - 1 := w64 (by unfold In64 at hn'; omega) (by unfold In64 at hn'; omega)
      refine ⟨⟨_, _, _, rfl, fr_lt _ _ _ _, rfl, ⟨w64in _⟩, rfl⟩, ?_⟩
      simp only [ival, e]
      omega
    · have hp' : decide (n > 0) = false := by simpa using hp
      go_wp2_with fail
      go_loopw [0, 1] (fun v u w' => ∃ (b m : Nat) (n : Int), v = .float .f64 b ∧ b < 2 ^ 64 ∧ u = .int .i64 n ∧ Aside0 (In64 n) ∧ w' = w.drewN m) (fun _ u _ => (- ival u).toNat)
      case atStart => exact ⟨b, m, n, rfl, hb, rfl, hn, rfl⟩
      case round =>
        obtain ⟨b, m, n, rfl, hb, rfl, hn, rfl⟩ := hrel
        by_cases hq : n < 0
        · have hq' : decide (n < 0) = true := by simpa using hq
          go_wp2_with fail
          have hn' := hn.out
          have e : wrap64 (n + 1) = n + 1 := w64 (by unfold In64 at hn'; omega) (by unfold In64 at hn'; omega)
          refine ⟨⟨_, _, _, rfl, fr_lt _ _ _ _, rfl, ⟨w64in _⟩, rfl⟩, ?_⟩
          simp only [ival, e]
          omega
        · have hq' : decide (n < 0) = false := by simpa using hq
          go_wp2
          go_ret
          exact ⟨⟨_, rfl, _, rfl, hb⟩, _, rfl⟩
/-- A source of draws, new since the world w0, over a code of bytes. -/
def Src (W w0 w : World) (g : Nat) : Prop := ∃ (l : List Int) (a h : Int), IsS59 w0 w g l a h ∧ 0 ≤ a ∧ l.length ≤ 140737488351232 ∧ (∀ x ∈ l, 0 ≤ x ∧ x < 256) ∧ Below w0.heap.size w0 w ∧ KeepBut W w g none
theorem Src.drewN {W w0 w : World} {g : Nat} (h : Src W w0 w g) (n : Nat) : Src W w0 (w.drewN n) g := by
  obtain ⟨l, a, k, h1, h2, h3, h4, h5, h6⟩ := h
  exact ⟨l, a, k, h1.drewN n, h2, h3, h4, pw_below_drewN h5 n, keep_drewN h6 n⟩
theorem mask_range {X : Int} (h0 : 0 ≤ X) (h1 : X < 2 ^ 64) : 0 ≤ bits .and .u64 X 16777215 ∧ bits .and .u64 X 16777215 < 16777216 := by
  have := bits_mask .u64 64 (by decide) (fun n h0 h1 => by simp [IntKind.wrap, IntKind.bits, IntKind.signed]; omega) 24 (by decide) X h0 h1
  rw [show ((2 : Int) ^ 24 - 1) = 16777215 from rfl] at this
  rw [this]
  omega
theorem u64_range (z : Int) : 0 ≤ IntKind.u64.wrap z ∧ IntKind.u64.wrap z < 2 ^ 64 := by
  simp only [IntKind.wrap, IntKind.bits, IntKind.signed]
  simp
  omega
theorem tmod_range {x n : Int} (h0 : 0 ≤ x) (h1 : 1 ≤ n) : 0 ≤ Int.tmod x n ∧ Int.tmod x n < n := by
  rw [Int.tmod_eq_emod_of_nonneg h0]
  exact ⟨Int.emod_nonneg _ (by omega), Int.emod_lt_of_pos _ (by omega)⟩
theorem rd_byte {l : List Int} (hl : ∀ x ∈ l, 0 ≤ x ∧ x < 256) (a : Int) : 0 ≤ rd l a ∧ rd l a < 256 := by
  unfold rd
  rw [List.getD_eq_getElem?_getD]
  cases h : l[a.toNat]? with
  | none => exact ⟨by decide, by decide⟩
  | some x => exact hl x (List.mem_of_getElem? h)
theorem next_key (hx : ∀ X, 0 ≤ bits .and .u64 (IntKind.u64.wrap X / 8589934592) 16777215 ∧ bits .and .u64 (IntKind.u64.wrap X / 8589934592) 16777215 < 16777216) (a : Int) (l : List Int) (k n : Int) (ha : 0 ≤ a) (hl : l.length ≤ 140737488351232) (hb : ∀ x ∈ l, 0 ≤ x ∧ x < 256) :
    ∃ r1 r2 r3, spec_l01Next.f l a k n = some (r1, r2, r3) ∧ 0 ≤ r2 ∧ (1 ≤ n → 0 ≤ r1 ∧ r1 < n) := by
  unfold spec_l01Next.f
  by_cases h1 : n < 1
  · rw [if_pos h1]
    exact ⟨_, _, _, rfl, ha, fun h => by omega⟩
  · rw [if_neg h1]
    have hX := hx (IntKind.u64.wrap (k * 6364136223846793005) + 1442695040888963407)
    generalize bits .and .u64 (IntKind.u64.wrap (IntKind.u64.wrap (k * 6364136223846793005) + 1442695040888963407) / 8589934592) 16777215 = X at hX
    have hr := rd_byte hb a
    have e1 : wrap64 X = X := w64 (by omega) (by omega)
    by_cases h2 : a < (l.length : Int)
    · rw [if_pos h2, if_pos ha, if_neg (by omega)]
      have e2 : wrap64 (rd l a) = rd l a := w64 (by omega) (by omega)
      have e3 : wrap64 (X + rd l a) = X + rd l a := w64 (by omega) (by omega)
      rw [e1, e2, e3]
      refine ⟨_, _, _, rfl, ?_, fun h => tmod_range (by omega) h⟩
      rw [w64 (by omega) (by omega)]
      omega
    · rw [if_neg h2, if_neg (by omega), e1]
      exact ⟨_, _, _, rfl, ha, fun h => tmod_range (by omega) h⟩
theorem mask_all (X : Int) : 0 ≤ bits .and .u64 (IntKind.u64.wrap X / 8589934592) 16777215 ∧ bits .and .u64 (IntKind.u64.wrap X / 8589934592) 16777215 < 16777216 := by
  have := u64_range X
  refine mask_range ?_ ?_
  · omega
  · omega
theorem next_calls {W : World} (w0 w : World) (g : Nat) (n : Int) (h : Src W w0 w g) : Calls Try.prog 44 #[.pointer (some ⟨g, 0, none⟩), .int .i64 n] w fun e w' => ∃ r, e = .returned (.int .i64 r) ∧ Src W w0 w' g ∧ (1 ≤ n → 0 ≤ r ∧ r < n) := by
  obtain ⟨l, a, k, hs, ha, hl, hb, hB, hK⟩ := h
  obtain ⟨r1, r2, r3, hf, h2, h3⟩ := next_key mask_all a l k n ha hl hb
  refine (spec_l01Next.calls g l a k n r1 r2 r3 w0 w hs hB hf).mono ?_
  rintro e w' ⟨rfl, hs', hB', hk⟩
  exact ⟨r1, rfl, ⟨l, r2, r3, hs', h2, hl, hb, hB', KeepBut.trans hK hk (.inl rfl)⟩, h3⟩
/-- A literal row. -/
theorem lit_C (w : World) (l : List Int) (t : TypeId) (hl : l.length ≤ 1000) : Kd.C (Kd.int .i64) (w.alloc (.cells (nums .i64 l).toArray t)) (some ⟨w.heap.size, 0, none⟩) l.length l := by
  have h := World.ownsRow_lit (base := 0) (e := t) (size := 1) w (nums .i64 l).toArray l.length (Nat.zero_le _) (by unfold maxLen; omega) (by simp [nums])
  have h2 : Kd.R (Kd.int .i64) t (w.alloc (.cells (nums .i64 l).toArray t)) 0 (fun _ => True) (.slice (some ⟨w.heap.size, 0, none⟩) l.length l.length) l := Kd.R_of_own (by simpa [nums, encs] using h) (fun _ _ => trivial)
  exact (Kd.R_reads' h2).2.2
theorem Src.alloc {W w0 w : World} {g : Nat} (h : Src W w0 w g) (o : Obj) : Src W w0 (w.alloc o) g := by
  obtain ⟨l, a, k, h1, h2, h3, h4, h5, h6⟩ := h
  exact ⟨l, a, k, h1.alloc _, h2, h3, h4, below_alloc h5 _, keep_alloc h6 _⟩
theorem Src.lt {W w0 w : World} {g : Nat} (h : Src W w0 w g) : g < w.heap.size := by
  obtain ⟨l, a, k, h1, h2, h3, h4, h5⟩ := h
  exact h1.lt
theorem pick_calls {W : World} (w0 w : World) (g : Nat) (l : List Int) (t : TypeId) (h : Src W w0 w g) (h0 : 0 < l.length) (h1 : l.length ≤ 1000) :
    Calls Try.prog 38 #[.pointer (some ⟨g, 0, none⟩), .slice (some ⟨w.heap.size, 0, none⟩) l.length l.length] (w.alloc (.cells (nums .i64 l).toArray t)) fun e w' => ∃ r, e = .returned (.int .i64 r) ∧ Src W w0 w' g ∧ r ∈ l := by
  have hC := lit_C w l t h1
  have hlt := h.lt
  have hs := h.alloc (.cells (nums .i64 l).toArray t)
  obtain ⟨c, a, k, hi, ha, hl, hb, hB, hK⟩ := hs
  obtain ⟨r1, r2, r3, hf, h2, h3⟩ := next_key mask_all a c k (l.length : Int) ha hl hb
  obtain ⟨p0, p1⟩ := h3 (by omega)
  have hp : spec_l01Pick.f c a k l = some (rd l r1, r2, r3) := by
    unfold spec_l01Pick.f
    rw [hf, Option.bind_some, if_pos p0, if_pos p1]
  refine (spec_l01Pick.calls g c a k _ _ l _ _ _ w0 _ hi hB hC (Nat.le_refl _) ?_ hp).mono ?_
  · intro ad e _
    cases e
    show w.heap.size ≠ g
    omega
  · rintro e w' ⟨rfl, hs', hB', hk⟩
    refine ⟨_, rfl, ⟨c, r2, r3, hs', h2, hl, hb, hB', KeepBut.trans hK hk (.inl rfl)⟩, ?_⟩
    unfold rd
    rw [List.getD_eq_getElem?_getD, List.getElem?_eq_getElem (by omega)]
    exact List.getElem_mem _
theorem Src.keep {W w0 w : World} {g : Nat} (h : Src W w0 w g) : KeepBut W w g none := by
  obtain ⟨l, a, k, h1, h2, h3, h4, h5, h6⟩ := h
  exact h6
/-- The world from which on the other blocks stay may be chosen anew. -/
theorem Src.from_ {W w0 w : World} {g : Nat} (h : Src W w0 w g) : Src w w0 w g := by
  obtain ⟨l, a, k, h1, h2, h3, h4, h5, h6⟩ := h
  exact ⟨l, a, k, h1, h2, h3, h4, h5, KeepBut.refl _ _ _⟩
end Go.Proofs.Yteefmpcmfkfmnaa
