/- Decimal texts from below, as mathematics; a row turned around. Plain Lean; no program. -/
import Derived.Test.YtghhphndbbefjaaDoorMathM
namespace Go.Proofs.YtghhphndbbefjaaDoor.Math
set_option linter.unusedVariables false
set_option linter.unusedSimpArgs false

/-- A natural number's decimal digits, as whole numbers. -/
def decI (n : Nat) : List Int := (dec n).map (fun x : Nat => (x : Int))
theorem decI_small {n : Nat} (h : n < 10) : decI n = [48 + (n : Int)] := by rw [decI, dec_small h]; simp
theorem decI_big {n : Nat} (h : ¬ n < 10) : decI n = decI (n / 10) ++ [48 + ((n % 10 : Nat) : Int)] := by
  rw [decI, dec_big h, List.map_append]
  simp [decI]
theorem decI_bytes (n : Nat) : ∀ x ∈ decI n, 48 ≤ x ∧ x ≤ 57 := by
  induction n using Nat.strongRecOn with
  | ind n ih =>
    intro x hx
    by_cases h : n < 10
    · rw [decI_small h, List.mem_singleton] at hx
      omega
    · rw [decI_big h, List.mem_append, List.mem_singleton] at hx
      rcases hx with hx | hx
      · exact ih (n / 10) (by omega) x hx
      · omega
theorem decI_len (n : Nat) : ∀ k, n < 10 ^ (k + 1) → (decI n).length ≤ k + 1 := by
  induction n using Nat.strongRecOn with
  | ind n ih =>
    intro k hk
    by_cases h : n < 10
    · rw [decI_small h]
      simp
    · rw [decI_big h, List.length_append, List.length_singleton]
      cases k with
      | zero => simp at hk; omega
      | succ k =>
        have := ih (n / 10) (by omega) k (by rw [Nat.pow_succ] at hk; omega)
        omega
theorem decI_pos (n : Nat) : 0 < (decI n).length := by
  by_cases h : n < 10
  · rw [decI_small h]
    simp
  · rw [decI_big h]
    simp
/-- Between two digits, from below: u is what is left of V. -/
structure Dig (V u : Nat) (ds : List Int) : Prop where
  z : u = 0 → (V = 0 ∧ ds = []) ∨ (V ≠ 0 ∧ ds.reverse = decI V)
  p : u ≠ 0 → decI V = decI u ++ ds.reverse
theorem Dig.start (V : Nat) : Dig V V [] := ⟨fun h => .inl ⟨h, rfl⟩, fun _ => by simp⟩
theorem Dig.step {V u : Nat} {ds : List Int} (h : Dig V u ds) (hu : u ≠ 0) : Dig V (u / 10) (ds ++ [48 + ((u % 10 : Nat) : Int)]) := by
  have hp := h.p hu
  by_cases hs : u < 10
  · rw [decI_small hs] at hp
    have e : u % 10 = u := by omega
    refine ⟨fun _ => .inr ⟨?_, ?_⟩, fun g => absurd (show u / 10 = 0 from by omega) g⟩
    · rintro rfl
      rw [decI_small (by omega)] at hp
      simp at hp
      omega
    · rw [hp, e]
      simp
  · rw [decI_big hs, List.append_assoc] at hp
    refine ⟨fun g => absurd g (by omega), fun _ => ?_⟩
    rw [hp]
    simp
theorem Dig.len {V u : Nat} {ds : List Int} (h : Dig V u ds) : ds.length ≤ (decI V).length := by
  by_cases hu : u = 0
  · rcases h.z hu with ⟨_, rfl⟩ | ⟨_, e⟩
    · simp
    · rw [← e]
      simp
  · rw [h.p hu]
    simp
theorem Dig.bytes {V u : Nat} {ds : List Int} (h : Dig V u ds) : ∀ x ∈ ds, 48 ≤ x ∧ x ≤ 57 := by
  intro x hx
  by_cases hu : u = 0
  · rcases h.z hu with ⟨_, rfl⟩ | ⟨_, e⟩
    · simp at hx
    · exact decI_bytes V x (by rw [← e]; simpa using hx)
  · exact decI_bytes V x (by rw [h.p hu]; simp [hx])
/-- A whole number's text. -/
def txt (n : Int) : List Int := if n < 0 then 45 :: decI n.natAbs else decI n.natAbs
/-- So many of the outermost are turned around. -/
structure RevRel (xs ys : List Int) (i : Nat) : Prop where
  len : ys.length = xs.length
  at_ : ∀ k, k < xs.length → ys.getD k 0 = if k < i ∨ xs.length - i ≤ k then xs.getD (xs.length - 1 - k) 0 else xs.getD k 0
theorem RevRel.start (xs : List Int) : RevRel xs xs 0 := ⟨rfl, fun k hk => by rw [if_neg (by omega)]⟩
theorem getD_set (l : List Int) (i k : Nat) (x : Int) (hi : i < l.length) : (l.set i x).getD k 0 = if k = i then x else l.getD k 0 := by
  rw [List.getD_eq_getElem?_getD, List.getElem?_set]
  by_cases e : i = k
  · subst e
    rw [if_pos rfl, if_pos rfl, if_pos hi]
    rfl
  · rw [if_neg e, if_neg (fun h => e h.symm), List.getD_eq_getElem?_getD]
theorem RevRel.step {xs ys : List Int} {i : Nat} (h : RevRel xs ys i) (hi : i < xs.length - 1 - i) :
    RevRel xs ((ys.set i (ys.getD (xs.length - 1 - i) 0)).set (xs.length - 1 - i) (ys.getD i 0)) (i + 1) := by
  have hl := h.len
  refine ⟨by simp [hl], fun k hk => ?_⟩
  have h1 := h.at_ (xs.length - 1 - i) (by omega)
  have h2 := h.at_ i (by omega)
  have h3 := h.at_ k hk
  rw [if_neg (by omega)] at h1 h2
  rw [getD_set _ _ _ _ (by simp; omega), getD_set _ _ _ _ (by omega)]
  by_cases e1 : k = xs.length - 1 - i
  · subst e1
    rw [if_pos rfl, if_pos (by omega), h2]
    congr 1
    omega
  · by_cases e2 : k = i
    · subst e2
      rw [if_neg e1, if_pos rfl, if_pos (by omega), h1]
    · rw [if_neg e1, if_neg e2, h3]
      by_cases e3 : k < i ∨ xs.length - i ≤ k
      · rw [if_pos e3, if_pos (by omega)]
      · rw [if_neg e3, if_neg (by omega)]
theorem RevRel.done {xs ys : List Int} {i : Nat} (h : RevRel xs ys i) (hi : ¬ i < xs.length - 1 - i) : ys = xs.reverse := by
  have hl := h.len
  refine List.ext_getElem (by simp [hl]) (fun k h1 h2 => ?_)
  have h3 := h.at_ k (by omega)
  rw [List.getElem_reverse]
  have e1 : ys.getD k 0 = ys[k] := by rw [List.getD_eq_getElem?_getD, List.getElem?_eq_getElem h1]; rfl
  have e2 : xs.getD (xs.length - 1 - k) 0 = xs[xs.length - 1 - k]'(by omega) := by rw [List.getD_eq_getElem?_getD, List.getElem?_eq_getElem (by omega)]; rfl
  rw [e1] at h3
  rw [h3]
  split
  · rw [e2]
  · have e4 : k = xs.length - 1 - k := by omega
    have e5 : xs.getD k 0 = xs.getD (xs.length - 1 - k) 0 := congrArg (fun z => xs.getD z 0) e4
    rw [e5, e2]
end Go.Proofs.YtghhphndbbefjaaDoor.Math
