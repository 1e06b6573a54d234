/- The walk of addDigits: the sum of digits. Conditions: both are digits in memory. -/
import Derived.Test.YtbmjakaoniegfaaBig1
namespace Go.Proofs.Ytbmjakaoniegfaa.Big
open Go.RowKit Go.Proofs.YtbmjakaoniegfaaW.PrintWords Go.Proofs.Ytbmjakaoniegfaa.Math
set_option linter.unusedVariables false
set_option linter.unusedSimpArgs false

theorem info32 : (Try.prog.info? 66).map (fun i => (i.zero, i.size, i.bytes)) = some (some (.int .u32 0), 1, 4) := by kernel_rfl
theorem Digs.form {w : World} {v : Value} {xs : List Int} (h : Digs w v xs) (hp : 0 < xs.length) : ∃ g c, v = .slice (some ⟨g, 0, none⟩) xs.length c ∧ g < w.heap.size := by
  obtain ⟨g, cap, he, _, hl⟩ := World.ownsRow.form h hp
  exact ⟨g, cap, he, hl⟩
theorem Digs.bound {w : World} {v : Value} {xs : List Int} (h : Digs w v xs) : xs.length ≤ 9223372036854775807 := by
  rcases h.2 with ⟨_, h1⟩ | ⟨g', cap', cur, h1, _, _, h2, h3, _⟩
  · omega
  · simp only [maxLen] at h3
    omega
theorem Digs.at_ {w : World} {g c n : Nat} {xs : List Int} (h : Digs w (.slice (some ⟨g, 0, none⟩) n c) xs) {k : Nat} (hk : k < xs.length) :
    w.cell? ⟨g, k, none⟩ = some (.int .u32 (xs.getD k 0)) ∧ w.frozen? ⟨g, k, none⟩ = false := by
  have h' : w.ownsRow 0 66 1 (.slice (some ⟨g, 0, none⟩) n c) xs.length (nums .u32 xs) := h
  have hn : n = xs.length := by
    obtain ⟨g', c', he, _⟩ := h.form (by omega)
    injection he
  subst hn
  have := own_at h' (k : Int) (by omega) (by omega)
  simpa [rd] using this
theorem Digs.put {w : World} {g c n : Nat} {xs : List Int} (h : Digs w (.slice (some ⟨g, 0, none⟩) n c) xs) (hn : n = xs.length) (k : Nat) (x : Int) :
    Digs (w.setCell ⟨g, k, none⟩ (.int .u32 x)) (.slice (some ⟨g, 0, none⟩) n c) (xs.set k x) ∧ w.grownBy (w.setCell ⟨g, k, none⟩ (.int .u32 x)) (some g) := by
  subst hn
  have h' : w.ownsRow 0 66 1 (.slice (some ⟨g, 0, none⟩) xs.length c) xs.length (nums .u32 xs) := h
  have hs := h'.stored k (.int .u32 x)
  refine ⟨?_, hs.2⟩
  have h2 := hs.1
  simp only [Digs, List.length_set]
  rw [show nums .u32 (xs.set k x) = (nums .u32 xs).set k (.int .u32 x) from by simp [nums, List.map_set]]
  exact h2
theorem Digs.made (w : World) (m : Nat) (hm : m ≤ 9223372036854775807) :
    Digs (w.alloc (.cells (madeCells #[.int .u32 0] m) 66)) (.slice (some ⟨w.heap.size, 0, none⟩) m m) (List.replicate m 0) := by
  have := own_made w 0 66 .u32 m (Nat.zero_le _) hm
  simpa [Digs] using this

set_option maxHeartbeats 1000000 in
theorem add_main (sw : Bool) (xs ys : List Int) (vx vy : Value) (w : World) (hle : ys.length ≤ xs.length) (hsw : sw = true → ys.length < xs.length)
    (hx : Digs w vx xs) (hy : Digs w vy ys) (ox : Okd xs) (oy : Okd ys) (hb : xs.length ≤ 1000000000) :
    Calls Try.prog 53 (if sw then #[vy, vx] else #[vx, vy]) w fun e w' => ∃ v zs, e = .returned v ∧ Digs w' v zs ∧ Okd zs ∧ zs.length = xs.length + 1 ∧ val zs = val xs + val ys ∧ Below w.heap.size w w' := by
  obtain ⟨A, c, rfl⟩ := hx.shape
  obtain ⟨B, d, rfl⟩ := hy.shape
  have HX := Aside0.mk hx
  have HY := Aside0.mk hy
  have OX := Aside0.mk ox
  have OY := Aside0.mk oy
  clear hx hy ox oy
  have hmk := fun W => run_make_row' (P := Try.prog) 57 66 (.int .u32 0) 4 Try.underlying57 info32 rfl .i64 .i64 (xs.length + 1) (by omega) (by omega) W
  have ec : ((xs.length + 1 : Nat) : Int) = (xs.length : Int) + 1 := by omega
  rw [ec] at hmk
  clear ec
  have hsw' : (sw = true → ys.length < xs.length) ∧ True := ⟨hsw, trivial⟩
  obtain ⟨HSW, -⟩ := hsw'
  have hb2 : ys.length ≤ 1000000000 := by omega
  have D0 := Aside0.mk (Digs.made w (xs.length + 1) (by omega))
  cases sw
  · have hlt : ¬ (xs.length < ys.length) := by omega
    clear hsw HSW
    simp only [Bool.false_eq_true, if_false]
    go_enter Try.func53, Try.ntmps53
    go_wp2
    go_loopw [6, 21] (fun c i wr => ∃ (k : Nat) (carry : Int) (ds : List Int), k ≤ xs.length ∧ c = .int .u64 carry ∧ i = .int .i64 k ∧ 0 ≤ carry ∧ carry ≤ 1 ∧
        Aside0 (AddRel xs ys k carry ds ∧ Digs wr (.slice (some ⟨w.heap.size, 0, none⟩) (xs.length + 1) (xs.length + 1)) (ds ++ List.replicate (xs.length + 1 - k) 0) ∧ Below w.heap.size w wr)) (fun _ i _ => xs.length - (intOf i).toNat)
    case atStart => exact ⟨0, 0, [], Nat.zero_le _, rfl, rfl, by omega, by omega, ⟨AddRel.start _ _, by simpa using D0.out, (Below.refl _ _).alloc (Nat.le_refl _) _⟩⟩
    case round =>
      obtain ⟨k, carry, ds, hk, rfl, rfl, hc0, hc1, hR⟩ := hrel
      by_cases hlt : k < xs.length
      · obtain ⟨g, c', he, hg⟩ := HX.out.form (by omega)
        injection he with he1 he2 he3
        subst he1 he3
        have hgw : g ≠ w.heap.size := by omega
        have hcx := ((HX.out.below hR.out.2.2).at_ hlt).1
        have hbx := getD_ok OX.out k
        obtain ⟨x, hxe⟩ : ∃ x, x = xs.getD k 0 := ⟨_, rfl⟩
        rw [← hxe] at hcx hbx
        have HXE := Aside0.mk hxe
        clear hxe
        obtain ⟨o, hoc, hof⟩ : ∃ o, wr.cell? ⟨w.heap.size, k, none⟩ = some (.int .u32 o) ∧ wr.frozen? ⟨w.heap.size, k, none⟩ = false := ⟨_, hR.out.2.1.at_ (k := k) (by simp [hR.out.1.len]; omega)⟩
        have fin : ∀ t, t = carry + xs.getD k 0 + ys.getD k 0 → AddRel xs ys (k + 1) (t / 4294967296) (ds ++ [t % 4294967296]) ∧ Digs (wr.setCell ⟨w.heap.size, k, none⟩ (.int .u32 (t % 4294967296))) (.slice (some ⟨w.heap.size, 0, none⟩) (xs.length + 1) (xs.length + 1)) ((ds ++ [t % 4294967296]) ++ List.replicate (xs.length + 1 - (k + 1)) 0) ∧ Below w.heap.size w (wr.setCell ⟨w.heap.size, k, none⟩ (.int .u32 (t % 4294967296))) := by
          intro t ht
          refine ⟨hR.out.1.step OX.out OY.out hlt ht, ?_, hR.out.2.2.setCell (Nat.le_refl _) _⟩
          have h1 := (hR.out.2.1.put (by simp [hR.out.1.len]; omega) k (t % 4294967296)).1
          have hl := hR.out.1.len
          rw [show xs.length + 1 - k = (xs.length + 1 - (k + 1)) + 1 from by omega, ← hl, set_fill] at h1
          rw [← hl]
          exact h1
        have FIN := Aside0.mk fin
        clear fin
        by_cases hlt2 : k < ys.length
        · obtain ⟨g2, d', he, hg2⟩ := HY.out.form (by omega)
          injection he with he1 he2 he3
          subst he1 he3
          have hcy := ((HY.out.below hR.out.2.2).at_ hlt2).1
          have hby := getD_ok OY.out k
          obtain ⟨y, hye⟩ : ∃ y, y = ys.getD k 0 := ⟨_, rfl⟩
          rw [← hye] at hcy hby
          have HYE := Aside0.mk hye
          clear hye
          go_wp2
          go_roundw
          case rel => exact ⟨k + 1, _, _, by omega, rfl, by go_num, by omega, by omega, ⟨FIN.out (carry + x + y) (by rw [HXE.out, HYE.out])⟩⟩
          case measure => simp [intOf]; omega
        · go_wp2
          go_roundw
          case rel => exact ⟨k + 1, _, _, by omega, rfl, by go_num, by omega, by omega, ⟨FIN.out (carry + x) (by rw [HXE.out, List.getD_eq_getElem?_getD (l := ys), List.getElem?_eq_none (by omega)]; simp)⟩⟩
          case measure => simp [intOf]; omega
      · obtain rfl : k = xs.length := by omega
        obtain ⟨o, hoc, hof⟩ : ∃ o, wr.cell? ⟨w.heap.size, xs.length, none⟩ = some (.int .u32 o) ∧ wr.frozen? ⟨w.heap.size, xs.length, none⟩ = false := ⟨_, hR.out.2.1.at_ (k := xs.length) (by simp [hR.out.1.len])⟩
        go_wp2
        go_ret
        obtain ⟨h1, h2, h3⟩ := hR.out.1.done hle
        refine ⟨_, _, rfl, ?_, h1, h2, h3, hR.out.2.2.setCell (Nat.le_refl _) _⟩
        have h4 := (hR.out.2.1.put (by simp [hR.out.1.len]) xs.length carry).1
        have hl := hR.out.1.len
        rw [show xs.length + 1 - xs.length = 0 + 1 from by omega] at h4
        have h5 := set_fill ds 0 carry
        rw [hl] at h5
        rw [h5, List.replicate_zero, List.append_nil] at h4
        exact h4
  · have hlt : ys.length < xs.length := HSW rfl
    clear hsw HSW
    simp only [if_true]
    go_enter Try.func53, Try.ntmps53
    go_wp2
    go_loopw [6, 21] (fun c i wr => ∃ (k : Nat) (carry : Int) (ds : List Int), k ≤ xs.length ∧ c = .int .u64 carry ∧ i = .int .i64 k ∧ 0 ≤ carry ∧ carry ≤ 1 ∧
        Aside0 (AddRel xs ys k carry ds ∧ Digs wr (.slice (some ⟨w.heap.size, 0, none⟩) (xs.length + 1) (xs.length + 1)) (ds ++ List.replicate (xs.length + 1 - k) 0) ∧ Below w.heap.size w wr)) (fun _ i _ => xs.length - (intOf i).toNat)
    case atStart => exact ⟨0, 0, [], Nat.zero_le _, rfl, rfl, by omega, by omega, ⟨AddRel.start _ _, by simpa using D0.out, (Below.refl _ _).alloc (Nat.le_refl _) _⟩⟩
    case round =>
      obtain ⟨k, carry, ds, hk, rfl, rfl, hc0, hc1, hR⟩ := hrel
      by_cases hlt : k < xs.length
      · obtain ⟨g, c', he, hg⟩ := HX.out.form (by omega)
        injection he with he1 he2 he3
        subst he1 he3
        have hgw : g ≠ w.heap.size := by omega
        have hcx := ((HX.out.below hR.out.2.2).at_ hlt).1
        have hbx := getD_ok OX.out k
        obtain ⟨x, hxe⟩ : ∃ x, x = xs.getD k 0 := ⟨_, rfl⟩
        rw [← hxe] at hcx hbx
        have HXE := Aside0.mk hxe
        clear hxe
        obtain ⟨o, hoc, hof⟩ : ∃ o, wr.cell? ⟨w.heap.size, k, none⟩ = some (.int .u32 o) ∧ wr.frozen? ⟨w.heap.size, k, none⟩ = false := ⟨_, hR.out.2.1.at_ (k := k) (by simp [hR.out.1.len]; omega)⟩
        have fin : ∀ t, t = carry + xs.getD k 0 + ys.getD k 0 → AddRel xs ys (k + 1) (t / 4294967296) (ds ++ [t % 4294967296]) ∧ Digs (wr.setCell ⟨w.heap.size, k, none⟩ (.int .u32 (t % 4294967296))) (.slice (some ⟨w.heap.size, 0, none⟩) (xs.length + 1) (xs.length + 1)) ((ds ++ [t % 4294967296]) ++ List.replicate (xs.length + 1 - (k + 1)) 0) ∧ Below w.heap.size w (wr.setCell ⟨w.heap.size, k, none⟩ (.int .u32 (t % 4294967296))) := by
          intro t ht
          refine ⟨hR.out.1.step OX.out OY.out hlt ht, ?_, hR.out.2.2.setCell (Nat.le_refl _) _⟩
          have h1 := (hR.out.2.1.put (by simp [hR.out.1.len]; omega) k (t % 4294967296)).1
          have hl := hR.out.1.len
          rw [show xs.length + 1 - k = (xs.length + 1 - (k + 1)) + 1 from by omega, ← hl, set_fill] at h1
          rw [← hl]
          exact h1
        have FIN := Aside0.mk fin
        clear fin
        by_cases hlt2 : k < ys.length
        · obtain ⟨g2, d', he, hg2⟩ := HY.out.form (by omega)
          injection he with he1 he2 he3
          subst he1 he3
          have hcy := ((HY.out.below hR.out.2.2).at_ hlt2).1
          have hby := getD_ok OY.out k
          obtain ⟨y, hye⟩ : ∃ y, y = ys.getD k 0 := ⟨_, rfl⟩
          rw [← hye] at hcy hby
          have HYE := Aside0.mk hye
          clear hye
          go_wp2
          go_roundw
          case rel => exact ⟨k + 1, _, _, by omega, rfl, by go_num, by omega, by omega, ⟨FIN.out (carry + x + y) (by rw [HXE.out, HYE.out])⟩⟩
          case measure => simp [intOf]; omega
        · go_wp2
          go_roundw
          case rel => exact ⟨k + 1, _, _, by omega, rfl, by go_num, by omega, by omega, ⟨FIN.out (carry + x) (by rw [HXE.out, List.getD_eq_getElem?_getD (l := ys), List.getElem?_eq_none (by omega)]; simp)⟩⟩
          case measure => simp [intOf]; omega
      · obtain rfl : k = xs.length := by omega
        obtain ⟨o, hoc, hof⟩ : ∃ o, wr.cell? ⟨w.heap.size, xs.length, none⟩ = some (.int .u32 o) ∧ wr.frozen? ⟨w.heap.size, xs.length, none⟩ = false := ⟨_, hR.out.2.1.at_ (k := xs.length) (by simp [hR.out.1.len])⟩
        go_wp2
        go_ret
        obtain ⟨h1, h2, h3⟩ := hR.out.1.done hle
        refine ⟨_, _, rfl, ?_, h1, h2, h3, hR.out.2.2.setCell (Nat.le_refl _) _⟩
        have h4 := (hR.out.2.1.put (by simp [hR.out.1.len]) xs.length carry).1
        have hl := hR.out.1.len
        rw [show xs.length + 1 - xs.length = 0 + 1 from by omega] at h4
        have h5 := set_fill ds 0 carry
        rw [hl] at h5
        rw [h5, List.replicate_zero, List.append_nil] at h4
        exact h4

/-- The sum of digits. -/
theorem addDigits_calls (xs ys : List Int) (vx vy : Value) (w : World) (hx : Digs w vx xs) (hy : Digs w vy ys) (ox : Okd xs) (oy : Okd ys) (hb : xs.length ≤ 1000000000) (hb2 : ys.length ≤ 1000000000) :
    Calls Try.prog 53 #[vx, vy] w fun e w' => ∃ v zs, e = .returned v ∧ Digs w' v zs ∧ Okd zs ∧ zs.length = max xs.length ys.length + 1 ∧ val zs = val xs + val ys ∧ Below w.heap.size w w' := by
  by_cases h : ys.length ≤ xs.length
  · refine (add_main false xs ys vx vy w h (fun h => by cases h) hx hy ox oy hb).mono ?_
    rintro e w' ⟨v, zs, h1, h2, h3, h4, h5, h6⟩
    exact ⟨v, zs, h1, h2, h3, by omega, h5, h6⟩
  · refine (add_main true ys xs vy vx w (by omega) (fun _ => by omega) hy hx oy ox hb2).mono ?_
    rintro e w' ⟨v, zs, h1, h2, h3, h4, h5, h6⟩
    exact ⟨v, zs, h1, h2, h3, by omega, by omega, h6⟩
end Go.Proofs.Ytbmjakaoniegfaa.Big
