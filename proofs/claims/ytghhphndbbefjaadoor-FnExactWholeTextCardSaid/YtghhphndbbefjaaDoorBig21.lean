/- The contract of (*bigInt).String: the number's decimal text. -/
import Derived.Test.YtghhphndbbefjaaDoorBigF
import Derived.Test.YtghhphndbbefjaaDoorBig20
import Derived.Deep.DeepCutAuto
import Derived.Deep.CutBlock
namespace Go.Proofs.YtghhphndbbefjaaDoor.Big
open Go.RowKit Go.Proofs.YtghhphndbbefjaaDoorW.PrintWords Go.Proofs.YtghhphndbbefjaaDoorW.PrintLast Go.Proofs.YtghhphndbbefjaaDoorW.PrintMore Go.Proofs.YtghhphndbbefjaaDoor.Math Go.Proofs.YtghhphndbbefjaaDoor.Sq
set_option linter.unusedVariables false
set_option linter.unusedSimpArgs false

theorem info8 : (Tryd.prog.info? 5).map (fun i => (i.zero, i.size, i.bytes)) = some (some (.int .u8 0), 1, 1) := by kernel_rfl
theorem Byt.empty (w : World) {base : Nat} (hb : base ≤ w.heap.size) : Byt (w.alloc (.cells #[] 5)) base (.slice (some ⟨w.heap.size, 0, none⟩) 0 0) [] :=
  own_lit w base 5 .u8 [] hb (by simp)
theorem Byt.alloc {w : World} {base : Nat} {v : Value} {xs : List Int} (h : Byt w base v xs) (o : Obj) : Byt (w.alloc o) base v xs := own_alloc h o
/-- Rows of bytes and rows of digits lie apart. -/
theorem Byt.grown {w w1 : World} {base b2 : Nat} {v u : Value} {xs ys : List Int} (h : Byt w base v xs) (hu : Own w b2 u ys) (hg : w.grownBy w1 u.ownBlock) : Byt w1 base v xs := by
  refine own_move h (fun k hk => ?_)
  obtain ⟨cells, hc⟩ := own_typed h k hk
  refine hg.block k (own_lt h k hk) ?_
  intro e
  obtain ⟨cs, hz⟩ := own_typed hu k e.symm
  rw [hc] at hz
  injection hz with hz
  injection hz with _ hz
  exact absurd hz (by decide)
theorem Digs.bytes {w w1 : World} {base : Nat} {v u : Value} {xs ys : List Int} (h : Digs w v xs) (hu : Byt w base u ys) (hg : w.grownBy w1 u.ownBlock) : Digs w1 v xs := by
  refine own_move h (fun k hk => ?_)
  obtain ⟨cells, hc⟩ := own_typed h k hk
  refine hg.block k (own_lt h k hk) ?_
  intro e
  obtain ⟨cs, hz⟩ := own_typed hu k e.symm
  rw [hc] at hz
  injection hz with hz
  injection hz with _ hz
  exact absurd hz (by decide)
/-- Between two rounds: the digits so far, what is left, and ten to the ninth. -/
structure SAt (w wr : World) (g : Nat) (dv rv : Value) (ds rs : List Int) : Prop where
  d : Byt wr w.heap.size dv ds
  r : Digs wr rv rs
  b : Digs wr (.slice (some ⟨g, 0, none⟩) 1 1) [1000000000]
  lo : Below w.heap.size w wr
theorem SAt.below {w wr w1 : World} {g : Nat} {dv rv : Value} {ds rs : List Int} (h : SAt w wr g dv rv ds rs) (hb : Below wr.heap.size wr w1) : SAt w w1 g dv rv ds rs :=
  ⟨h.d.below hb, h.r.below hb, h.b.below hb, h.lo.trans (hb.mono h.lo.size)⟩
theorem txt_bval {neg : Bool} {xs : List Int} (ok : Okd xs) (ti : Tight xs) (ne : neg = true → xs ≠ []) : txt (bval neg xs) = if neg = true then 45 :: decI (val xs).toNat else decI (val xs).toNat := by
  have h0 := val_nonneg ok
  cases neg
  · simp only [bval, Bool.false_eq_true, if_false]
    unfold txt
    rw [if_neg (by omega)]
    congr 1
    omega
  · have h2 := val_ge ok ti (ne rfl)
    have := pow_pos' (xs.length - 1)
    simp only [bval, if_true]
    unfold txt
    rw [if_pos (by omega)]
    congr 2
    omega
theorem dig_step {v n i : Nat} (h : i < 9) : (v * 10 ^ (9 - i) + n) / 10 = v * 10 ^ (9 - (i + 1)) + n / 10 ∧ (v * 10 ^ (9 - i) + n) % 10 = n % 10 ∧ (0 < n ∨ 0 < v → v * 10 ^ (9 - i) + n ≠ 0) := by
  have e : (10 : Nat) ^ (9 - i) = 10 ^ (9 - (i + 1)) * 10 := by rw [← Nat.pow_succ]; congr 1; omega
  have hp : 0 < (10 : Nat) ^ (9 - (i + 1)) := Nat.pow_pos (by omega)
  rw [e, ← Nat.mul_assoc]
  have hv : 0 < v → 0 < v * 10 ^ (9 - (i + 1)) := fun g => Nat.mul_pos g hp
  generalize v * 10 ^ (9 - (i + 1)) = p at hv ⊢
  refine ⟨by omega, by omega, ?_⟩
  rintro (g | g)
  · omega
  · have := hv g
    omega
set_option maxRecDepth 100000 in
set_option maxHeartbeats 8000000 in
theorem string_walk (z : Nat) (neg : Bool) (xs : List Int) (A : Option Addr) (c : Nat) (w : World) (hx : Opd w z neg xs A c) (hb : xs.length ≤ 500000) (hd : (decI (val xs).toNat).length ≤ 100000) :
    Calls Tryd.prog 55 #[.pointer (some ⟨z, 0, none⟩)] w fun e w' => e = .returned (.string (strOfNums (txt (bval neg xs)))) ∧ Below w.heap.size w w' := by
  have HX := Aside0.mk hx
  have TXT := Aside0.mk (txt_bval hx.ok hx.ti hx.ne)
  obtain ⟨c0, c1, -, -, -, -, -⟩ := hx
  have B1 := Aside0.mk (((Below.refl w.heap.size w).alloc (Nat.le_refl _) (.cells #[] 5)).alloc (by simp) (.cells #[] 118))
  have D1 := Aside0.mk ((Byt.empty w (Nat.le_refl w.heap.size)).alloc (.cells #[] 118))
  have o1 := Own.empty (w.alloc (.cells #[] 5)) (base := w.heap.size) (by simp)
  have e1 : (w.alloc (.cells #[] 5)).heap.size = w.heap.size + 1 := by simp
  rw [e1] at o1
  clear e1
  have O1 := Aside0.mk o1
  clear o1
  have X1 := Aside0.mk (HX.out.d.below ((below_alloc (Below.refl w.heap.size w) (.cells #[] 5)).trans ((below_alloc (Below.refl _ _) (.cells #[] 118)).mono (by simp))))
  have k1 : ((w.alloc (.cells #[] 5)).alloc (.cells #[] 118)).cell? ⟨z, 1, none⟩ = some (.slice A xs.length c) := by
    exact pw_cell_below (below_alloc (Below.refl _ _) _) (pw_cell_below (below_alloc (Below.refl _ _) _) c1)
  go_enter Tryd.func55, Tryd.ntmps55
  go_wp2_with (first
    | ((with_reducible refine gate_builtin (b := .append) (xs := #[.tmp 11, .tmp 15]) rfl ?_); at_builtin; refine print_append_row (w0 := w) w.heap.size rfl (.tmp 11) (.tmp 15) 71 118 .u32 4 rfl Tryd.underlying71 info32 (by decide) _ [] xs A xs.length c rfl rfl ?aO ?aR ?aB ?aS ?aL ?_; (case aO => exact O1.out); (case aR => exact own_reads' X1.out); (case aB => exact B1.out); (case aS => exact B1.out.size); (case aL => simp; omega); intro v5 w5 ho5 hb5 hg5 hat5; rw [List.nil_append] at ho5; have O5 := Aside0.mk ho5; have B5 := Aside0.mk hb5; have D5 := Aside0.mk (D1.out.grown O1.out hg5); clear ho5 hb5 hg5 hat5))
  have s0 : SAt w (w5.alloc (.cells #[.int .u32 1000000000] 118)) w5.heap.size (.slice (some ⟨w.heap.size, 0, none⟩) 0 0) v5 [] xs :=
    ⟨D5.out.alloc _, (show Own w5 w.heap.size v5 xs from O5.out).digs.below (below_alloc (Below.refl _ _) _), Digs.one w5 _, B5.out.alloc B5.out.size _⟩
  have S0 := Aside0.mk s0
  have VV := Aside0.mk (And.intro HX.out.ok HX.out.ti)
  clear s0 D5 O5 B5 B1 D1 O1 X1 k1
  generalize w5.alloc (.cells #[.int .u32 1000000000] 118) = w6 at S0 ⊢
  generalize w5.heap.size = g at S0 ⊢
  obtain ⟨V, hV⟩ : ∃ V, V = (val xs).toNat := ⟨_, rfl⟩
  have HD := Aside0.mk (show (decI V).length ≤ 100000 from by rw [hV]; exact hd)
  have E9 := Aside0.mk (show val [1000000000] = 1000000000 from by simp [val])
  clear hd
  go_loopg [3, 4] (V + 1) (fun gk dv rv wr => Aside0 (∃ ds rs, SAt w wr g dv rv ds rs ∧ Okd rs ∧ Tight rs ∧ rs.length ≤ 500000 ∧ Dig V (val rs).toNat ds ∧ (val rs).toNat < gk))
  case atStart => exact ⟨⟨_, _, S0.out, VV.out.1, VV.out.2, hb, by rw [← hV]; exact Dig.start V, by omega⟩⟩
  case round =>
    obtain ⟨ds, rs, hS, ok, ti, hl, hdg, hgk⟩ := hrel.out
    obtain ⟨A1, q1, rfl⟩ := own_slice hS.d
    obtain ⟨A2, q2, rfl⟩ := hS.r.shape
    have SS := Aside0.mk hS
    have DG := Aside0.mk hdg
    have OK := Aside0.mk (And.intro ok ti)
    clear hS hdg hrel
    have hdl : ds.length ≤ 100000 := Nat.le_trans DG.out.len HD.out
    rcases Nat.eq_zero_or_pos rs.length with hz | hp
    · have hrz : rs = [] := List.length_eq_zero_iff.1 hz
      have DE := Aside0.mk (show Dig V 0 ds from by have h := DG.out; rw [hrz] at h; simpa [val] using h)
      subst hrz
      simp only [List.length_nil]
      rcases DE.out.z rfl with ⟨hv0, rfl⟩ | ⟨hv0, hde⟩
      · simp only [List.length_nil]
        go_wp2
        go_ret
        have hx0 : xs = [] := by
          rcases Nat.eq_zero_or_pos xs.length with h | h
          · exact List.length_eq_zero_iff.1 h
          · have h2 := val_ge VV.out.1 VV.out.2 (by rintro rfl; simp at h)
            have := pow_pos' (xs.length - 1)
            omega
        have ht := TXT.out
        rw [hx0] at ht ⊢
        have hn : neg = false := by cases neg with | false => rfl | true => exact absurd hx0 (HX.out.ne rfl)
        rw [hn] at ht ⊢
        have ht2 : strOfNums (txt (bval false [])) = (⟨#[48]⟩ : ByteArray) := by
          rw [ht]
          simp only [Bool.false_eq_true, if_false]
          rw [show (val []).toNat = 0 from rfl, decI_small (by omega)]
          rfl
        refine ⟨?_, SS.out.lo⟩
        rw [ht2]
        rfl
      · have hdp : 0 < ds.length := by have h := decI_pos V; rw [← hde] at h; simpa using h
        have hd1 : ¬ ((ds.length : Int) = 0) := by omega
        have e0 := pw_cell_below SS.out.lo c0
        have HDE := Aside0.mk hde
        clear hde
        cases neg
        · obtain ⟨g1, cap, he, hg1, hl1⟩ := World.ownsRow.form SS.out.d hdp
          obtain ⟨he1, he3⟩ : A1 = some ⟨g1, 0, none⟩ ∧ q1 = cap := ⟨(Value.slice.inj he).1, (Value.slice.inj he).2.2⟩
          subst he1 he3
          go_wp2_with fail
          refine (reverse_calls w.heap.size g1 q1 ds.length ds wr w SS.out.d rfl (by omega) SS.out.lo hg1 hdp).mono ?_
          rintro e w9 ⟨rfl, hby, hb9⟩
          have hcv := own_string (P := Tryd.prog) (src := 117) (dst := 9) (e := 5) Tryd.underlying117 Tryd.underlying5 Tryd.underlying9 hby
          have BE := Aside0.mk hb9
          clear hb9 hby
          go_wp2
          go_ret
          refine ⟨?_, BE.out⟩
          have ht := TXT.out
          simp only [Bool.false_eq_true, if_false] at ht
          rw [ht, ← hV, HDE.out]
          rfl
        · go_wp2_with (((with_reducible refine gate_builtin (b := .append) (xs := #[.tmp 66, .tmp 67]) rfl ?_); at_builtin; refine print_append_num (w0 := w) w.heap.size rfl (.tmp 66) (.tmp 67) 117 5 .u8 1 rfl Tryd.underlying117 info8 (by decide) _ ds 45 rfl rfl ?aO ?aB ?aS ?aL ?_; (case aO => exact SS.out.d); (case aB => exact SS.out.lo); (case aS => exact SS.out.lo.size); (case aL => omega); intro v9 w9 ho hb9 hg hat; obtain ⟨A9, q9, rfl⟩ := own_slice ho; have NB := Aside0.mk (show Byt w9 w.heap.size _ (ds ++ [45]) from ho); have NL := Aside0.mk hb9; clear ho hb9 hg hat))
          have hl9 : (ds ++ [45]).length = ds.length + 1 := by simp
          obtain ⟨g1, cap, he, hg1, hl1⟩ := World.ownsRow.form NB.out (by simp)
          obtain ⟨he1, he3⟩ : A9 = some ⟨g1, 0, none⟩ ∧ q9 = cap := ⟨(Value.slice.inj he).1, (Value.slice.inj he).2.2⟩
          subst he1 he3
          have hb19 : (ds ++ [45]).length ≤ 1000000 := by omega
          have hp19 : 0 < (ds ++ [45]).length := by omega
          have RC := reverse_calls w.heap.size g1 q9 (ds ++ [45]).length (ds ++ [45]) w9 w NB.out rfl hb19 NL.out hg1 hp19
          rw [hl9] at RC
          refine RC.mono ?_
          rintro e w10 ⟨rfl, hby, hb9⟩
          have hcv := own_string (P := Tryd.prog) (src := 117) (dst := 9) (e := 5) Tryd.underlying117 Tryd.underlying5 Tryd.underlying9 hby
          have BE := Aside0.mk hb9
          clear hb9 hby
          go_wp2
          go_ret
          refine ⟨?_, BE.out⟩
          have ht := TXT.out
          simp only [if_true] at ht
          rw [ht, ← hV, ← HDE.out]
          first
            | rfl
            | (simp only [List.reverse_append, List.reverse_cons, List.reverse_nil, List.nil_append, List.singleton_append]; rfl)
    · have hp1 : 0 < (rs.length : Int) := by omega
      have hrv := val_nonneg ok
      have hrp : 0 < val rs := by
        have h := val_ge ok ti (by rintro rfl; simp at hp)
        have := pow_pos' (rs.length - 1)
        omega
      clear ok ti
      go_wp2_with fail
      refine (divide_calls rs [1000000000] _ _ _ SS.out.r SS.out.b OK.out.1 (okd_single (by omega)) OK.out.2 (by intro _; simp) hl (by simp) (by simp)).mono ?_
      rintro e w7 ⟨v1, v2, qs, r2, rfl, hq, hr, oq, or2, eq, er, lq, lr, hb7⟩
      obtain ⟨A3, q3, rfl⟩ := hq.shape
      obtain ⟨A4, q4, rfl⟩ := hr.shape
      have S7 := Aside0.mk (SS.out.below hb7)
      have Q7 := Aside0.mk hq
      have R7 := Aside0.mk hr
      rw [E9.out] at eq er
      have QO := Aside0.mk (And.intro (okd_trim oq) (And.intro (trim_tight qs) (And.intro (show val (trim qs) = val rs / 1000000000 from (val_trim qs).trans eq) (show (trim qs).length ≤ 500000 from by have := trim_length qs; omega))))
      have RO := Aside0.mk (And.intro (okd_trim or2) (And.intro (trim_tight r2) (show val (trim r2) = val rs % 1000000000 from (val_trim r2).trans er)))
      clear hq hr oq or2 eq er lq lr hb7
      go_wp2_with fail
      refine (trimmed_calls _ qs _ Q7.out).mono ?_
      rintro e w8 ⟨v3, rfl, hq3, hw8⟩
      subst w8
      obtain ⟨A5, q5, rfl⟩ := hq3.shape
      have Q3 := Aside0.mk hq3
      clear hq3
      obtain ⟨r0, hr0⟩ : ∃ r0 : Nat, (r0 : Int) = val rs % 1000000000 := ⟨(val rs % 1000000000).toNat, by omega⟩
      have hr1 : r0 < 1000000000 := by omega
      go_wp2_with fail
      refine (trimmed_calls _ r2 _ R7.out).mono ?_
      rintro e w8 ⟨v4, rfl, hr4, hw8⟩
      subst w8
      obtain ⟨v', hv'⟩ : ∃ v' : Nat, v' = (val (trim qs)).toNat := ⟨_, rfl⟩
      have hqn := val_nonneg QO.out.1
      have hsplit : (val rs).toNat = v' * 10 ^ 9 + r0 := by have := QO.out.2.2.1; omega
      have hl5 : ((trim qs).length = 0 ∧ v' = 0) ∨ (0 < (trim qs).length ∧ 0 < v') := by
        rcases Nat.eq_zero_or_pos (trim qs).length with h | h
        · left
          have := List.length_eq_zero_iff.1 h
          rw [this] at hv'
          exact ⟨h, by rw [hv']; rfl⟩
        · right
          have h2 := val_ge QO.out.1 QO.out.2.1 (by intro e; rw [e] at h; simp at h)
          have := pow_pos' ((trim qs).length - 1)
          exact ⟨h, by omega⟩
      have SN := Aside0.mk (show SAt w w7 g (.slice A1 ds.length q1) (.slice A5 (trim qs).length q5) ds (trim qs) from ⟨S7.out.d, Q3.out, S7.out.b, S7.out.lo⟩)
      have DN := Aside0.mk (show Dig V (v' * 10 ^ (9 - 0) + r0) ds from by rw [← hsplit]; exact DG.out)
      have HV := Aside0.mk hv'
      have hvlt : v' < (val rs).toNat := by omega
      clear hsplit hqn hv' R7 Q7 Q3 SS DG S7
      generalize trim qs = q at *
      have ro := RO.out
      clear RO
      generalize trim r2 = t2 at hr4 ro ⊢
      obtain ⟨ro1, ro2, ro3⟩ := ro
      have hlen := tight_length ro1 ro2 (k := 1) (by rw [ro3, ← hr0]; omega)
      rcases t2 with _ | ⟨d, _ | ⟨d2, ds2⟩⟩
      case cons.cons => exact absurd hlen (by simp)
      case' nil =>
        obtain ⟨A6, q6, rfl⟩ := hr4.shape
        have e0 : r0 = 0 := by simp [val] at ro3; omega
        clear ro1 ro2 ro3 hlen hr0 hr4
        simp only [List.length_nil]
        go_wp2
      case' cons.nil =>
        obtain ⟨g4, c4, rfl, hg4⟩ := hr4.form (by simp)
        have hc := (hr4.at_ (k := 0) (by simp)).1
        have e0 : d = (r0 : Int) := by simp [val] at ro3; omega
        subst e0
        simp only [List.getD_cons_zero] at hc
        clear ro1 ro2 ro3 hlen hr0 hr4
        simp only [List.length_singleton]
        go_wp2
      all_goals
        go_loopg [3, 8, 9] 10 (fun fk dv nv iv wr => ∃ i n : Nat, i ≤ 9 ∧ nv = .int .u32 (n : Int) ∧ iv = .int .i64 (i : Int) ∧ n < 10 ^ (9 - i) ∧ 9 - i < fk ∧ Aside0 (∃ es, SAt w wr g dv (.slice A5 q.length q5) es q ∧ Dig V (v' * 10 ^ (9 - i) + n) es))
        case atStart => exact ⟨0, r0, by omega, by first | rfl | (rw [e0]; rfl), rfl, by simpa using hr1, by omega, ⟨_, SN.out, DN.out⟩⟩
        case round =>
          obtain ⟨i, n, hi, rfl, rfl, hn, hfk, ⟨es, hS, hdg⟩⟩ := hrel
          obtain ⟨A7, q7, rfl⟩ := own_slice hS.d
          have SS := Aside0.mk hS
          have DG := Aside0.mk hdg
          clear hS hdg
          have hel : es.length ≤ 100000 := Nat.le_trans DG.out.len HD.out
          have hn3 : n < 1000000000 := Nat.lt_of_lt_of_le hn (Nat.le_trans (Nat.pow_le_pow_right (by omega) (show 9 - i ≤ 9 from by omega)) (by decide))
          by_cases hi9 : i < 9
          · have hI : (i : Int) < 9 := by omega
            by_cases hgo : 0 < n ∨ 0 < q.length
            · obtain ⟨ds1, ds2, ds3⟩ := dig_step (v := v') (n := n) hi9
              have D2 := DG.out.step (ds3 (by omega))
              rw [ds1, ds2] at D2
              have NE := Aside0.mk D2
              have hn2 : n / 10 < 10 ^ (9 - (i + 1)) := by
                have e : (10 : Nat) ^ (9 - i) = 10 ^ (9 - (i + 1)) * 10 := by rw [← Nat.pow_succ]; congr 1; omega
                rw [e] at hn
                generalize (10 : Nat) ^ (9 - (i + 1)) = p at hn ⊢
                omega
              clear D2 ds1 ds2 ds3
              by_cases hn0 : 0 < n
              case' pos =>
                have hN : (0 : Int) < (n : Int) := by omega
                go_wp2_with (((with_reducible refine gate_builtin (b := .append) (xs := #[.tmp 50, .tmp 55]) rfl ?_); at_builtin; refine print_append_num (w0 := w) w.heap.size rfl (.tmp 50) (.tmp 55) 117 5 .u8 1 rfl Tryd.underlying117 info8 (by decide) _ es (48 + (n : Int) % 10) rfl rfl ?aO ?aB ?aS ?aL ?_; (case aO => exact SS.out.d); (case aB => exact SS.out.lo); (case aS => exact SS.out.lo.size); (case aL => omega); intro v9 w9 ho hb9 hg hat; have NX := Aside0.mk (show SAt w w9 g v9 (.slice A5 q.length q5) (es ++ [48 + (n : Int) % 10]) q from ⟨ho, SS.out.r.bytes SS.out.d hg, SS.out.b.bytes SS.out.d hg, hb9⟩); clear ho hb9 hg hat))
              case' neg =>
                have hN : ¬ (0 : Int) < (n : Int) := by omega
                have hQ : (0 : Int) < (q.length : Int) := by omega
                go_wp2_with (((with_reducible refine gate_builtin (b := .append) (xs := #[.tmp 50, .tmp 55]) rfl ?_); at_builtin; refine print_append_num (w0 := w) w.heap.size rfl (.tmp 50) (.tmp 55) 117 5 .u8 1 rfl Tryd.underlying117 info8 (by decide) _ es (48 + (n : Int) % 10) rfl rfl ?aO ?aB ?aS ?aL ?_; (case aO => exact SS.out.d); (case aB => exact SS.out.lo); (case aS => exact SS.out.lo.size); (case aL => omega); intro v9 w9 ho hb9 hg hat; have NX := Aside0.mk (show SAt w w9 g v9 (.slice A5 q.length q5) (es ++ [48 + (n : Int) % 10]) q from ⟨ho, SS.out.r.bytes SS.out.d hg, SS.out.b.bytes SS.out.d hg, hb9⟩); clear ho hb9 hg hat))
              all_goals
                go_roundg (9 - i)
                case rel => exact ⟨i + 1, n / 10, by omega, by first | rfl | (go_num; done) | (simp; done) | (simp; omega), by first | rfl | (go_num; done) | (simp; done), hn2, by omega, ⟨_, NX.out, by have h := NE.out; simpa using h⟩⟩
                case measure => omega
            · have hn0 : n = 0 := by omega
              have hq0 : q.length = 0 := by omega
              have hv0 : v' = 0 := by omega
              have DE := Aside0.mk (show Dig V (val q).toNat es from by have h := DG.out; rw [hv0, hn0] at h; rw [← HV.out, hv0]; simpa using h)
              have hQ : ¬ (0 : Int) < (q.length : Int) := by omega
              subst hn0
              have SX := SS.out
              rw [hq0] at SX
              have SY := Aside0.mk SX
              clear SX
              go_wp2
              go_roundg (v' + 1)
              case rel => exact ⟨⟨es, q, SY.out, QO.out.1, QO.out.2.1, QO.out.2.2.2, DE.out, by have := HV.out; omega⟩⟩
              case measure => omega
          · obtain rfl : i = 9 := by omega
            have hn0 : n = 0 := by simpa using hn
            have DE := Aside0.mk (show Dig V (val q).toNat es from by have h := DG.out; rw [hn0] at h; rw [← HV.out]; simpa using h)
            go_wp2
            go_roundg (v' + 1)
            case rel => exact ⟨⟨es, q, SS.out, QO.out.1, QO.out.2.1, QO.out.2.2.2, DE.out, by have := HV.out; omega⟩⟩
            case measure => omega
theorem string_calls (z : Nat) (n : Int) (m : Nat) (w : World) (hz : Big w z n m) (hm : m ≤ 500000) (hd : (decI n.natAbs).length ≤ 100000) :
    Calls Tryd.prog 55 #[.pointer (some ⟨z, 0, none⟩)] w fun e w' => e = .returned (.string (strOfNums (txt n))) ∧ Below w.heap.size w w' := by
  obtain ⟨neg, xs, A, c, hx, rfl, hl⟩ := hz.opd (by omega)
  refine string_walk z neg xs A c w hx (by omega) ?_
  have h0 := val_nonneg hx.ok
  have e : (bval neg xs).natAbs = (val xs).toNat := by
    cases neg
    · simp only [bval, Bool.false_eq_true, if_false]; omega
    · simp only [bval, if_true]; omega
  rw [e] at hd
  exact hd
end Go.Proofs.YtghhphndbbefjaaDoor.Big
