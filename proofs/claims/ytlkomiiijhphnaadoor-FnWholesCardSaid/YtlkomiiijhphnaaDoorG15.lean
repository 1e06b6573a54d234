/- Functions of the program as plain Lean functions, each with a proof that its call does what that function says. Printed by a program over the kit's print; conditions stand in each contract. -/
import Derived.Test.YtlkomiiijhphnaaDoorProg
import Derived.Below
import Derived.Deep.Draws
import Derived.Deep.AppendLies
import Derived.Maps.AppendAt
import Derived.OwnWalk
import Derived.Laws.BytesArg
import Derived.Laws.MakeOwn
import Derived.Laws.OwnMore
import Derived.Deep.OwnRows
import Derived.Tactics
import Derived.Lib.ConvBytes
import Derived.Laws.Slices
import Derived.WalkKit
import Derived.KernelRfl
import Derived.RowKit3
import Derived.Deep.LoopGhost
import Derived.Deep.QuietTactic
import Derived.BigQuiet
import Derived.WideLaws
import Derived.Deep.DeepCutAuto
import Derived.Deep.CutBlock
import Derived.Deep.RegionHeld3
import Derived.Laws.Rows
import Derived.Lib.AppendStr
import Derived.ArgAppend
import Derived.Laws.IdiomCopy
import Derived.OrdersHeld
import Derived.Laws.BitsLemmas
import Derived.RowKit
import Derived.Test.YtlkomiiijhphnaaDoorWWords
import Derived.Test.YtlkomiiijhphnaaDoorWLast
import Derived.Test.YtlkomiiijhphnaaDoorG10
import Derived.Test.YtlkomiiijhphnaaDoorG2
import Derived.Test.YtlkomiiijhphnaaDoorWArr
import Derived.Test.YtlkomiiijhphnaaDoorG4
import Derived.Test.YtlkomiiijhphnaaDoorWEqStruct
import Derived.Test.YtlkomiiijhphnaaDoorWRepsOne
import Derived.Test.YtlkomiiijhphnaaDoorG13
import Derived.Test.YtlkomiiijhphnaaDoorWGuard
namespace Go.Proofs.YtlkomiiijhphnaaDoor.X
open Go.RowKit Go.Proofs.YtlkomiiijhphnaaDoorW.PrintWords Go.Proofs.YtlkomiiijhphnaaDoorW.PrintLast Go.Proofs.YtlkomiiijhphnaaDoorW.PrintMore
attribute [local go_sem] max2_int min2_int max_two min_two max_three min_three max_four min_four   -- for this text's walks alone
set_option linter.unusedVariables false
set_option linter.unusedSimpArgs false
def errW : Option Int → Value
 | none => .nilIface
 | some c => .iface 0 (.int .i64 c)
theorem errW_none : errW none = .nilIface := rfl
theorem errW_some (c : Int) : errW (some c) = .iface 0 (.int .i64 c) := rfl
theorem info2 : (Tryd.prog.info? 2).map (fun i => (i.zero, i.size, i.bytes)) = some (some (.int .i64 0), 1, 8) := by kernel_rfl
end Go.Proofs.YtlkomiiijhphnaaDoor.X
namespace Go.Proofs.YtlkomiiijhphnaaDoor.X
open Go.RowKit Go.Proofs.YtlkomiiijhphnaaDoorW.PrintWords Go.Proofs.YtlkomiiijhphnaaDoorW.PrintLast Go.Proofs.YtlkomiiijhphnaaDoorW.PrintMore Go.Proofs.YtlkomiiijhphnaaDoor.Sq
attribute [local go_sem] max2_int min2_int max_two min_two max_three min_three max_four min_four   -- for this text's walks alone
set_option linter.unusedVariables false
set_option linter.unusedSimpArgs false
def laws_big.f (l0 : List Int) : Option (Bool) := some (decide ((l0.length : Int) > 4096))
set_option maxHeartbeats 8000000 in
set_option maxRecDepth 100000 in
theorem laws_big.calls (A0 : Option Addr) (c0 : Nat) (l0 : List Int) (r : Bool) (w : World) (hr0 : Kd.C (Kd.int .u8) w A0 l0.length l0) (hc0 : l0.length ≤ c0) (h : laws_big.f l0 = some r) :
  Calls Tryd.prog 5 #[.slice A0 l0.length c0] w fun e w' => e = .returned (.bool r) ∧ Drawn0 w w' := by
 have HR0 := am_ hr0; have HC0 := am_ hc0; clear hr0 hc0
 have H : (some (decide ((l0.length : Int) > 4096))) = some r := h
 clear h; obtain rfl := Option.some.inj H
 go_enter Tryd.func5, Tryd.ntmps5
 go_wp2
 go_ret
 exact ⟨by first | rfl | (simp; done) | (simp [*]; done), by repeat (first | exact Drawn0.refl _ | apply Drawn0.step)⟩
def IsS91 (w0 W : World) (g : Nat) (f0 : List Int) (f1 : Int) (f2 : Int) : Prop := ∃ A0 c0, W.heap[g]? = some (.cells #[.slice A0 f0.length c0, .int .i64 f1, .int .u64 f2] 91 (0, 0)) ∧ w0.heap.size ≤ g ∧ Kd.C (Kd.int .u8) w0 A0 f0.length f0
theorem IsS91.grown {w0 W : World} {g : Nat} {f0 : List Int} {f1 : Int} {f2 : Int} {W1 : World} {row : Option Nat} (h : IsS91 w0 W g f0 f1 f2) (hw : W.grownBy W1 row) (hne : some g ≠ row) : IsS91 w0 W1 g f0 f1 f2 := by
  obtain ⟨A0, c0, hb, hg, hr0⟩ := h
  exact ⟨A0, c0, blk_grown hb hw hne, hg, hr0⟩
theorem IsS91.own_neN {w0 W : World} {g : Nat} {f0 : List Int} {f1 : Int} {f2 : Int} {α : Type} {d : Kd α} {e : Nat} {base : Nat} {ok : Nat → Prop} {v : Value} {xs : List α} (h : IsS91 w0 W g f0 f1 f2) (ho : Kd.N d e W base ok v xs) (ht : e ≠ 91) : some g ≠ v.ownBlock := by
  obtain ⟨A0, c0, hb, hg, hr0⟩ := h
  exact Kd.N_ne ho hb ht
theorem IsS91.fresh {w0 W : World} {g : Nat} {f0 : List Int} {f1 : Int} {f2 : Int} (h : IsS91 w0 W g f0 f1 f2) : ∀ k, W.heap.size ≤ k → k ≠ g := by
  obtain ⟨A0, c0, hb, hg, hr0⟩ := h
  exact Kd.freshB hb
theorem IsS91.kept {w0 W : World} {g : Nat} {f0 : List Int} {f1 : Int} {f2 : Int} {W1 : World} {S : Nat → Prop} (h : IsS91 w0 W g f0 f1 f2) (hk : Kept W W1 S) (hne : ¬ S g) : IsS91 w0 W1 g f0 f1 f2 := by
  obtain ⟨A0, c0, hb, hg, hr0⟩ := h
  exact ⟨A0, c0, blk_kept hb hk hne, hg, hr0⟩
theorem IsS91.below {w0 W : World} {g : Nat} {f0 : List Int} {f1 : Int} {f2 : Int} {W1 : World} (h : IsS91 w0 W g f0 f1 f2) (hw : Below W.heap.size W W1) : IsS91 w0 W1 g f0 f1 f2 := h.grown (grown_of_below hw none) (by simp)
theorem IsS91.alloc {w0 W : World} {g : Nat} {f0 : List Int} {f1 : Int} {f2 : Int} (h : IsS91 w0 W g f0 f1 f2) (o : Obj) : IsS91 w0 (W.alloc o) g f0 f1 f2 := h.below (below_alloc (Below.refl _ _) o)
theorem IsS91.drewN {w0 W : World} {g : Nat} {f0 : List Int} {f1 : Int} {f2 : Int} (h : IsS91 w0 W g f0 f1 f2) (m : Nat) : IsS91 w0 (W.drewN m) g f0 f1 f2 := h
theorem IsS91.drew {w0 W : World} {g : Nat} {f0 : List Int} {f1 : Int} {f2 : Int} (h : IsS91 w0 W g f0 f1 f2) : IsS91 w0 W.drew g f0 f1 f2 := h
theorem IsS91.at_ {w0 W : World} {g : Nat} {f0 : List Int} {f1 : Int} {f2 : Int} {w' : World} {m : Nat} (hq : W.drewN m = w') (h : IsS91 w0 W g f0 f1 f2) : IsS91 w0 w' g f0 f1 f2 := by subst hq; exact IsS91.drewN h m
theorem IsS91.apart {w0 W : World} {g : Nat} {f0 : List Int} {f1 : Int} {f2 : Int} {α : Type} {d : Kd α} {e : Nat} {base : Nat} {ok : Nat → Prop} {v : Value} {xs : List α} (h : IsS91 w0 W g f0 f1 f2) (ho : d.R e W base ok v xs) (ht : ∀ q, q ∈ e :: d.E → q ≠ 91) : d.R e W base (fun k => ok k ∧ k ≠ g) v xs := by
  obtain ⟨A0, c0, hb, hg, hr0⟩ := h
  exact Kd.R_types ho hb ht
theorem IsS91.own_ne {w0 W : World} {g : Nat} {f0 : List Int} {f1 : Int} {f2 : Int} {α : Type} {d : Kd α} {e : Nat} {base : Nat} {ok : Nat → Prop} {v : Value} {xs : List α} (h : IsS91 w0 W g f0 f1 f2) (ho : d.R e W base ok v xs) (ht : e ≠ 91) : some g ≠ v.ownBlock := by
  obtain ⟨A0, c0, hb, hg, hr0⟩ := h
  exact Kd.R_ne ho hb ht
theorem IsS91.apartQ {w0 W : World} {g : Nat} {f0 : List Int} {f1 : Int} {f2 : Int} {α : Type} {d : Kd α} {e : Nat} {base : Nat} {ok : Nat → Prop} {v : Value} {xs : List α} (h : IsS91 w0 W g f0 f1 f2) (ho : d.Q e W base ok v xs) (ht : ∀ q, q ∈ e :: d.E → q ≠ 91) : d.Q e W base (fun k => ok k ∧ k ≠ g) v xs := by
  obtain ⟨A0, c0, hb, hg, hr0⟩ := h
  exact Kd.Q_types ho hb ht
theorem IsS91.own_neQ {w0 W : World} {g : Nat} {f0 : List Int} {f1 : Int} {f2 : Int} {α : Type} {d : Kd α} {e : Nat} {base : Nat} {ok : Nat → Prop} {v : Value} {xs : List α} (h : IsS91 w0 W g f0 f1 f2) (ho : d.Q e W base ok v xs) (ht : e ≠ 91) : some g ≠ v.ownBlock := by
  obtain ⟨A0, c0, hb, hg, hr0⟩ := h
  exact Kd.Q_ne ho hb ht
theorem IsS91.apartS {w0 W : World} {g : Nat} {f0 : List Int} {f1 : Int} {f2 : Int} {α : Type} {d : Kd α} {e : Nat} {base : Nat} {ok : Nat → Prop} {v : Value} {xs : List α} (h : IsS91 w0 W g f0 f1 f2) (ho : d.S e W base ok v xs) (ht : ∀ q, q ∈ e :: d.E → q ≠ 91) : d.S e W base (fun k => ok k ∧ k ≠ g) v xs := by
  obtain ⟨A0, c0, hb, hg, hr0⟩ := h
  exact Kd.S_types ho hb ht
theorem IsS91.own_neS {w0 W : World} {g : Nat} {f0 : List Int} {f1 : Int} {f2 : Int} {α : Type} {d : Kd α} {e : Nat} {base : Nat} {ok : Nat → Prop} {v : Value} {xs : List α} (h : IsS91 w0 W g f0 f1 f2) (ho : d.S e W base ok v xs) (ht : e ≠ 91) : some g ≠ v.ownBlock := by
  obtain ⟨A0, c0, hb, hg, hr0⟩ := h
  exact Kd.S_ne ho hb ht
theorem IsS91.lt {w0 W : World} {g : Nat} {f0 : List Int} {f1 : Int} {f2 : Int} (h : IsS91 w0 W g f0 f1 f2) : g < W.heap.size := by
  obtain ⟨A0, c0, hb, hg, hr0⟩ := h
  exact blk_lt hb
theorem IsS91.ge {w0 W : World} {g : Nat} {f0 : List Int} {f1 : Int} {f2 : Int} (h : IsS91 w0 W g f0 f1 f2) : w0.heap.size ≤ g := by
  obtain ⟨A0, c0, hb, hg, hr0⟩ := h
  exact hg
theorem IsS91.ne_blk {w0 W : World} {g : Nat} {f0 : List Int} {f1 : Int} {f2 : Int} {a : Nat} {cs : Array Value} {t : TypeId} {fr : Nat × Nat} (h : IsS91 w0 W g f0 f1 f2) (hb2 : W.heap[a]? = some (.cells cs t fr)) (ht : t ≠ 91) : g ≠ a := by
  obtain ⟨A0, c0, hb, hg, hr0⟩ := h
  rintro rfl
  rw [hb] at hb2
  injection hb2 with hb2
  injection hb2 with _ ht2
  exact ht ht2.symm
theorem IsS91.far {w0 W : World} {g : Nat} {f0 : List Int} {f1 : Int} {f2 : Int} {p : Addr} (h : IsS91 w0 W g f0 f1 f2) (hne : g ≠ p.block) (u : Value) : IsS91 w0 (W.setCell p u) g f0 f1 f2 := by
  obtain ⟨A0, c0, hb, hg, hr0⟩ := h
  exact ⟨A0, c0, blk_far hb hne u, hg, hr0⟩
theorem cellS91_0 {W : World} {g : Nat} {A0 : Option Addr} {c0 : Nat} {f0 : List Int} {f1 : Int} {f2 : Int} (h : W.heap[g]? = some (.cells #[.slice A0 f0.length c0, .int .i64 f1, .int .u64 f2] 91 (0, 0))) : W.cell? ⟨g, 0, none⟩ = some (.slice A0 f0.length c0) := (blk_cell h 0).trans rfl
theorem cellS91_1 {W : World} {g : Nat} {A0 : Option Addr} {c0 : Nat} {f0 : List Int} {f1 : Int} {f2 : Int} (h : W.heap[g]? = some (.cells #[.slice A0 f0.length c0, .int .i64 f1, .int .u64 f2] 91 (0, 0))) : W.cell? ⟨g, 1, none⟩ = some (.int .i64 f1) := (blk_cell h 1).trans rfl
theorem IsS91.set_1 {w0 W : World} {g : Nat} {f0 : List Int} {f1 : Int} {f2 : Int} (h : IsS91 w0 W g f0 f1 f2) (x : Int) : IsS91 w0 (W.setCell ⟨g, 1, none⟩ (.int .i64 x)) g f0 x f2 := by
  obtain ⟨A0, c0, hb, hg, hr0⟩ := h
  exact ⟨A0, c0, by simpa using blk_set hb 1 (.int .i64 x), hg, hr0⟩
theorem cellS91_2 {W : World} {g : Nat} {A0 : Option Addr} {c0 : Nat} {f0 : List Int} {f1 : Int} {f2 : Int} (h : W.heap[g]? = some (.cells #[.slice A0 f0.length c0, .int .i64 f1, .int .u64 f2] 91 (0, 0))) : W.cell? ⟨g, 2, none⟩ = some (.int .u64 f2) := (blk_cell h 2).trans rfl
theorem IsS91.set_2 {w0 W : World} {g : Nat} {f0 : List Int} {f1 : Int} {f2 : Int} (h : IsS91 w0 W g f0 f1 f2) (x : Int) : IsS91 w0 (W.setCell ⟨g, 2, none⟩ (.int .u64 x)) g f0 f1 x := by
  obtain ⟨A0, c0, hb, hg, hr0⟩ := h
  exact ⟨A0, c0, by simpa using blk_set hb 2 (.int .u64 x), hg, hr0⟩
theorem IsS91.new (w0 W : World) (A0 : Option Addr) (c0 : Nat) (f0 : List Int) (f1 : Int) (f2 : Int) (hB : Below w0.heap.size w0 W) (hr0 : Kd.C (Kd.int .u8) w0 A0 f0.length f0) : IsS91 w0 (W.alloc (.cells #[.slice A0 f0.length c0, .int .i64 f1, .int .u64 f2] 91)) W.heap.size f0 f1 f2 := ⟨A0, c0, by simpa using heap_alloc_new W _, hB.size, hr0⟩
theorem is_ {w0 w1 : World} {g : Nat} {f0 : List Int} {f1 : Int} {f2 : Int} {P : Prop} (H : Aside0 P) (t : IsS91 w0 w1 g f0 f1 f2 := by repeat (first | (with_reducible first | exact Aside0.out (by assumption) | apply IsS91.alloc | apply IsS91.drewN | apply IsS91.drew | apply IsS91.set_1 | apply IsS91.set_2 | refine IsS91.far ?_ (Aside0.out (by assumption)) _) | exact Aside0.out (by assumption))) : IsS91 w0 w1 g f0 f1 f2 := t
theorem bi_ {w w0 w1 : World} {n : Nat} (H : Aside0 (Below n w w0)) (h : Below n w w1 := by repeat (first | (with_reducible first | exact Aside0.out (by assumption) | apply below_alloc | apply pw_below_drewN | apply below_drew1 | refine below_set ?_ (Aside0.out (by assumption)) | refine below_set ?_ (IsS91.ge (Aside0.out (by assumption)))) | exact Aside0.out (by assumption))) : Below n w w1 := h
theorem hk_ {w w0 w1 : World} {g : Nat} {row : Option Nat} (H : Aside0 (KeepBut w w0 g row)) (h : KeepBut w w1 g row := by repeat (first | (with_reducible first | exact Aside0.out (by assumption) | apply KeepBut.set_ | apply keep_drewN | apply keep_drew | apply keep_alloc | refine keep_far ?_ (Aside0.out (by assumption)) _) | exact Aside0.out (by assumption))) : KeepBut w w1 g row := h
theorem kb_ {w w' : World} {g g' : Nat} {row : Option Nat} {o : Obj} (hk : KeepBut w w' g row) (h : w.heap[g']? = some o) (hn : Aside0 (g' ≠ g)) (hr : some g' ≠ row := by simp) : w'.heap[g']? = some o := KeepBut.blk hk h hn.out hr
def spec_l01From.l0 : Nat → List Int → Int → List Int → Int → Int → Option (List Int × Int × Int)
  | 0, _, _, _, _, _ => none
  | k + 1, x0, x4, x102000, x102001, x102002 => if x4 < (x0.length : Int) then (if x4 < 4096 then (if 0 ≤ x4 then (spec_l01From.l0 k x0 (wrap64 (x4 + 1)) x102000 x102001 (IntKind.u64.wrap ((IntKind.u64.wrap ((IntKind.u64.wrap (x102002 * 1099511628211)) + (IntKind.u64.wrap (rd x0 x4)))) + 11))) else (none)) else (some (x102000, x102001, x102002))) else (some (x102000, x102001, x102002))
def spec_l01From.f (k : Nat) (l0 : List Int) : Option (List Int × Int × Int) := spec_l01From.l0 k l0 0 l0 0 (IntKind.u64.wrap (6737 + (IntKind.u64.wrap ((l0.length : Int)))))
def spec_l01From.T5 : Bool × List (List Nat × List Nat) := (true, [([], []), ([], []), ([1], [1]), ([2], [2]), ([3], [3]), ([4], [4]), ([], []), ([], []), ([6, 7], [6, 7]), ([8], [8]), ([9], [9]), ([5, 10], [5, 10]), ([11], [11]), ([0, 0, 1, 2, 3, 4, 5, 6, 7, 8, 9, 10, 11, 12], [0]), ([13, 0, 1, 2, 3, 4, 5, 6, 7, 8, 9, 10, 11, 12], [13]), ([14, 12, 0, 1, 2, 3, 4, 5, 6, 7, 8, 9, 10, 11, 12], [12, 14])])
def spec_l01From.B5 : List Nat := [0, 0, 2, 6, 14, 30, 0, 0, 192, 448, 960, 2046, 4094, 8191, 16383, 32767]
theorem spec_l01From.tab5 : rtab .any (opsOf Tryd.f57 5) = spec_l01From.T5 := by kernel_rfl
theorem spec_l01From.bits5 : waitsOk spec_l01From.T5.2 spec_l01From.B5 = true := by kernel_rfl
set_option maxHeartbeats 8000000 in
set_option maxRecDepth 100000 in
theorem spec_l01From.callsW (k : Nat) (A0 : Option Addr) (c0 : Nat) (l0 : List Int) (r1 : List Int) (r2 : Int) (r3 : Int) (w : World) (hr0 : Kd.C (Kd.int .u8) w A0 l0.length l0) (hc0 : l0.length ≤ c0) (h : spec_l01From.f k l0 = some (r1, r2, r3)) :
  Calls Tryd.prog 57 #[.slice A0 l0.length c0] w fun e w' => ∃ g_ : Nat, e = .returned (.pointer (some ⟨g_, 0, none⟩)) ∧ (∀ v0 : World, Below v0.heap.size v0 w → Kd.C (Kd.int .u8) v0 A0 l0.length l0 → IsS91 v0 w' g_ r1 r2 r3) ∧ Below w.heap.size w w' ∧ Below w.heap.size w w' := by
 have hB := Below.refl w.heap.size w
 have hu91 := Tryd.underlying91; have HR0 := am_ hr0; have HC0 := am_ hc0; clear hr0 hc0; have HBW := am_ (Below.refl w.heap.size w); have HW0 := am_ hB.size; have HB := am_ hB; clear hB
 have H : (spec_l01From.l0 k l0 0 l0 0 (IntKind.u64.wrap (6737 + (IntKind.u64.wrap ((l0.length : Int)))))) = some (r1, r2, r3) := h
 clear h
 have H' := am_ H
 clear H
 go_enter Tryd.func57, Tryd.ntmps57
 go_wp2_with (first | ((with_reducible refine gate_dst (N := 11) rfl ?_); refine box_event ?hg (N := 11) ?hd (cs := #[.slice A0 l0.length c0, .int .i64 0, .int .u64 (IntKind.u64.wrap (6737 + (IntKind.u64.wrap ((l0.length : Int)))))]) (t := 91) ?hr ?_; (case hd => rfl); (case hg => rfl); (case hr => first | (go_simp; done) | (go_simp; rfl)); intro gb101 hg w2 hbox hb; have BK101 := am_ (hbox); have GW101 := am_ ((by rw [hg]; exact (below_size (bl_ HBW)) : w.heap.size ≤ gb101)); have GE101 := am_ ((Nat.le_trans HW0.out (by rw [hg]; exact (below_size (bl_ HBW)) : w.heap.size ≤ gb101) : w.heap.size ≤ gb101)); replace HBW := am_ (below_step HBW.out hb); replace HB := bs_ HB hb; clear hb hbox hg))
 go_loopg [4] k (fun kq v4 w' => ∃ (x4_1 : Int) (x102002_1 : Int), v4 = .int .i64 x4_1 ∧ Aside0 (spec_l01From.l0 kq l0 x4_1 l0 0 x102002_1 = some (r1, r2, r3)) ∧ Aside0 (kq ≤ k) ∧ Aside0 (w'.heap[gb101]? = some (.cells #[(.slice A0 l0.length c0), .int .i64 0, .int .u64 x102002_1] 91 (0, 0))) ∧ Aside0 (Below w.heap.size w w'))
 case atStart => exact ⟨(0), (IntKind.u64.wrap (6737 + (IntKind.u64.wrap ((l0.length : Int))))), (by first | rfl | (simp; done) | (simp [*]; done)), H', ⟨Nat.le_refl _⟩, ⟨bk_ BK101⟩, ⟨bl_ HB⟩⟩
 case round =>
  clear H'; try clear p2
  obtain ⟨x4_1, x102002_1, rfl, HA, HK1, BK101, HB⟩ := hrel
  cases gk with
  | zero => exact absurd HA.out (by simp [spec_l01From.l0])
  | succ k1 =>
   have H := HA.out; clear HA
   simp only [spec_l01From.l0] at H
   by_cases c3 : x4_1 < (l0.length : Int)
   ·rw [if_pos c3] at H
    have c3b0 : decide (x4_1 < (l0.length : Int)) = true := decide_eq_true c3
    clear c3
    by_cases c4 : x4_1 < 4096
    ·rw [if_pos c4] at H
     have c4b0 : decide (x4_1 < 4096) = true := decide_eq_true c4
     clear c4
     by_cases c5 : 0 ≤ x4_1
     ·rw [if_pos c5] at H
      have c5b0 : decide (0 ≤ x4_1) = true := decide_eq_true c5
      clear c5
      have H' := am_ H
      clear H
      try go_wp2
      replace BK101 := am_ (blk_drew BK101.out); replace HB := am_ (below_drew1 HB.out)
      have p102 : 0 ≤ (x4_1 : Int) := of_decide_eq_true (by first | (with_reducible assumption) | assumption)
      have q102 : x4_1 < (l0.length : Int) := of_decide_eq_true (by first | (with_reducible assumption) | assumption)
      obtain ⟨ad102, e102, hx102_0⟩ := Kd.at_int HR0.out x4_1 p102 q102
      have hw102_0 := hx102_0
      cases e102
      replace hx102_0 := pw_cell_below HB.out hx102_0
      replace p102 := eq_true p102
      replace q102 := eq_true q102
      refine start_ (n := 16) (S := fun w' => w'.cell? ⟨gb101, 0, none⟩ = some (.slice (some ad102) l0.length c0) ∧ w'.cell? ⟨gb101, 1, none⟩ = some (.int .i64 0) ∧ w'.cell? ⟨gb101, 2, none⟩ = some (.int .u64 x102002_1) ∧ w'.cell? (ad102.add (x4_1).toNat) = some (.int .u8 (rd l0 x4_1))) (ds := [15]) #[false, false, false, false, false, false, false, false, false, false, false, false, false, false, false, false] (by kernel_rfl) rfl rfl ⟨bc_ BK101 0, bc_ BK101 1, bc_ BK101 2, ((HB.out.cell (World.block_lt_of_cell? _ _ hw102_0)).trans hw102_0)⟩ (fun hHeld => ?_); refine with_tabW spec_l01From.tab5 spec_l01From.bits5 (fun HT_ HW_ => ?_)
      generalize wr.drew = w6 at BK101 HB hx102_0 hHeld ⊢
      refine pu_ #[true, false, false, false, false, false, false, false, false, false, false, false, false, false, false, false] 0 22 (any_of HT_.out (by kernel_rfl)) ?_
      refine pu_ #[true, true, false, false, false, false, false, false, false, false, false, false, false, false, false, false] 1 23 (any_of HT_.out (by kernel_rfl)) ?_
      refine pu_ #[true, true, true, false, false, false, false, false, false, false, false, false, false, false, false, false] 2 24 (any_of HT_.out (by kernel_rfl)) ?_
      refine pu_ #[true, true, true, true, false, false, false, false, false, false, false, false, false, false, false, false] 3 25 (any_of HT_.out (by kernel_rfl)) ?_
      refine pu_ #[true, true, true, true, false, false, true, false, false, false, false, false, false, false, false, false] 6 28 (any_of HT_.out (by kernel_rfl)) ?_
      refine pu_ #[true, true, true, true, false, false, true, true, false, false, false, false, false, false, false, false] 7 29 (any_of HT_.out (by kernel_rfl)) ?_
      refine pu_ #[true, true, true, true, false, false, true, true, true, false, false, false, false, false, false, false] 8 30 (any_of HT_.out (by kernel_rfl)) ?_
      refine tk_ #[true, true, true, true, true, false, true, true, true, false, false, false, false, false, false, false] 4 26 (take_ofW HT_.out HW_.out (by kernel_rfl)) hHeld ?_
      refine pu_ #[true, true, true, true, true, true, true, true, true, false, false, false, false, false, false, false] 5 27 (any_of HT_.out (by kernel_rfl)) ?_
      refine tk_ #[true, true, true, true, true, true, true, true, true, true, false, false, false, false, false, false] 9 31 (take_ofW HT_.out HW_.out (by kernel_rfl)) hHeld ?_
      refine pu_ #[true, true, true, true, true, true, true, true, true, true, true, false, false, false, false, false] 10 32 (any_of HT_.out (by kernel_rfl)) ?_
      refine pu_ #[true, true, true, true, true, true, true, true, true, true, true, true, false, false, false, false] 11 33 (any_of HT_.out (by kernel_rfl)) ?_
      refine pu_ #[true, true, true, true, true, true, true, true, true, true, true, true, true, false, false, false] 12 34 (any_of HT_.out (by kernel_rfl)) ?_
      refine pu_ #[true, true, true, true, true, true, true, true, true, true, true, true, true, true, false, false] 13 35 (any_of HT_.out (by kernel_rfl)) ?_
      refine pu_ #[true, true, true, true, true, true, true, true, true, true, true, true, true, true, true, false] 14 36 (any_of HT_.out (by kernel_rfl)) ?_
      refine last_ (i := 15) (N := none) #[true, true, true, true, true, true, true, true, true, true, true, true, true, true, true, true] rfl rfl (one_of HT_.out (by kernel_rfl)) (by decide) (fun K hK => ?_)
      have hs7 : w6.cell? ⟨gb101, 2, none⟩ = some (.int .u64 x102002_1) := bc_ BK101 2
      have hfs7 := blk_frozen BK101.out 2
      refine skip_ (w1 := ?_) (by rfl) rfl ?_ ?_
      rotate_left
      ·go_simp
       rfl
      refine hK.out _ _ ?_
      clear hK K
      refine done_ (done_of HT_.out (by kernel_rfl)) ?_
      try go_wp2
      go_roundg k1
      case measure => have := HK1.out; omega
      case rel => exact ⟨(wrap64 (x4_1 + 1)), (IntKind.u64.wrap ((IntKind.u64.wrap ((IntKind.u64.wrap (x102002_1 * 1099511628211)) + (IntKind.u64.wrap (rd l0 x4_1)))) + 11)), (by first | rfl | (simp; done) | (simp [*]; done)), H', ⟨by have := HK1.out; omega⟩, ⟨by (with_reducible repeat (first | refine blk_drewN ?_ _ | refine blk_drew ?_ | refine blk_alloc ?_ _)); refine blk_put (cs := #[.slice (some ad102) l0.length c0, .int .i64 0, .int .u64 x102002_1]) ?_ 2 _ rfl; (with_reducible repeat (first | refine blk_drewN ?_ _ | refine blk_drew ?_ | refine blk_alloc ?_ _)); exact BK101.out⟩, ⟨bl_ HB⟩⟩
     ·rw [if_neg c5] at H
      exact absurd H (by simp)
    ·rw [if_neg c4] at H
     have c4b0 : decide (x4_1 < 4096) = false := decide_eq_false c4
     clear c4
     simp only [Option.some.injEq, Prod.mk.injEq] at H
     obtain ⟨rfl, rfl, rfl⟩ := H
     go_wp2
     go_ret
     exact ⟨_, rfl, (fun v0 hv hc => show IsS91 v0 _ gb101 l0 0 x102002_1 from ⟨_, _, by (with_reducible repeat (first | refine blk_drewN ?_ _ | refine blk_drew ?_ | refine blk_alloc ?_ _)); exact BK101.out, Nat.le_trans hv.size GE101.out, hc⟩), bl_ HB, bl_ HB⟩
   ·rw [if_neg c3] at H
    have c3b0 : decide (x4_1 < (l0.length : Int)) = false := decide_eq_false c3
    clear c3
    simp only [Option.some.injEq, Prod.mk.injEq] at H
    obtain ⟨rfl, rfl, rfl⟩ := H
    go_wp2
    go_ret
    exact ⟨_, rfl, (fun v0 hv hc => show IsS91 v0 _ gb101 l0 0 x102002_1 from ⟨_, _, by (with_reducible repeat (first | refine blk_drewN ?_ _ | refine blk_drew ?_ | refine blk_alloc ?_ _)); exact BK101.out, Nat.le_trans hv.size GE101.out, hc⟩), bl_ HB, bl_ HB⟩
theorem spec_l01From.calls (k : Nat) (A0 : Option Addr) (c0 : Nat) (l0 : List Int) (r1 : List Int) (r2 : Int) (r3 : Int) (w0 w : World) (hB : Below w0.heap.size w0 w) (hr0 : Kd.C (Kd.int .u8) w0 A0 l0.length l0) (hc0 : l0.length ≤ c0) (h : spec_l01From.f k l0 = some (r1, r2, r3)) :
  Calls Tryd.prog 57 #[.slice A0 l0.length c0] w fun e w' => ∃ g_ : Nat, e = .returned (.pointer (some ⟨g_, 0, none⟩)) ∧ IsS91 w0 w' g_ r1 r2 r3 ∧ Below w0.heap.size w0 w' ∧ Below w.heap.size w w' := by
 refine (spec_l01From.callsW k A0 c0 l0 r1 r2 r3 w (Kd.C_below hr0 hB) hc0 h).mono ?_
 rintro e w' ⟨g, he, hI, hb, -⟩
 exact ⟨g, he, hI w0 hB hr0, hB.trans (hb.mono hB.size), hb⟩
def spec_l01Next.f (s0_0 : List Int) (s0_1 : Int) (s0_2 : Int) (a1 : Int) : Option (Int × Int × Int) := if a1 < 1 then (some (0, s0_1, s0_2)) else (if s0_1 < (s0_0.length : Int) then (if 0 ≤ s0_1 then (if a1 = 0 then (none) else (some (Int.tmod (wrap64 ((wrap64 (Go.bits .and .u64 ((IntKind.u64.wrap ((IntKind.u64.wrap (s0_2 * 6364136223846793005)) + 1442695040888963407)) / 8589934592) 16777215)) + (wrap64 (rd s0_0 s0_1)))) a1, wrap64 (s0_1 + 1), IntKind.u64.wrap ((IntKind.u64.wrap (s0_2 * 6364136223846793005)) + 1442695040888963407)))) else (none)) else (if a1 = 0 then (none) else (some (Int.tmod (wrap64 (Go.bits .and .u64 ((IntKind.u64.wrap ((IntKind.u64.wrap (s0_2 * 6364136223846793005)) + 1442695040888963407)) / 8589934592) 16777215)) a1, s0_1, IntKind.u64.wrap ((IntKind.u64.wrap (s0_2 * 6364136223846793005)) + 1442695040888963407)))))
set_option maxHeartbeats 8000000 in
set_option maxRecDepth 100000 in
theorem spec_l01Next.calls (g : Nat) (s0_0 : List Int) (s0_1 : Int) (s0_2 : Int) (a1 : Int) (r1 : Int) (r2 : Int) (r3 : Int) (w0 w : World) (hI : IsS91 w0 w g s0_0 s0_1 s0_2) (hB : Below w0.heap.size w0 w) (h : spec_l01Next.f s0_0 s0_1 s0_2 a1 = some (r1, r2, r3)) :
  Calls Tryd.prog 59 #[.pointer (some ⟨g, 0, none⟩), .int .i64 a1] w fun e w' => e = .returned (.int .i64 r1) ∧ IsS91 w0 w' g s0_0 r2 r3 ∧ Below w0.heap.size w0 w' ∧ KeepBut w w' g none := by
 have HI0 := am_ hI; have HK := am_ (KeepBut.refl w g none); have HL := am_ hB.size; clear hI; have HW0 := am_ hB.size; have HB := am_ hB; clear hB
 have H : (if a1 < 1 then (some (0, s0_1, s0_2)) else (if s0_1 < (s0_0.length : Int) then (if 0 ≤ s0_1 then (if a1 = 0 then (none) else (some (Int.tmod (wrap64 ((wrap64 (Go.bits .and .u64 ((IntKind.u64.wrap ((IntKind.u64.wrap (s0_2 * 6364136223846793005)) + 1442695040888963407)) / 8589934592) 16777215)) + (wrap64 (rd s0_0 s0_1)))) a1, wrap64 (s0_1 + 1), IntKind.u64.wrap ((IntKind.u64.wrap (s0_2 * 6364136223846793005)) + 1442695040888963407)))) else (none)) else (if a1 = 0 then (none) else (some (Int.tmod (wrap64 (Go.bits .and .u64 ((IntKind.u64.wrap ((IntKind.u64.wrap (s0_2 * 6364136223846793005)) + 1442695040888963407)) / 8589934592) 16777215)) a1, s0_1, IntKind.u64.wrap ((IntKind.u64.wrap (s0_2 * 6364136223846793005)) + 1442695040888963407)))))) = some (r1, r2, r3) := h
 clear h
 by_cases c3 : a1 < 1
 ·rw [if_pos c3] at H
  have c3b0 : decide (a1 < 1) = true := decide_eq_true c3
  clear c3
  simp only [Option.some.injEq, Prod.mk.injEq] at H
  obtain ⟨rfl, rfl, rfl⟩ := H
  go_enter Tryd.func59, Tryd.ntmps59
  go_wp2
  repeat (go_quiet (fail); try go_wp2)
  go_ret
  exact ⟨by first | rfl | (simp [errW_none, errW_some] <;> rfl) | (simp [*, errW_none, errW_some] <;> rfl), is_ HI0, bi_ HB, hk_ HK⟩
 ·rw [if_neg c3] at H
  have c3b0 : decide (a1 < 1) = false := decide_eq_false c3
  clear c3
  by_cases c4 : s0_1 < (s0_0.length : Int)
  ·rw [if_pos c4] at H
   have c4b0 : decide (s0_1 < (s0_0.length : Int)) = true := decide_eq_true c4
   clear c4
   by_cases c5 : 0 ≤ s0_1
   ·rw [if_pos c5] at H
    have c5b0 : decide (0 ≤ s0_1) = true := decide_eq_true c5
    clear c5
    by_cases c6 : a1 = 0
    ·rw [if_pos c6] at H
     exact absurd H (by simp)
    ·rw [if_neg c6] at H
     have c6b0 : (a1 == 0) = false := beq_eq_false_iff_ne.mpr c6
     have c6b1 : (a1 != 0) = true := bne_iff_ne.mpr c6
     simp only [Option.some.injEq, Prod.mk.injEq] at H
     obtain ⟨rfl, rfl, rfl⟩ := H
     obtain ⟨ASz7_0, cSz7_0, HGz7, hgz7, HSz7_0⟩ := HI0.out
     have hcz7_0 := cellS91_0 HGz7; have hcz7_1 := cellS91_1 HGz7; have hcz7_2 := cellS91_2 HGz7; have hfz7_1 := blk_frozen HGz7 1; have hfz7_2 := blk_frozen HGz7 2; clear HGz7 hgz7
     have p103 : 0 ≤ (s0_1 : Int) := of_decide_eq_true (by first | (with_reducible assumption) | assumption)
     have q103 : s0_1 < (s0_0.length : Int) := of_decide_eq_true (by first | (with_reducible assumption) | assumption)
     obtain ⟨ad103, e103, hx103_0⟩ := Kd.at_int HSz7_0 s0_1 p103 q103
     cases e103
     have hn103_0 : ad103.block ≠ g := Nat.ne_of_lt (Nat.lt_of_lt_of_le (by have := World.block_lt_of_cell? _ _ hx103_0; first | rwa [add_block] at this | exact this) (IsS91.ge HI0.out))
     replace hx103_0 := pw_cell_below HB.out hx103_0
     replace hx103_0 := (cell_far (p := ⟨g, 2, none⟩) (by first | (rw [add_block]; exact hn103_0) | (show (Addr.add _ _).block ≠ _; rw [add_block]; exact hn103_0) | exact hn103_0) (.int .u64 (IntKind.u64.wrap ((IntKind.u64.wrap (s0_2 * 6364136223846793005)) + 1442695040888963407)))).trans hx103_0
     (try have hy103_0 := fun (n_ : Nat) => (show (((w.drewN n_).setCell ⟨g, 2, none⟩ (.int .u64 (IntKind.u64.wrap ((IntKind.u64.wrap (s0_2 * 6364136223846793005)) + 1442695040888963407))))).cell? _ = some _ from hx103_0))
     clear hn103_0
     replace p103 := eq_true p103
     replace q103 := eq_true q103
     go_enter Tryd.func59, Tryd.ntmps59
     go_wp2
     repeat (go_quiet (fail); try go_wp2)
     go_ret
     exact ⟨by first | rfl | (simp [errW_none, errW_some] <;> rfl) | (simp [*, errW_none, errW_some] <;> rfl), is_ HI0, bi_ HB, hk_ HK⟩
   ·rw [if_neg c5] at H
    exact absurd H (by simp)
  ·rw [if_neg c4] at H
   have c4b0 : decide (s0_1 < (s0_0.length : Int)) = false := decide_eq_false c4
   clear c4
   by_cases c8 : a1 = 0
   ·rw [if_pos c8] at H
    exact absurd H (by simp)
   ·rw [if_neg c8] at H
    have c8b0 : (a1 == 0) = false := beq_eq_false_iff_ne.mpr c8
    have c8b1 : (a1 != 0) = true := bne_iff_ne.mpr c8
    simp only [Option.some.injEq, Prod.mk.injEq] at H
    obtain ⟨rfl, rfl, rfl⟩ := H
    obtain ⟨ASz9_0, cSz9_0, HGz9, hgz9, HSz9_0⟩ := HI0.out
    have hcz9_0 := cellS91_0 HGz9; have hcz9_1 := cellS91_1 HGz9; have hcz9_2 := cellS91_2 HGz9; have hfz9_1 := blk_frozen HGz9 1; have hfz9_2 := blk_frozen HGz9 2; clear HGz9 hgz9
    go_enter Tryd.func59, Tryd.ntmps59
    go_wp2
    repeat (go_quiet (fail); try go_wp2)
    go_ret
    exact ⟨by first | rfl | (simp [errW_none, errW_some] <;> rfl) | (simp [*, errW_none, errW_some] <;> rfl), is_ HI0, bi_ HB, hk_ HK⟩
def spec_l01Pick.f (s0_0 : List Int) (s0_1 : Int) (s0_2 : Int) (l1 : List Int) : Option (Int × Int × Int) := (spec_l01Next.f s0_0 s0_1 s0_2 (l1.length : Int)).bind fun bt104 => (if 0 ≤ bt104.1 then (if bt104.1 < (l1.length : Int) then (some (rd l1 bt104.1, bt104.2.1, bt104.2.2)) else (none)) else (none))
set_option maxHeartbeats 8000000 in
set_option maxRecDepth 100000 in
theorem spec_l01Pick.calls (g : Nat) (s0_0 : List Int) (s0_1 : Int) (s0_2 : Int) (A1 : Option Addr) (c1 : Nat) (l1 : List Int) (r1 : Int) (r2 : Int) (r3 : Int) (w0 w : World) (hI : IsS91 w0 w g s0_0 s0_1 s0_2) (hB : Below w0.heap.size w0 w) (hr1 : Kd.C (Kd.int .i64) w A1 l1.length l1) (hc1 : l1.length ≤ c1) (hf1 : ∀ ad, A1 = some ad → 0 < l1.length → ad.block ≠ g) (h : spec_l01Pick.f s0_0 s0_1 s0_2 l1 = some (r1, r2, r3)) :
  Calls Tryd.prog 58 #[.pointer (some ⟨g, 0, none⟩), .slice A1 l1.length c1] w fun e w' => e = .returned (.int .i64 r1) ∧ IsS91 w0 w' g s0_0 r2 r3 ∧ Below w0.heap.size w0 w' ∧ KeepBut w w' g none := by
 have HR1 := am_ hr1; have HC1 := am_ hc1; clear hr1 hc1; have HI0 := am_ hI; have HK := am_ (KeepBut.refl w g none); have HL := am_ hB.size; clear hI; have HW0 := am_ hB.size; have HB := am_ hB; clear hB
 have H : ((spec_l01Next.f s0_0 s0_1 s0_2 (l1.length : Int)).bind fun bt104 => (if 0 ≤ bt104.1 then (if bt104.1 < (l1.length : Int) then (some (rd l1 bt104.1, bt104.2.1, bt104.2.2)) else (none)) else (none))) = some (r1, r2, r3) := h
 clear h
 replace H := Option.bind_eq_some_iff.mp H
 obtain ⟨⟨t104, t105, t106⟩, A30, H⟩ := H
 try dsimp only at H
 have A3 := am_ A30; clear A30
 by_cases c4 : 0 ≤ t104
 ·rw [if_pos c4] at H
  have c4b0 : decide (0 ≤ t104) = true := decide_eq_true c4
  clear c4
  by_cases c5 : t104 < (l1.length : Int)
  ·rw [if_pos c5] at H
   have c5b0 : decide (t104 < (l1.length : Int)) = true := decide_eq_true c5
   clear c5
   simp only [Option.some.injEq, Prod.mk.injEq] at H
   obtain ⟨rfl, rfl, rfl⟩ := H
   go_enter Tryd.func58, Tryd.ntmps58
   go_wp2_with (first | ((with_reducible refine gate_callee (f := 59) rfl ?_); refine goesL_ (some 9) rfl rfl Tryd.func59 (by kernel_rfl) rfl #[.pointer (some ⟨g, 0, none⟩), .int .i64 (l1.length : Int)] rfl ma_ ?_; (with_reducible refine (spec_l01Next.calls g s0_0 s0_1 s0_2 (l1.length : Int) t104 t105 t106 w0 _ ?side1 ?side2 A3.out).mono ?_); (case side1 => exact is_ HI0); (case side2 => exact bi_ HB); rintro e w6 ⟨rfl, hi, hb, hk⟩; refine ⟨_, rfl, ?_⟩; replace HK := am_ (KeepBut.trans (hk_ HK) hk (.inl rfl)); replace HI0 := am_ (hi); replace HB := am_ (hb); (try clear hb); (try clear hk); (try clear hi); have p107 : 0 ≤ (t104 : Int) := of_decide_eq_true (by first | (with_reducible assumption) | assumption); have q107 : t104 < (l1.length : Int) := of_decide_eq_true (by first | (with_reducible assumption) | assumption); obtain ⟨ad107, e107, hx107_0⟩ := Kd.at_int HR1.out t104 p107 q107; cases e107; replace hx107_0 := keep_cell HK.out hx107_0 (by first | (rw [add_block]; exact hf1 _ rfl (by omega)) | exact hf1 _ rfl (by omega) | exact hf1 ad107 rfl (by omega)); replace p107 := eq_true p107; replace q107 := eq_true q107))
   go_ret
   exact ⟨by first | rfl | (simp [errW_none, errW_some] <;> rfl) | (simp [*, errW_none, errW_some] <;> rfl), is_ HI0, bi_ HB, hk_ HK⟩
  ·rw [if_neg c5] at H
   exact absurd H (by simp)
 ·rw [if_neg c4] at H
  exact absurd H (by simp)
def spec_l01Own.f (l0 : List Int) : Option (List Int) := (some (([] : List Int) : List Int)).bind fun y108 => (if y108.length + l0.length < 17592186044416 then (some (y108 ++ l0)) else (none))
set_option maxHeartbeats 8000000 in
set_option maxRecDepth 100000 in
theorem spec_l01Own.calls (A0 : Option Addr) (c0 : Nat) (l0 : List Int) (r : List Int) (w : World) (hr0 : Kd.C (Kd.int .i64) w A0 l0.length l0) (hc0 : l0.length ≤ c0) (h : spec_l01Own.f l0 = some r) :
  Calls Tryd.prog 102 #[.slice A0 l0.length c0] w fun e w' => ∃ v0_ : Value, e = .returned (v0_) ∧ Kd.R (Kd.int .i64) 2 w' w.heap.size (fun _ => True) v0_ r ∧ Below w.heap.size w w' := by
 have HR0 := am_ hr0; have HC0 := am_ hc0; clear hr0 hc0; have HB := am_ (Below.refl w.heap.size w)
 have H : ((some (([] : List Int) : List Int)).bind fun y108 => (if y108.length + l0.length < 17592186044416 then (some (y108 ++ l0)) else (none))) = some r := h
 clear h
 obtain ⟨y108, hy108⟩ : ∃ y_ : List Int, y_ = (([] : List Int)) := ⟨_, rfl⟩
 replace H : (if y108.length + l0.length < 17592186044416 then (some (y108 ++ l0)) else (none)) = some r := by first | (rw [hy108]; with_reducible exact H) | (have H2_ := (Option.bind_some _ _).symm.trans H; rw [hy108]; with_reducible exact H2_) | (have H2_ := (Option.bind_some _ _).symm.trans H; with_reducible exact H2_) | with_reducible exact H | (rw [hy108]; exact H) | exact H
 have Ny108 := am_ hy108; clear hy108
 by_cases c2 : y108.length + l0.length < 17592186044416
 ·rw [if_pos c2] at H
  have LMc2 := am_ c2; clear c2
  obtain ⟨y111, hy111⟩ : ∃ y_ : List Int, y_ = (y108 ++ l0) := ⟨_, rfl⟩
  replace H : (some y111) = some r := by first | (rw [hy111]; with_reducible exact H) | (have H2_ := (Option.bind_some _ _).symm.trans H; rw [hy111]; with_reducible exact H2_) | (have H2_ := (Option.bind_some _ _).symm.trans H; with_reducible exact H2_) | with_reducible exact H | (rw [hy111]; exact H) | exact H
  have Ny111 := am_ hy111; clear hy111; obtain rfl := Option.some.inj H
  go_enter Tryd.func102, Tryd.ntmps102
  go_wp2_with (first | ((with_reducible refine gate_dst (N := 3) rfl ?_); refine Kd.R_lit (Kd.int .i64) _ 2 ?hg (N := 3) ?hd (xs := ([] : List Int)) (inner := []) (ok := fun _ => True) (okp := fun _ => True) ?hr ?hp (fun _ hk => hk) trivial (Below.refl _ _) (Nat.le_refl _) (by simp) ?_; (case hd => rfl); (case hg => rfl); (case hr => first | (go_simp; done) | (go_simp; rfl)); (case hp => exact (Reps.none _ _)); intro v109 w3 ho4 hb hg_ hnew_; clear hg_ hnew_; (first | rw [← Ny108.out] at ho4 | (simp only [Int.reduceToNat] at ho4; rw [← Ny108.out] at ho4)); have HO110 := am_ (Kd.R_lower ho4 (below_size (bl_ HB))); replace HB := bs_ HB hb; clear hb ho4) | ((with_reducible refine gate_builtin (b := .append) (xs := #[.tmp 3, .tmp 4]) rfl ?_); at_builtin; refine Kd.R_append_rows (Kd.int .i64) (w0 := w) w.heap.size rfl (.tmp 3) (.tmp 4) 24 2 (.int .i64 0) 8 rfl Tryd.underlying24 info2 rfl (by decide) (by omega) v109 y108 l0 _ _ _ (fun _ => True) (fun _ => False) rfl rfl ?aO ?aR (fun _ _ h => h) (fun _ h => h.elim) ?aF ?aB ?aS ?aL ?_; (case aR => repeat (first | exact (Kd.C_below HR0.out HB.out) | (with_reducible refine Kd.C_alloc ?_ _) | (with_reducible refine Kd.C_drewN ?_ _) | (with_reducible refine Kd.C_drew ?_))); (case aB => exact (bl_ HB)); (case aF => exact (fun _ _ => trivial)); (case aO => exact (kr_ HO110)); (case aS => exact (below_size (bl_ HB))); (case aL => have := LMc2.out; omega); intro v112 w5 ho hb hg hat; rw [← Ny111.out] at ho; have n0_ := am_ (hb); have n1_ := am_ (ho); clear HB; clear HO110; have HB := n0_; have HO113 := n1_; clear n0_ n1_; clear ho hb hg hat))
  go_ret
  exact ⟨_, by first | rfl | (simp [errW_none, errW_some] <;> rfl) | (simp [*, errW_none, errW_some] <;> rfl), by (with_reducible repeat (first | apply Kd.R_alloc | apply Kd.R_drewN | apply Kd.R_drew)); exact HO113.out, bl_ HB⟩
 ·rw [if_neg c2] at H
  exact absurd H (by simp)
def spec_l02Make.l0 : Nat → Int → List Int → Int → Option (Int × List Int)
  | 0, _, _, _ => none
  | k + 1, x0, x1, x5 => if x5 > 0 then (if 0 ≤ (wrap64 (x5 - 1)) then (if (wrap64 (x5 - 1)) < (x1.length : Int) then (if (rd x1 (wrap64 (x5 - 1))) = 0 then (spec_l02Make.l0 k x0 x1 (wrap64 (x5 - 1))) else (if x5 = 0 then (some (0, ([] : List Int))) else (if 0 ≤ x5 then (if x5 ≤ (x1.length : Int) then ((spec_l01Own.f (x1.take (x5 : Int).toNat)).bind fun t117 => (some (x0, t117))) else (none)) else (none)))) else (none)) else (none)) else (if x5 = 0 then (some (0, ([] : List Int))) else (if 0 ≤ x5 then (if x5 ≤ (x1.length : Int) then ((spec_l01Own.f (x1.take (x5 : Int).toNat)).bind fun t121 => (some (x0, t121))) else (none)) else (none)))
def spec_l02Make.f (k : Nat) (a0 : Int) (l1 : List Int) : Option (Int × List Int) := spec_l02Make.l0 k a0 l1 (l1.length : Int)
set_option maxHeartbeats 8000000 in
set_option maxRecDepth 100000 in
theorem spec_l02Make.calls (k : Nat) (a0 : Int) (A1 : Option Addr) (c1 : Nat) (l1 : List Int) (r1 : Int) (r2 : List Int) (w : World) (hr1 : Kd.C (Kd.int .i64) w A1 l1.length l1) (hc1 : l1.length ≤ c1) (h : spec_l02Make.f k a0 l1 = some (r1, r2)) :
  Calls Tryd.prog 81 #[.int .i64 a0, .slice A1 l1.length c1] w fun e w' => ∃ v1_ : Value, e = .returned (.agg #[.int .i64 r1, v1_]) ∧ Kd.R (Kd.int .i64) 2 w' w.heap.size (fun _ => True) v1_ r2 ∧ Below w.heap.size w w' := by
 have hu26 := Tryd.underlying26; have HR1 := am_ hr1; have HC1 := am_ hc1; clear hr1 hc1; have HB := am_ (Below.refl w.heap.size w)
 have H : (spec_l02Make.l0 k a0 l1 (l1.length : Int)) = some (r1, r2) := h
 clear h
 have H' := am_ H
 clear H
 go_enter Tryd.func81, Tryd.ntmps81
 go_wp2_with (first | ((with_reducible refine gate_dst (N := 4) rfl ?_); refine bx_ 4 #[.int .i64 0, .slice none 0 0] 26 ?_; intro gb114 hg w3 hbox hb; obtain ⟨BK114, GW114, GE114⟩ := nb_ hbox hg HB; replace HB := bs_ HB hb; clear hb hbox hg))
 go_loopg [5] k (fun kq v5 w' => ∃ (x5_1 : Int), v5 = .int .i64 x5_1 ∧ Aside0 (spec_l02Make.l0 kq a0 l1 x5_1 = some (r1, r2)) ∧ Aside0 (kq ≤ k) ∧ Aside0 (w'.heap[gb114]? = some (.cells #[.int .i64 0, (.slice none 0 0)] 26 (0, 0))) ∧ Aside0 (Below w.heap.size w w'))
 case atStart => exact ⟨((l1.length : Int)), (by first | rfl | (simp; done) | (simp [*]; done)), H', ⟨Nat.le_refl _⟩, ⟨bk_ BK114⟩, ⟨bl_ HB⟩⟩
 case round =>
  clear H'; try clear c1; try clear p2
  obtain ⟨x5_1, rfl, HA, HK1, BK114, HB⟩ := hrel
  cases gk with
  | zero => exact absurd HA.out (by simp [spec_l02Make.l0])
  | succ k1 =>
   have H := HA.out; clear HA
   simp only [spec_l02Make.l0] at H
   by_cases c4 : x5_1 > 0
   ·rw [if_pos c4] at H
    have c4b0 : decide (0 < x5_1) = true := decide_eq_true c4
    clear c4
    obtain ⟨ji5, hji5⟩ : ∃ j_ : Int, (wrap64 (x5_1 - 1)) = j_ := ⟨_, rfl⟩
    replace H : (if 0 ≤ (ji5) then (if (ji5) < (l1.length : Int) then (if (rd l1 (ji5)) = 0 then (spec_l02Make.l0 k1 a0 l1 ji5) else (if x5_1 = 0 then (some (0, ([] : List Int))) else (if 0 ≤ x5_1 then (if x5_1 ≤ (l1.length : Int) then ((spec_l01Own.f (l1.take (x5_1 : Int).toNat)).bind fun t117 => (some (a0, t117))) else (none)) else (none)))) else (none)) else (none)) = some (r1, r2) := by first | (rw [hji5] at H; exact H) | (simp only [hji5] at H ⊢; exact H)
    have hji5w : (IntKind.i64.wrap (x5_1 - 1)) = ji5 := (i64_w _).trans hji5
    by_cases c6 : 0 ≤ (ji5)
    ·rw [if_pos c6] at H
     have c6b0 : decide (0 ≤ (ji5)) = true := decide_eq_true c6
     clear c6
     by_cases c7 : (ji5) < (l1.length : Int)
     ·rw [if_pos c7] at H
      have c7b0 : decide ((ji5) < (l1.length : Int)) = true := decide_eq_true c7
      clear c7
      by_cases c8 : (rd l1 (ji5)) = 0
      ·rw [if_pos c8] at H
       have c8b0 : ((rd l1 (ji5)) == 0) = true := beq_iff_eq.mpr c8
       have c8b1 : ((rd l1 (ji5)) != 0) = false := bne_eq_false_iff_eq.mpr c8
       clear c8
       have H' := am_ H
       clear H
       have p115 : 0 ≤ ((ji5) : Int) := of_decide_eq_true (by first | (with_reducible assumption) | assumption)
       have q115 : (ji5) < (l1.length : Int) := of_decide_eq_true (by first | (with_reducible assumption) | assumption)
       obtain ⟨ad115, e115, hx115_0⟩ := Kd.at_int HR1.out (ji5) p115 q115
       cases e115
       replace hx115_0 := (HB.out.cell (World.block_lt_of_cell? w _ hx115_0)).trans hx115_0
       replace p115 := eq_true p115
       replace q115 := eq_true q115
       go_wp2
       go_roundg k1
       case measure => have := HK1.out; omega
       case rel => exact ⟨(ji5), (by first | rfl | (simp; done) | (simp only [← hji5] <;> (first | rfl | simp)) | (simp [*]; done)), H', ⟨by have := HK1.out; omega⟩, ⟨bk_ BK114⟩, ⟨bl_ HB⟩⟩
      ·rw [if_neg c8] at H
       have c8b0 : ((rd l1 (ji5)) == 0) = false := beq_eq_false_iff_ne.mpr c8
       have c8b1 : ((rd l1 (ji5)) != 0) = true := bne_iff_ne.mpr c8
       by_cases c9 : x5_1 = 0
       ·rw [if_pos c9] at H
        have c9b0 : (x5_1 == 0) = true := beq_iff_eq.mpr c9
        have c9b1 : (x5_1 != 0) = false := bne_eq_false_iff_eq.mpr c9
        clear c9
        simp only [Option.some.injEq, Prod.mk.injEq] at H
        obtain ⟨rfl, rfl⟩ := H
        have p115 : 0 ≤ ((ji5) : Int) := of_decide_eq_true (by first | (with_reducible assumption) | assumption)
        have q115 : (ji5) < (l1.length : Int) := of_decide_eq_true (by first | (with_reducible assumption) | assumption)
        obtain ⟨ad115, e115, hx115_0⟩ := Kd.at_int HR1.out (ji5) p115 q115
        cases e115
        replace hx115_0 := (HB.out.cell (World.block_lt_of_cell? w _ hx115_0)).trans hx115_0
        replace p115 := eq_true p115
        replace q115 := eq_true q115
        obtain ⟨hcz10_0, hcz10_1, hfz10_0, hfz10_1⟩ := ck2_ BK114
        go_wp2
        refine bodyPost_ret (results_cell_row rfl _ _ gb114 26 #[.int .i64 0, .slice none 0 0] (0, 0) _ rfl (bp2_ BK114) Tryd.underlying26 rfl (by kernel_rfl)) rfl ?_
        exact ⟨_, by first | rfl | (simp [errW_none, errW_some] <;> rfl) | (simp only [← hji5]; first | rfl | (simp [errW_none, errW_some] <;> rfl)) | (simp [*, errW_none, errW_some] <;> rfl), by first | exact Kd.R_nil _ _ _ _ _ | exact Kd.N_nil _ _ _ _ _ | exact Kd.V_nil _ _ _ _ _ | exact Kd.Q_nil _ _ _ _ _ | exact Kd.S_nil _ _ _ _ _, bl_ HB⟩
       ·rw [if_neg c9] at H
        have c9b0 : (x5_1 == 0) = false := beq_eq_false_iff_ne.mpr c9
        have c9b1 : (x5_1 != 0) = true := bne_iff_ne.mpr c9
        by_cases c11 : 0 ≤ x5_1
        ·rw [if_pos c11] at H
         have c11b0 := eq_true c11
         have c11b1 : decide (0 ≤ x5_1) = true := decide_eq_true c11
         clear c11
         by_cases c12 : x5_1 ≤ (l1.length : Int)
         ·rw [if_pos c12] at H
          have c12b0 := eq_true c12
          have c12b1 : decide (x5_1 ≤ (l1.length : Int)) = true := decide_eq_true c12
          clear c12
          replace H := Option.bind_eq_some_iff.mp H
          obtain ⟨t117, A130, H⟩ := H
          try dsimp only at H
          have A13 := am_ A130; clear A130
          simp only [Option.some.injEq, Prod.mk.injEq] at H
          obtain ⟨rfl, rfl⟩ := H
          have p115 : 0 ≤ ((ji5) : Int) := of_decide_eq_true (by first | (with_reducible assumption) | assumption)
          have q115 : (ji5) < (l1.length : Int) := of_decide_eq_true (by first | (with_reducible assumption) | assumption)
          obtain ⟨ad115, e115, hx115_0⟩ := Kd.at_int HR1.out (ji5) p115 q115
          cases e115
          replace hx115_0 := (HB.out.cell (World.block_lt_of_cell? w _ hx115_0)).trans hx115_0
          replace p115 := eq_true p115
          replace q115 := eq_true q115
          obtain ⟨i014, hi014, _, hsz14, _⟩ := info_parts info2
          obtain ⟨hcut14, hA14, hC14⟩ := print_take_of (P := Tryd.prog) (Value.int .i64) 0 24 2 .i64 Tryd.underlying24 hi014 hsz14 (some ad115) c1 l1 x5_1 (of_decide_eq_true (by first | (with_reducible assumption) | assumption)) (of_decide_eq_true (by first | (with_reducible assumption) | assumption)) HC1.out
          have HR116 := am_ (Kd.C_of_reads (h1 := fun _ => rfl) (hA14 _ (Kd.reads_of_C HR1.out)))
          have HC116 := am_ hC14; clear hA14 hC14 hi014 hsz14
          go_wp2_with (first | ((with_reducible refine gate_callee (f := 102) rfl ?_); refine goesL_ (some 27) rfl rfl Tryd.func102 (by kernel_rfl) rfl #[.slice (some ad115) (l1.take (x5_1 : Int).toNat).length c1] rfl (by (try simp only [List.map_toArray, List.map_cons, List.map_nil]); first | done | (rw [show (l1.take (x5_1 : Int).toNat).length = x5_1.toNat from (by rw [List.length_take]; have h_ : (x5_1 : Int) ≤ (l1.length : Int) := of_decide_eq_true (by first | (with_reducible assumption) | assumption); omega)] <;> rfl) | rfl | (simp only [List.length_drop, List.length_take]; rfl)) ?_; (with_reducible refine (spec_l01Own.calls _ _ (l1.take (x5_1 : Int).toNat) t117 _ ?side1 ?side2 A13.out).mono ?_); (case side1 => exact cb_ HR116 HB); (case side2 => exact HC116.out); rintro e w15 ⟨v118, rfl, ho0, hb⟩; refine ⟨_, rfl, ?_⟩; have HO119 := am_ (Kd.R_lower ho0 (below_size (bl_ HB))); replace BK114 := bb_ BK114 hb; replace HB := bs_ HB hb; (try clear hb); (try clear ho0); obtain ⟨Ao16, co16, eo16⟩ := Kd.R_slice HO119.out; subst eo16; obtain ⟨hcz17_0, hcz17_1, hfz17_0, hfz17_1⟩ := ck2_ BK114))
          refine bodyPost_ret (results_cell_row rfl _ _ gb114 26 #[.int .i64 a0, .slice Ao16 t117.length co16] (0, 0) _ rfl (bp2_ BK114) Tryd.underlying26 rfl (by kernel_rfl)) rfl ?_
          exact ⟨_, by first | rfl | (simp [errW_none, errW_some] <;> rfl) | (simp only [← hji5]; first | rfl | (simp [errW_none, errW_some] <;> rfl)) | (simp [*, errW_none, errW_some] <;> rfl), rt_ HO119 BK114, bl_ HB⟩
         ·rw [if_neg c12] at H
          exact absurd H (by simp)
        ·rw [if_neg c11] at H
         exact absurd H (by simp)
     ·rw [if_neg c7] at H
      exact absurd H (by simp)
    ·rw [if_neg c6] at H
     exact absurd H (by simp)
   ·rw [if_neg c4] at H
    have c4b0 : decide (0 < x5_1) = false := decide_eq_false c4
    clear c4
    by_cases c18 : x5_1 = 0
    ·rw [if_pos c18] at H
     have c18b0 : (x5_1 == 0) = true := beq_iff_eq.mpr c18
     have c18b1 : (x5_1 != 0) = false := bne_eq_false_iff_eq.mpr c18
     clear c18
     simp only [Option.some.injEq, Prod.mk.injEq] at H
     obtain ⟨rfl, rfl⟩ := H
     obtain ⟨hcz19_0, hcz19_1, hfz19_0, hfz19_1⟩ := ck2_ BK114
     go_wp2
     refine bodyPost_ret (results_cell_row rfl _ _ gb114 26 #[.int .i64 0, .slice none 0 0] (0, 0) _ rfl (bp2_ BK114) Tryd.underlying26 rfl (by kernel_rfl)) rfl ?_
     exact ⟨_, by first | rfl | (simp [errW_none, errW_some] <;> rfl) | (simp [*, errW_none, errW_some] <;> rfl), by first | exact Kd.R_nil _ _ _ _ _ | exact Kd.N_nil _ _ _ _ _ | exact Kd.V_nil _ _ _ _ _ | exact Kd.Q_nil _ _ _ _ _ | exact Kd.S_nil _ _ _ _ _, bl_ HB⟩
    ·rw [if_neg c18] at H
     have c18b0 : (x5_1 == 0) = false := beq_eq_false_iff_ne.mpr c18
     have c18b1 : (x5_1 != 0) = true := bne_iff_ne.mpr c18
     by_cases c20 : 0 ≤ x5_1
     ·rw [if_pos c20] at H
      have c20b0 := eq_true c20
      have c20b1 : decide (0 ≤ x5_1) = true := decide_eq_true c20
      clear c20
      by_cases c21 : x5_1 ≤ (l1.length : Int)
      ·rw [if_pos c21] at H
       have c21b0 := eq_true c21
       have c21b1 : decide (x5_1 ≤ (l1.length : Int)) = true := decide_eq_true c21
       clear c21
       replace H := Option.bind_eq_some_iff.mp H
       obtain ⟨t121, A220, H⟩ := H
       try dsimp only at H
       have A22 := am_ A220; clear A220
       simp only [Option.some.injEq, Prod.mk.injEq] at H
       obtain ⟨rfl, rfl⟩ := H
       obtain ⟨i023, hi023, _, hsz23, _⟩ := info_parts info2
       obtain ⟨hcut23, hA23, hC23⟩ := print_take_of (P := Tryd.prog) (Value.int .i64) 0 24 2 .i64 Tryd.underlying24 hi023 hsz23 A1 c1 l1 x5_1 (of_decide_eq_true (by first | (with_reducible assumption) | assumption)) (of_decide_eq_true (by first | (with_reducible assumption) | assumption)) HC1.out
       have HR120 := am_ (Kd.C_of_reads (h1 := fun _ => rfl) (hA23 _ (Kd.reads_of_C HR1.out)))
       have HC120 := am_ hC23; clear hA23 hC23 hi023 hsz23
       go_wp2_with (first | ((with_reducible refine gate_callee (f := 102) rfl ?_); refine goesL_ (some 27) rfl rfl Tryd.func102 (by kernel_rfl) rfl #[.slice A1 (l1.take (x5_1 : Int).toNat).length c1] rfl (by (try simp only [List.map_toArray, List.map_cons, List.map_nil]); first | done | (rw [show (l1.take (x5_1 : Int).toNat).length = x5_1.toNat from (by rw [List.length_take]; have h_ : (x5_1 : Int) ≤ (l1.length : Int) := of_decide_eq_true (by first | (with_reducible assumption) | assumption); omega)] <;> rfl) | rfl | (simp only [List.length_drop, List.length_take]; rfl)) ?_; (with_reducible refine (spec_l01Own.calls _ _ (l1.take (x5_1 : Int).toNat) t121 _ ?side1 ?side2 A22.out).mono ?_); (case side1 => exact cb_ HR120 HB); (case side2 => exact HC120.out); rintro e w24 ⟨v122, rfl, ho0, hb⟩; refine ⟨_, rfl, ?_⟩; have HO123 := am_ (Kd.R_lower ho0 (below_size (bl_ HB))); replace BK114 := bb_ BK114 hb; replace HB := bs_ HB hb; (try clear hb); (try clear ho0); obtain ⟨Ao25, co25, eo25⟩ := Kd.R_slice HO123.out; subst eo25; obtain ⟨hcz26_0, hcz26_1, hfz26_0, hfz26_1⟩ := ck2_ BK114))
       refine bodyPost_ret (results_cell_row rfl _ _ gb114 26 #[.int .i64 a0, .slice Ao25 t121.length co25] (0, 0) _ rfl (bp2_ BK114) Tryd.underlying26 rfl (by kernel_rfl)) rfl ?_
       exact ⟨_, by first | rfl | (simp [errW_none, errW_some] <;> rfl) | (simp [*, errW_none, errW_some] <;> rfl), rt_ HO123 BK114, bl_ HB⟩
      ·rw [if_neg c21] at H
       exact absurd H (by simp)
     ·rw [if_neg c20] at H
      exact absurd H (by simp)
mutual
def spec_l02Of.j0 : Nat → Int → Int → List Int → Option (Int × List Int)
  | 0, _, _, _ => none
  | k + 1, x0, x3, x4 => spec_l02Of.l0 k x0 x3 x4
def spec_l02Of.l0 : Nat → Int → Int → List Int → Option (Int × List Int)
  | 0, _, _, _ => none
  | k + 1, x0, x3, x4 => if x0 = 0 then ((spec_l02Make.f k x3 x4).bind fun bt128 => (some (bt128.1, bt128.2))) else (if (Int.tmod x0 16777216) < 0 then (if x4.length < 17592186044416 then (spec_l02Of.l0 k (wrap64 (Int.tdiv x0 16777216)) x3 (x4 ++ [wrap64 (-(Int.tmod x0 16777216))])) else (none)) else (if x4.length < 17592186044416 then (spec_l02Of.l0 k (wrap64 (Int.tdiv x0 16777216)) x3 (x4 ++ [Int.tmod x0 16777216])) else (none)))
end
def spec_l02Of.f (k : Nat) (a0 : Int) : Option (Int × List Int) := (some (([] : List Int) : List Int)).bind fun y125 => (if a0 < 0 then (spec_l02Of.j0 k a0 (-1) y125) else (spec_l02Of.j0 k a0 1 y125))
set_option maxHeartbeats 8000000 in
set_option maxRecDepth 100000 in
theorem spec_l02Of.calls (k : Nat) (a0 : Int) (r1 : Int) (r2 : List Int) (w : World) (h : spec_l02Of.f k a0 = some (r1, r2)) :
  Calls Tryd.prog 63 #[.int .i64 a0] w fun e w' => ∃ v1_ : Value, e = .returned (.agg #[.int .i64 r1, v1_]) ∧ Kd.R (Kd.int .i64) 2 w' w.heap.size (fun _ => True) v1_ r2 ∧ Below w.heap.size w w' := by
 have hu26 := Tryd.underlying26; have HB := am_ (Below.refl w.heap.size w)
 have H : ((some (([] : List Int) : List Int)).bind fun y125 => (if a0 < 0 then (spec_l02Of.j0 k a0 (-1) y125) else (spec_l02Of.j0 k a0 1 y125))) = some (r1, r2) := h
 clear h
 obtain ⟨y125, hy125⟩ : ∃ y_ : List Int, y_ = (([] : List Int)) := ⟨_, rfl⟩
 replace H : (if a0 < 0 then (spec_l02Of.j0 k a0 (-1) y125) else (spec_l02Of.j0 k a0 1 y125)) = some (r1, r2) := by first | (rw [hy125]; with_reducible exact H) | (have H2_ := (Option.bind_some _ _).symm.trans H; rw [hy125]; with_reducible exact H2_) | (have H2_ := (Option.bind_some _ _).symm.trans H; with_reducible exact H2_) | with_reducible exact H | (rw [hy125]; exact H) | exact H
 have Ny125 := am_ hy125; clear hy125; have HC2 := am_ H; clear H
 go_enter Tryd.func63, Tryd.ntmps63
 go_upto_if 8 with (first | ((with_reducible refine gate_dst (N := 2) rfl ?_); refine bx_ 2 #[.int .i64 0, .slice none 0 0] 26 ?_; intro gb124 hg w3 hbox hb; obtain ⟨BK124, GW124, GE124⟩ := nb_ hbox hg HB; replace HB := bs_ HB hb; clear hb hbox hg) | ((with_reducible refine gate_dst (N := 6) rfl ?_); refine Kd.R_lit (Kd.int .i64) _ 2 ?hg (N := 6) ?hd (xs := ([] : List Int)) (inner := []) (ok := fun _ => True) (okp := fun _ => True) ?hr ?hp (fun _ hk => hk) trivial (Below.refl _ _) (Nat.le_refl _) (by simp) ?_; (case hd => rfl); (case hg => rfl); (case hr => first | (go_simp; done) | (go_simp; rfl)); (case hp => exact (Reps.none _ _)); intro v126 w4 ho5 hb hg_ hnew_; clear hg_ hnew_; (first | rw [← Ny125.out] at ho5 | (simp only [Int.reduceToNat] at ho5; rw [← Ny125.out] at ho5)); have HO127 := am_ (Kd.R_lower ho5 (below_size (bl_ HB))); replace BK124 := bb_ BK124 hb; replace HB := bs_ HB hb; clear hb ho5))
 (try simp only [Act.put, List.setIfInBounds_toArray, List.set_cons_zero, List.set_cons_succ])
 go_cut [3] (fun v3 wc => ∃ (kq : Nat) (x3_1 : Int), v3 = .int .i64 x3_1 ∧ Aside0 (spec_l02Of.j0 kq a0 x3_1 y125 = some (r1, r2)) ∧ Aside0 (kq ≤ k) ∧ Aside0 (Kd.R (Kd.int .i64) 2 wc w.heap.size (fun _ => True) v126 y125) ∧ Aside0 (wc.heap[gb124]? = some (.cells #[.int .i64 0, (.slice none 0 0)] 26 (0, 0))) ∧ Aside0 (Below w.heap.size w wc))
 case first =>
  have H := HC2.out; clear HC2
  by_cases c6 : a0 < 0
  ·rw [if_pos c6] at H
   have c6b0 : decide (a0 < 0) = true := decide_eq_true c6
   clear c6
   (first | rw [c6b0] | (simp only [i64_w, i32_w]; rw [c6b0]) | skip)
   have H' := am_ H
   clear H
   go_wp2
   go_meet
   case rel => exact ⟨_, ((-1)), (by first | rfl | (simp; done) | (simp [*]; done)), H', ⟨by first | omega | exact Nat.le_refl _⟩, ⟨kr_ HO127⟩, ⟨bk_ BK124⟩, ⟨bl_ HB⟩⟩
  ·rw [if_neg c6] at H
   have c6b0 : decide (a0 < 0) = false := decide_eq_false c6
   clear c6
   (first | rw [c6b0] | (simp only [i64_w, i32_w]; rw [c6b0]) | skip)
   have H' := am_ H
   clear H
   go_wp2
   go_meet
   case rel => exact ⟨_, (1), (by first | rfl | (simp; done) | (simp [*]; done)), H', ⟨by first | omega | exact Nat.le_refl _⟩, ⟨kr_ HO127⟩, ⟨bk_ BK124⟩, ⟨bl_ HB⟩⟩
 case rest =>
  clear HC2; try clear p2; try clear c6; try clear c6b0
  obtain ⟨kq, x3_1, rfl, HA, HJ1, HO_4, BK124, HB⟩ := hcut
  cases kq with
  | zero => exact absurd HA.out (by simp [spec_l02Of.j0])
  | succ kj1 =>
   have H := HA.out; clear HA
   simp only [spec_l02Of.j0] at H
   have H' := am_ H
   clear H
   go_wp2
   go_loopg [0, 4] kj1 (fun kq v0 v4 w' => ∃ (x0_2 : Int) (x4_2 : List Int), v0 = .int .i64 x0_2 ∧ Aside0 (spec_l02Of.l0 kq x0_2 x3_1 x4_2 = some (r1, r2)) ∧ Aside0 (kq ≤ kj1) ∧ Aside0 (Kd.R (Kd.int .i64) 2 w' w.heap.size (fun _ => True) v4 x4_2) ∧ Aside0 (w'.heap[gb124]? = some (.cells #[.int .i64 0, (.slice none 0 0)] 26 (0, 0))) ∧ Aside0 (Below w.heap.size w w'))
   case atStart => exact ⟨(a0), (y125), (by first | rfl | (simp; done) | (simp [*]; done)), H', ⟨Nat.le_refl _⟩, ⟨kr_ HO_4⟩, ⟨bk_ BK124⟩, ⟨bl_ HB⟩⟩
   case round =>
    clear H'; try clear p2; try clear c6; try clear c6b0; try clear p2
    obtain ⟨x0_2, x4_2, rfl, HA, HK2, HO_4, BK124, HB⟩ := hrel
    cases gk with
    | zero => exact absurd HA.out (by simp [spec_l02Of.l0])
    | succ k2 =>
     have H := HA.out; clear HA
     simp only [spec_l02Of.l0] at H
     by_cases c7 : x0_2 = 0
     ·rw [if_pos c7] at H
      have c7b0 : (x0_2 == 0) = true := beq_iff_eq.mpr c7
      have c7b1 : (x0_2 != 0) = false := bne_eq_false_iff_eq.mpr c7
      clear c7
      replace H := Option.bind_eq_some_iff.mp H
      obtain ⟨⟨t128, t129⟩, A80, H⟩ := H
      try dsimp only at H
      have A8 := am_ A80; clear A80
      simp only [Option.some.injEq, Prod.mk.injEq] at H
      obtain ⟨rfl, rfl⟩ := H
      obtain ⟨Ao9, co9, eo9⟩ := Kd.R_slice HO_4.out
      subst eo9
      go_wp2_with (first | ((with_reducible refine gate_callee (f := 81) rfl ?_); refine goesL_ (some 25) rfl rfl Tryd.func81 (by kernel_rfl) rfl #[.int .i64 x3_1, .slice Ao9 x4_2.length co9] rfl ma_ ?_; (with_reducible refine (spec_l02Make.calls k2 x3_1 _ _ x4_2 t128 t129 _ ?side1 ?side2 A8.out).mono ?_); (case side1 => exact cr_ HO_4); (case side2 => exact (Kd.R_reads' HO_4.out).2.1); rintro e w10 ⟨v130, rfl, ho0, hb⟩; refine ⟨_, rfl, ?_⟩; have HO131 := am_ (Kd.R_lower (Kd.R_new' ho0 (Kd.R_lt (kr_ HO_4))) (below_size (bl_ HB))); replace HO_4 := am_ (Kd.R_elder' (kr_ HO_4) (Kd.R_base ho0) hb); replace BK124 := bb_ BK124 hb; replace HB := bs_ HB hb; (try clear hb); (try clear ho0); obtain ⟨hcz11_0, hcz11_1, hfz11_0, hfz11_1⟩ := ck2_ BK124; obtain ⟨Ao12, co12, eo12⟩ := Kd.R_slice HO131.out; subst eo12))
      refine bodyPost_ret (results_cell_row rfl _ _ gb124 26 #[.int .i64 t128, .slice Ao12 t129.length co12] (0, 0) _ rfl (bp2_ BK124) Tryd.underlying26 rfl (by kernel_rfl)) rfl ?_
      exact ⟨_, by first | rfl | (simp [errW_none, errW_some] <;> rfl) | (simp [*, errW_none, errW_some] <;> rfl), rt_ HO131 BK124, bl_ HB⟩
     ·rw [if_neg c7] at H
      have c7b0 : (x0_2 == 0) = false := beq_eq_false_iff_ne.mpr c7
      have c7b1 : (x0_2 != 0) = true := bne_iff_ne.mpr c7
      by_cases c13 : (Int.tmod x0_2 16777216) < 0
      ·rw [if_pos c13] at H
       have c13b0 : decide ((Int.tmod x0_2 16777216) < 0) = true := decide_eq_true c13
       clear c13
       by_cases c14 : x4_2.length < 17592186044416
       ·rw [if_pos c14] at H
        have LMc14 := am_ c14; clear c14
        obtain ⟨y132, hy132⟩ : ∃ y_ : List Int, y_ = (x4_2 ++ [wrap64 (-(Int.tmod x0_2 16777216))]) := ⟨_, rfl⟩
        replace H : (spec_l02Of.l0 k2 (wrap64 (Int.tdiv x0_2 16777216)) x3_1 y132) = some (r1, r2) := by first | (rw [hy132]; with_reducible exact H) | (have H2_ := (Option.bind_some _ _).symm.trans H; rw [hy132]; with_reducible exact H2_) | (have H2_ := (Option.bind_some _ _).symm.trans H; with_reducible exact H2_) | with_reducible exact H | (rw [hy132]; exact H) | exact H
        have Ny132 := am_ hy132; clear hy132
        have H' := am_ H
        clear H
        go_wp2_with (first | ((with_reducible refine gate_builtin (b := .append) (xs := #[.tmp 17, .tmp 19]) rfl ?_); at_builtin; refine Kd.R_append (Kd.int .i64) (w0 := w) w.heap.size rfl (.tmp 17) (.tmp 19) 24 2 (.int .i64 0) 8 rfl Tryd.underlying24 info2 rfl (by decide) (by omega) u4 x4_2 (wrap64 (-(Int.tmod x0_2 16777216))) [.int .i64 (wrap64 (-(Int.tmod x0_2 16777216)))] (fun _ => True) (fun _ => False) rfl rfl ?aP (fun _ hk => hk.elim) ?aF ?aO ?aB ?aS ?aL ?_; (case aP => exact rfl); (case aB => exact (bl_ HB)); (case aF => exact (fun _ _ => trivial)); (case aO => exact (kr_ HO_4)); (case aS => exact (below_size (bl_ HB))); (case aL => have := LMc14.out; omega); intro v133 w15 ho hb hg hat; rw [← Ny132.out] at ho; have n0_ := am_ (blk_grown (g := gb124) (o := .cells #[.int .i64 0, .slice none 0 0] 26 (0, 0)) (bk_ BK124) hg (Kd.R_ne HO_4.out BK124.out (by decide))); have n1_ := am_ (hb); have n2_ := am_ (ho); clear BK124; clear HB; clear HO_4; have BK124 := n0_; have HB := n1_; have HO134 := n2_; clear n0_ n1_ n2_; clear ho hb hg hat))
        go_roundg k2
        case measure => have := HJ1.out; have := HK2.out; omega
        case rel => exact ⟨(wrap64 (Int.tdiv x0_2 16777216)), (y132), (by first | rfl | (simp; done) | (simp [*]; done)), H', ⟨by have := HJ1.out; have := HK2.out; omega⟩, ⟨kr_ HO134⟩, ⟨bk_ BK124⟩, ⟨bl_ HB⟩⟩
       ·rw [if_neg c14] at H
        exact absurd H (by simp)
      ·rw [if_neg c13] at H
       have c13b0 : decide ((Int.tmod x0_2 16777216) < 0) = false := decide_eq_false c13
       clear c13
       by_cases c16 : x4_2.length < 17592186044416
       ·rw [if_pos c16] at H
        have LMc16 := am_ c16; clear c16
        obtain ⟨y135, hy135⟩ : ∃ y_ : List Int, y_ = (x4_2 ++ [Int.tmod x0_2 16777216]) := ⟨_, rfl⟩
        replace H : (spec_l02Of.l0 k2 (wrap64 (Int.tdiv x0_2 16777216)) x3_1 y135) = some (r1, r2) := by first | (rw [hy135]; with_reducible exact H) | (have H2_ := (Option.bind_some _ _).symm.trans H; rw [hy135]; with_reducible exact H2_) | (have H2_ := (Option.bind_some _ _).symm.trans H; with_reducible exact H2_) | with_reducible exact H | (rw [hy135]; exact H) | exact H
        have Ny135 := am_ hy135; clear hy135
        have H' := am_ H
        clear H
        go_wp2_with (first | ((with_reducible refine gate_builtin (b := .append) (xs := #[.tmp 17, .tmp 19]) rfl ?_); at_builtin; refine Kd.R_append (Kd.int .i64) (w0 := w) w.heap.size rfl (.tmp 17) (.tmp 19) 24 2 (.int .i64 0) 8 rfl Tryd.underlying24 info2 rfl (by decide) (by omega) u4 x4_2 (Int.tmod x0_2 16777216) [.int .i64 (Int.tmod x0_2 16777216)] (fun _ => True) (fun _ => False) rfl rfl ?aP (fun _ hk => hk.elim) ?aF ?aO ?aB ?aS ?aL ?_; (case aP => exact rfl); (case aB => exact (bl_ HB)); (case aF => exact (fun _ _ => trivial)); (case aO => exact (kr_ HO_4)); (case aS => exact (below_size (bl_ HB))); (case aL => have := LMc16.out; omega); intro v136 w17 ho hb hg hat; rw [← Ny135.out] at ho; have n0_ := am_ (blk_grown (g := gb124) (o := .cells #[.int .i64 0, .slice none 0 0] 26 (0, 0)) (bk_ BK124) hg (Kd.R_ne HO_4.out BK124.out (by decide))); have n1_ := am_ (hb); have n2_ := am_ (ho); clear BK124; clear HB; clear HO_4; have BK124 := n0_; have HB := n1_; have HO137 := n2_; clear n0_ n1_ n2_; clear ho hb hg hat))
        go_roundg k2
        case measure => have := HJ1.out; have := HK2.out; omega
        case rel => exact ⟨(wrap64 (Int.tdiv x0_2 16777216)), (y135), (by first | rfl | (simp; done) | (simp [*]; done)), H', ⟨by have := HJ1.out; have := HK2.out; omega⟩, ⟨kr_ HO137⟩, ⟨bk_ BK124⟩, ⟨bl_ HB⟩⟩
       ·rw [if_neg c16] at H
        exact absurd H (by simp)
def spec_l02Draw.l0 : Nat → List Int → Int → List Int → Int → Int → Option (Int × List Int × Int × Int)
  | 0, _, _, _, _, _ => none
  | k + 1, x5, x6, x1000, x1001, x1002 => if x6 > 0 then ((spec_l01Next.f x1000 x1001 x1002 16777216).bind fun bt155 => ((spec_l01Next.f x1000 bt155.2.1 bt155.2.2 16777216).bind fun bt158 => ((spec_l01Next.f x1000 bt158.2.1 bt158.2.2 1000).bind fun bt161 => ((spec_l01Pick.f x1000 bt161.2.1 bt161.2.2 (([0, 1, 16777215, 8388608, bt155.1, bt158.1, bt161.1] : List Int))).bind fun bt167 => (if x5.length < 17592186044416 then (spec_l02Draw.l0 k (x5 ++ [bt167.1]) (wrap64 (x6 - 1)) x1000 bt167.2.1 bt167.2.2) else (none)))))) else ((spec_l01Pick.f x1000 x1001 x1002 (([1, (-1)] : List Int))).bind fun bt148 => ((spec_l02Make.f k bt148.1 x5).bind fun bt151 => (some (bt151.1, bt151.2, bt148.2.1, bt148.2.2))))
def spec_l02Draw.f (k : Nat) (s0_0 : List Int) (s0_1 : Int) (s0_2 : Int) (a1 : Int) : Option (Int × List Int × Int × Int) := (spec_l01Next.f s0_0 s0_1 s0_2 (wrap64 (a1 + 1))).bind fun bt142 => (spec_l02Draw.l0 k (([] : List Int)) bt142.1 s0_0 bt142.2.1 bt142.2.2)
set_option maxHeartbeats 8000000 in
set_option maxRecDepth 100000 in
theorem spec_l02Draw.calls (k : Nat) (g : Nat) (s0_0 : List Int) (s0_1 : Int) (s0_2 : Int) (a1 : Int) (r1 : Int) (r2 : List Int) (r3 : Int) (r4 : Int) (w0 w : World) (hI : IsS91 w0 w g s0_0 s0_1 s0_2) (hB : Below w0.heap.size w0 w) (h : spec_l02Draw.f k s0_0 s0_1 s0_2 a1 = some (r1, r2, r3, r4)) :
  Calls Tryd.prog 69 #[.pointer (some ⟨g, 0, none⟩), .int .i64 a1] w fun e w' => ∃ v1_ : Value, e = .returned (.agg #[.int .i64 r1, v1_]) ∧ Kd.R (Kd.int .i64) 2 w' w.heap.size (fun _ => True) v1_ r2 ∧ IsS91 w0 w' g s0_0 r3 r4 ∧ Below w0.heap.size w0 w' ∧ KeepBut w w' g none := by
 have hu26 := Tryd.underlying26; have HI0 := am_ hI; have HK := am_ (KeepBut.refl w g none); have HL := am_ hB.size; clear hI; have HW0 := am_ hB.size; have HB := am_ hB; clear hB
 have H : ((spec_l01Next.f s0_0 s0_1 s0_2 (wrap64 (a1 + 1))).bind fun bt142 => (spec_l02Draw.l0 k (([] : List Int)) bt142.1 s0_0 bt142.2.1 bt142.2.2)) = some (r1, r2, r3, r4) := h
 clear h
 obtain ⟨y139, hy139⟩ : ∃ y_ : List Int, y_ = (([] : List Int)) := ⟨_, rfl⟩
 replace H : ((spec_l01Next.f s0_0 s0_1 s0_2 (wrap64 (a1 + 1))).bind fun bt142 => (spec_l02Draw.l0 k y139 bt142.1 s0_0 bt142.2.1 bt142.2.2)) = some (r1, r2, r3, r4) := by first | (rw [hy139]; with_reducible exact H) | (have H2_ := (Option.bind_some _ _).symm.trans H; rw [hy139]; with_reducible exact H2_) | (have H2_ := (Option.bind_some _ _).symm.trans H; with_reducible exact H2_) | with_reducible exact H | (rw [hy139]; exact H) | exact H
 have Ny139 := am_ hy139; clear hy139
 replace H := Option.bind_eq_some_iff.mp H
 obtain ⟨⟨t142, t143, t144⟩, A30, H⟩ := H
 try dsimp only at H
 have A3 := am_ A30; clear A30
 have H' := am_ H
 clear H
 go_enter Tryd.func69, Tryd.ntmps69
 go_wp2_with (first | ((with_reducible refine gate_dst (N := 4) rfl ?_); refine bx_ 4 #[.int .i64 0, .slice none 0 0] 26 ?_; intro gb138 hg w4 hbox hb; have n0_ := am_ (IsS91.below (is_ HI0) hb); have n1_ := am_ (KeepBut.trans (hk_ HK) (KeepBut.of_below hb g none) (.inl rfl)); have n2_ := am_ (below_step (bi_ HB) hb); have n3_ := am_ (hbox); have n4_ := am_ ((by rw [hg]; exact (keep_size (w := w) (g := g) (row := none) (hk_ HK)) : w.heap.size ≤ gb138)); have n5_ := am_ ((Nat.le_trans HW0.out (by rw [hg]; exact (keep_size (w := w) (g := g) (row := none) (hk_ HK)) : w.heap.size ≤ gb138) : w0.heap.size ≤ gb138)); have n6_ := am_ ((by rw [hg]; exact Nat.ne_of_lt (IsS91.lt (show IsS91 w0 _ g s0_0 s0_1 s0_2 from is_ HI0)) : g ≠ gb138)); have n7_ := am_ ((by rw [hg]; exact Nat.ne_of_gt (IsS91.lt (show IsS91 w0 _ g s0_0 s0_1 s0_2 from is_ HI0)) : gb138 ≠ g)); clear HI0; clear HK; clear HB; have HI0 := n0_; have HK := n1_; have HB := n2_; have BK138 := n3_; have GW138 := n4_; have GE138 := n5_; have NB0_138 := n6_; have NB138_0 := n7_; clear n0_ n1_ n2_ n3_ n4_ n5_ n6_ n7_; clear hb hbox hg) | ((with_reducible refine gate_dst (N := 7) rfl ?_); refine Kd.R_lit (Kd.int .i64) _ 2 ?hg (N := 7) ?hd (xs := ([] : List Int)) (inner := []) (ok := fun _ => True) (okp := fun _ => True) ?hr ?hp (fun _ hk => hk) trivial (Below.refl _ _) (Nat.le_refl _) (by simp) ?_; (case hd => rfl); (case hg => rfl); (case hr => first | (go_simp; done) | (go_simp; rfl)); (case hp => exact (Reps.none _ _)); intro v140 w5 ho6 hb hg_ hnew_; clear hg_ hnew_; (first | rw [← Ny139.out] at ho6 | (simp only [Int.reduceToNat] at ho6; rw [← Ny139.out] at ho6)); have n0_ := am_ (Kd.R_lower ho6 (keep_size (w := w) (g := g) (row := none) (hk_ HK))); have n1_ := am_ (IsS91.below (is_ HI0) hb); have n2_ := am_ (blk_below (bk_ BK138) hb); have n3_ := am_ (KeepBut.trans (hk_ HK) (KeepBut.of_below hb g none) (.inl rfl)); have n4_ := am_ (below_step (bi_ HB) hb); clear HI0; clear BK138; clear HK; clear HB; have HO141 := n0_; have HI0 := n1_; have BK138 := n2_; have HK := n3_; have HB := n4_; clear n0_ n1_ n2_ n3_ n4_; clear hb ho6) | ((with_reducible refine gate_callee (f := 59) rfl ?_); refine goesL_ (some 11) rfl rfl Tryd.func59 (by kernel_rfl) rfl #[.pointer (some ⟨g, 0, none⟩), .int .i64 (wrap64 (a1 + 1))] rfl ma_ ?_; (with_reducible refine (spec_l01Next.calls g s0_0 s0_1 s0_2 (wrap64 (a1 + 1)) t142 t143 t144 w0 _ ?side1 ?side2 A3.out).mono ?_); (case side1 => exact is_ HI0); (case side2 => exact bi_ HB); rintro e w7 ⟨rfl, hi, hb, hk⟩; refine ⟨_, rfl, ?_⟩; replace HO141 := am_ (Kd.R_mono (Kd.R_keep (IsS91.apart (show IsS91 w0 _ g s0_0 s0_1 s0_2 from is_ HI0) (kr_ HO141) (by decide)) hk (fun _ h => h.2)) (fun _ h => h.1)); replace HK := am_ (KeepBut.trans (hk_ HK) hk (.inl rfl)); replace HI0 := am_ (hi); replace BK138 := am_ (kb_ hk (bk_ BK138) NB138_0); replace HB := am_ (hb); (try clear hb); (try clear hk); (try clear hi)))
 go_loopg [5, 6] k (fun kq v5 v6 w' => ∃ (x5_1 : List Int) (x6_1 : Int) (x1001_1 : Int) (x1002_1 : Int), v6 = .int .i64 x6_1 ∧ Aside0 (spec_l02Draw.l0 kq x5_1 x6_1 s0_0 x1001_1 x1002_1 = some (r1, r2, r3, r4)) ∧ Aside0 (kq ≤ k) ∧ Aside0 (Kd.R (Kd.int .i64) 2 w' w.heap.size (fun _ => True) v5 x5_1) ∧ Aside0 (w'.heap[gb138]? = some (.cells #[.int .i64 0, (.slice none 0 0)] 26 (0, 0))) ∧ Aside0 (IsS91 w0 w' g s0_0 x1001_1 x1002_1) ∧ Aside0 (KeepBut w w' g none) ∧ Aside0 (Below w0.heap.size w0 w'))
 case atStart => exact ⟨(y139), (t142), (t143), (t144), (by first | rfl | (simp; done) | (simp [*]; done)), H', ⟨Nat.le_refl _⟩, ⟨kr_ HO141⟩, ⟨bk_ BK138⟩, ⟨is_ HI0⟩, ⟨hk_ HK⟩, ⟨bi_ HB⟩⟩
 case round =>
  clear H'; try clear p2; try clear c5; try clear c6; try clear p6
  obtain ⟨x5_1, x6_1, x1001_1, x1002_1, rfl, HA, HK1, HO_5, BK138, HI0, HK, HB⟩ := hrel
  cases gk with
  | zero => exact absurd HA.out (by simp [spec_l02Draw.l0])
  | succ k1 =>
   have H := HA.out; clear HA
   simp only [spec_l02Draw.l0] at H
   by_cases c8 : x6_1 > 0
   ·rw [if_pos c8] at H
    have c8b0 : decide (0 < x6_1) = true := decide_eq_true c8
    clear c8
    replace H := Option.bind_eq_some_iff.mp H
    obtain ⟨⟨t155, t156, t157⟩, A90, H⟩ := H
    try dsimp only at H
    have A9 := am_ A90; clear A90
    replace H := Option.bind_eq_some_iff.mp H
    obtain ⟨⟨t158, t159, t160⟩, A100, H⟩ := H
    try dsimp only at H
    have A10 := am_ A100; clear A100
    replace H := Option.bind_eq_some_iff.mp H
    obtain ⟨⟨t161, t162, t163⟩, A110, H⟩ := H
    try dsimp only at H
    have A11 := am_ A110; clear A110
    obtain ⟨y164, hy164⟩ : ∃ y_ : List Int, y_ = (([0, 1, 16777215, 8388608, t155, t158, t161] : List Int)) := ⟨_, rfl⟩
    replace H : ((spec_l01Pick.f s0_0 t162 t163 y164).bind fun bt167 => (if x5_1.length < 17592186044416 then (spec_l02Draw.l0 k1 (x5_1 ++ [bt167.1]) (wrap64 (x6_1 - 1)) s0_0 bt167.2.1 bt167.2.2) else (none))) = some (r1, r2, r3, r4) := by first | (rw [hy164]; with_reducible exact H) | (have H2_ := (Option.bind_some _ _).symm.trans H; rw [hy164]; with_reducible exact H2_) | (have H2_ := (Option.bind_some _ _).symm.trans H; with_reducible exact H2_) | with_reducible exact H | (rw [hy164]; exact H) | exact H
    have Ny164 := am_ hy164; clear hy164
    replace H := Option.bind_eq_some_iff.mp H
    obtain ⟨⟨t167, t168, t169⟩, A120, H⟩ := H
    try dsimp only at H
    have A12 := am_ A120; clear A120
    by_cases c13 : x5_1.length < 17592186044416
    ·rw [if_pos c13] at H
     have LMc13 := am_ c13; clear c13
     obtain ⟨y170, hy170⟩ : ∃ y_ : List Int, y_ = (x5_1 ++ [t167]) := ⟨_, rfl⟩
     replace H : (spec_l02Draw.l0 k1 y170 (wrap64 (x6_1 - 1)) s0_0 t168 t169) = some (r1, r2, r3, r4) := by first | (rw [hy170]; with_reducible exact H) | (have H2_ := (Option.bind_some _ _).symm.trans H; rw [hy170]; with_reducible exact H2_) | (have H2_ := (Option.bind_some _ _).symm.trans H; with_reducible exact H2_) | with_reducible exact H | (rw [hy170]; exact H) | exact H
     have Ny170 := am_ hy170; clear hy170
     have H' := am_ H
     clear H
     go_wp2_with (first | ((with_reducible refine gate_callee (f := 59) rfl ?_); refine goesL_ (some 19) rfl rfl Tryd.func59 (by kernel_rfl) rfl #[.pointer (some ⟨g, 0, none⟩), .int .i64 16777216] rfl ma_ ?_; (with_reducible refine (spec_l01Next.calls g s0_0 x1001_1 x1002_1 16777216 t155 t156 t157 w0 _ ?side1 ?side2 A9.out).mono ?_); (case side1 => exact is_ HI0); (case side2 => exact bi_ HB); rintro e w14 ⟨rfl, hi, hb, hk⟩; refine ⟨_, rfl, ?_⟩; replace HO_5 := am_ (Kd.R_mono (Kd.R_keep (IsS91.apart (show IsS91 w0 _ g s0_0 x1001_1 x1002_1 from is_ HI0) (kr_ HO_5) (by decide)) hk (fun _ h => h.2)) (fun _ h => h.1)); replace HK := am_ (KeepBut.trans (hk_ HK) hk (.inl rfl)); replace HI0 := am_ (hi); replace BK138 := am_ (kb_ hk (bk_ BK138) NB138_0); replace HB := am_ (hb); (try clear hb); (try clear hk); (try clear hi)) | ((with_reducible refine gate_callee (f := 59) rfl ?_); refine goesL_ (some 21) rfl rfl Tryd.func59 (by kernel_rfl) rfl #[.pointer (some ⟨g, 0, none⟩), .int .i64 16777216] rfl ma_ ?_; (with_reducible refine (spec_l01Next.calls g s0_0 t156 t157 16777216 t158 t159 t160 w0 _ ?side1 ?side2 A10.out).mono ?_); (case side1 => exact is_ HI0); (case side2 => exact bi_ HB); rintro e w15 ⟨rfl, hi, hb, hk⟩; refine ⟨_, rfl, ?_⟩; replace HO_5 := am_ (Kd.R_mono (Kd.R_keep (IsS91.apart (show IsS91 w0 _ g s0_0 t156 t157 from is_ HI0) (kr_ HO_5) (by decide)) hk (fun _ h => h.2)) (fun _ h => h.1)); replace HK := am_ (KeepBut.trans (hk_ HK) hk (.inl rfl)); replace HI0 := am_ (hi); replace BK138 := am_ (kb_ hk (bk_ BK138) NB138_0); replace HB := am_ (hb); (try clear hb); (try clear hk); (try clear hi)) | ((with_reducible refine gate_callee (f := 59) rfl ?_); refine goesL_ (some 23) rfl rfl Tryd.func59 (by kernel_rfl) rfl #[.pointer (some ⟨g, 0, none⟩), .int .i64 1000] rfl ma_ ?_; (with_reducible refine (spec_l01Next.calls g s0_0 t159 t160 1000 t161 t162 t163 w0 _ ?side1 ?side2 A11.out).mono ?_); (case side1 => exact is_ HI0); (case side2 => exact bi_ HB); rintro e w16 ⟨rfl, hi, hb, hk⟩; refine ⟨_, rfl, ?_⟩; replace HO_5 := am_ (Kd.R_mono (Kd.R_keep (IsS91.apart (show IsS91 w0 _ g s0_0 t159 t160 from is_ HI0) (kr_ HO_5) (by decide)) hk (fun _ h => h.2)) (fun _ h => h.1)); replace HK := am_ (KeepBut.trans (hk_ HK) hk (.inl rfl)); replace HI0 := am_ (hi); replace BK138 := am_ (kb_ hk (bk_ BK138) NB138_0); replace HB := am_ (hb); (try clear hb); (try clear hk); (try clear hi)) | ((with_reducible refine gate_dst (N := 24) rfl ?_); refine Kd.R_lit (Kd.int .i64) _ 2 ?hg (N := 24) ?hd (xs := ([0, 1, 16777215, 8388608, t155, t158, t161] : List Int)) (inner := [.int .i64 0, .int .i64 1, .int .i64 16777215, .int .i64 8388608, .int .i64 t155, .int .i64 t158, .int .i64 t161]) (ok := fun _ => True) (okp := fun _ => True) ?hr ?hp (fun _ hk => hk) trivial (Below.refl _ _) (Nat.le_refl _) (by simp) ?_; (case hd => rfl); (case hg => rfl); (case hr => first | (go_simp; done) | (go_simp; rfl)); (case hp => exact (Reps.one (show Kd.M (Kd.int .i64) _ _ _ 0 [.int .i64 0] from rfl) (Reps.one (show Kd.M (Kd.int .i64) _ _ _ 1 [.int .i64 1] from rfl) (Reps.one (show Kd.M (Kd.int .i64) _ _ _ 16777215 [.int .i64 16777215] from rfl) (Reps.one (show Kd.M (Kd.int .i64) _ _ _ 8388608 [.int .i64 8388608] from rfl) (Reps.one (show Kd.M (Kd.int .i64) _ _ _ t155 [.int .i64 t155] from rfl) (Reps.one (show Kd.M (Kd.int .i64) _ _ _ t158 [.int .i64 t158] from rfl) (Reps.one (show Kd.M (Kd.int .i64) _ _ _ t161 [.int .i64 t161] from rfl) (Reps.none _ _))))))))); intro v165 w17 ho18 hb hg_ hnew_; clear hg_ hnew_; (first | rw [← Ny164.out] at ho18 | (simp only [Int.reduceToNat] at ho18; rw [← Ny164.out] at ho18)); have n0_ := am_ (Kd.R_elder' (kr_ HO_5) (Kd.R_base ho18) hb); have n1_ := am_ (Kd.R_lower (Kd.R_new' ho18 (Kd.R_lt (kr_ HO_5))) (keep_size (w := w) (g := g) (row := none) (hk_ HK))); have n2_ := am_ (blk_below (bk_ BK138) hb); have n3_ := am_ (IsS91.below (is_ HI0) hb); have n4_ := am_ (KeepBut.trans (hk_ HK) (KeepBut.of_below hb g none) (.inl rfl)); have n5_ := am_ (below_step (bi_ HB) hb); clear HO_5; clear BK138; clear HI0; clear HK; clear HB; have HO_5 := n0_; have HO166 := n1_; have BK138 := n2_; have HI0 := n3_; have HK := n4_; have HB := n5_; clear n0_ n1_ n2_ n3_ n4_ n5_; clear hb ho18; obtain ⟨Ao19, co19, eo19⟩ := Kd.R_slice HO166.out; subst eo19) | ((with_reducible refine gate_callee (f := 58) rfl ?_); refine goesL_ (some 25) rfl rfl Tryd.func58 (by kernel_rfl) rfl #[.pointer (some ⟨g, 0, none⟩), .slice Ao19 y164.length co19] rfl ma_ ?_; (with_reducible refine (spec_l01Pick.calls g s0_0 t162 t163 _ _ y164 t167 t168 t169 w0 _ ?side1 ?side2 ?side3 ?side4 ?side5 A12.out).mono ?_); (case side1 => exact is_ HI0); (case side2 => exact bi_ HB); (case side3 => exact cr_ HO166); (case side4 => exact (Kd.R_reads' HO166.out).2.1); (case side5 => exact far_slice (IsS91.own_ne HI0.out HO166.out (by decide))); rintro e w20 ⟨rfl, hi, hb, hk⟩; refine ⟨_, rfl, ?_⟩; replace HO_5 := am_ (Kd.R_mono (Kd.R_keep (IsS91.apart (show IsS91 w0 _ g s0_0 t162 t163 from is_ HI0) (kr_ HO_5) (by decide)) hk (fun _ h => h.2)) (fun _ h => h.1)); replace HO166 := am_ (Kd.R_mono (Kd.R_keep (IsS91.apart (show IsS91 w0 _ g s0_0 t162 t163 from is_ HI0) (kr_ HO166) (by decide)) hk (fun _ h => h.2)) (fun _ h => h.1)); replace HK := am_ (KeepBut.trans (hk_ HK) hk (.inl rfl)); replace HI0 := am_ (hi); replace BK138 := am_ (kb_ hk (bk_ BK138) NB138_0); replace HB := am_ (hb); (try clear hb); (try clear hk); (try clear hi)) | ((with_reducible refine gate_builtin (b := .append) (xs := #[.tmp 16, .tmp 26]) rfl ?_); at_builtin; refine Kd.R_append (Kd.int .i64) w.heap.size rfl (.tmp 16) (.tmp 26) 24 2 (.int .i64 0) 8 rfl Tryd.underlying24 info2 rfl (by decide) (by omega) u5 x5_1 t167 [.int .i64 t167] (fun k_ => some k_ ≠ (.slice Ao19 y164.length co19 : Value).ownBlock) (fun _ => False) rfl rfl ?aP (fun _ hk => hk.elim) ?aF ?aO (Below.refl _ _) ?aS ?aL ?_; (case aP => exact rfl); (case aF => exact (fun k_ hk => Kd.fresh' (Kd.R_lt (kr_ HO166)) k_ hk)); (case aO => exact (km_ HO_5 (fun _ hk => hk.2))); (case aS => exact (keep_size (w := w) (g := g) (row := none) (hk_ HK))); (case aL => have := LMc13.out; omega); intro v171 w21 ho hb hg hat; rw [← Ny170.out] at ho; have n0_ := am_ (blk_grown (g := gb138) (o := .cells #[.int .i64 0, .slice none 0 0] 26 (0, 0)) (bk_ BK138) hg (Kd.R_ne HO_5.out BK138.out (by decide))); have n1_ := am_ (IsS91.grown (is_ HI0) hg (IsS91.own_ne HI0.out HO_5.out (by decide))); have n2_ := am_ (Kd.R_after (ok := (fun _ => True)) (kr_ HO166) hg hat); have n3_ := am_ (below_weaken (bi_ HB) HL.out hb); have n4_ := am_ (KeepBut.trans (hk_ HK) (KeepBut.of_grown hg g) (Kd.R_base2 HO_5.out)); have n5_ := am_ (ho); clear BK138; clear HI0; clear HO166; clear HB; clear HK; clear HO_5; have BK138 := n0_; have HI0 := n1_; have HO166 := n2_; have HB := n3_; have HK := n4_; have HO172 := n5_; clear n0_ n1_ n2_ n3_ n4_ n5_; clear ho hb hg hat))
     go_roundg k1
     case measure => have := HK1.out; omega
     case rel => exact ⟨(y170), (wrap64 (x6_1 - 1)), (t168), (t169), (by first | rfl | (simp; done) | (simp [*]; done)), H', ⟨by have := HK1.out; omega⟩, ⟨by (with_reducible repeat (first | apply Kd.R_alloc | apply Kd.R_drewN | apply Kd.R_drew)); exact Kd.R_mono HO172.out (fun _ hk => trivial)⟩, ⟨bk_ BK138⟩, ⟨is_ HI0⟩, ⟨hk_ HK⟩, ⟨bi_ HB⟩⟩
    ·rw [if_neg c13] at H
     exact absurd H (by simp)
   ·rw [if_neg c8] at H
    have c8b0 : decide (0 < x6_1) = false := decide_eq_false c8
    clear c8
    obtain ⟨y145, hy145⟩ : ∃ y_ : List Int, y_ = (([1, (-1)] : List Int)) := ⟨_, rfl⟩
    replace H : ((spec_l01Pick.f s0_0 x1001_1 x1002_1 y145).bind fun bt148 => ((spec_l02Make.f k1 bt148.1 x5_1).bind fun bt151 => (some (bt151.1, bt151.2, bt148.2.1, bt148.2.2)))) = some (r1, r2, r3, r4) := by first | (rw [hy145]; with_reducible exact H) | (have H2_ := (Option.bind_some _ _).symm.trans H; rw [hy145]; with_reducible exact H2_) | (have H2_ := (Option.bind_some _ _).symm.trans H; with_reducible exact H2_) | with_reducible exact H | (rw [hy145]; exact H) | exact H
    have Ny145 := am_ hy145; clear hy145
    replace H := Option.bind_eq_some_iff.mp H
    obtain ⟨⟨t148, t149, t150⟩, A220, H⟩ := H
    try dsimp only at H
    have A22 := am_ A220; clear A220
    replace H := Option.bind_eq_some_iff.mp H
    obtain ⟨⟨t151, t152⟩, A230, H⟩ := H
    try dsimp only at H
    have A23 := am_ A230; clear A230
    simp only [Option.some.injEq, Prod.mk.injEq] at H
    obtain ⟨rfl, rfl, rfl, rfl⟩ := H
    go_wp2_with (first | ((with_reducible refine gate_dst (N := 29) rfl ?_); refine Kd.R_lit (Kd.int .i64) _ 2 ?hg (N := 29) ?hd (xs := ([1, (-1)] : List Int)) (inner := [.int .i64 1, .int .i64 (-1)]) (ok := fun _ => True) (okp := fun _ => True) ?hr ?hp (fun _ hk => hk) trivial (Below.refl _ _) (Nat.le_refl _) (by simp) ?_; (case hd => rfl); (case hg => rfl); (case hr => first | (go_simp; done) | (go_simp; rfl)); (case hp => exact (Reps.one (show Kd.M (Kd.int .i64) _ _ _ 1 [.int .i64 1] from rfl) (Reps.one (show Kd.M (Kd.int .i64) _ _ _ (-1) [.int .i64 (-1)] from rfl) (Reps.none _ _)))); intro v146 w24 ho25 hb hg_ hnew_; clear hg_ hnew_; (first | rw [← Ny145.out] at ho25 | (simp only [Int.reduceToNat] at ho25; rw [← Ny145.out] at ho25)); have n0_ := am_ (Kd.R_elder' (kr_ HO_5) (Kd.R_base ho25) hb); have n1_ := am_ (Kd.R_lower (Kd.R_new' ho25 (Kd.R_lt (kr_ HO_5))) (keep_size (w := w) (g := g) (row := none) (hk_ HK))); have n2_ := am_ (blk_below (bk_ BK138) hb); have n3_ := am_ (IsS91.below (is_ HI0) hb); have n4_ := am_ (KeepBut.trans (hk_ HK) (KeepBut.of_below hb g none) (.inl rfl)); have n5_ := am_ (below_step (bi_ HB) hb); clear HO_5; clear BK138; clear HI0; clear HK; clear HB; have HO_5 := n0_; have HO147 := n1_; have BK138 := n2_; have HI0 := n3_; have HK := n4_; have HB := n5_; clear n0_ n1_ n2_ n3_ n4_ n5_; clear hb ho25; obtain ⟨Ao26, co26, eo26⟩ := Kd.R_slice HO147.out; subst eo26) | ((with_reducible refine gate_callee (f := 58) rfl ?_); refine goesL_ (some 30) rfl rfl Tryd.func58 (by kernel_rfl) rfl #[.pointer (some ⟨g, 0, none⟩), .slice Ao26 y145.length co26] rfl ma_ ?_; (with_reducible refine (spec_l01Pick.calls g s0_0 x1001_1 x1002_1 _ _ y145 t148 t149 t150 w0 _ ?side1 ?side2 ?side3 ?side4 ?side5 A22.out).mono ?_); (case side1 => exact is_ HI0); (case side2 => exact bi_ HB); (case side3 => exact cr_ HO147); (case side4 => exact (Kd.R_reads' HO147.out).2.1); (case side5 => exact far_slice (IsS91.own_ne HI0.out HO147.out (by decide))); rintro e w27 ⟨rfl, hi, hb, hk⟩; refine ⟨_, rfl, ?_⟩; replace HO_5 := am_ (Kd.R_mono (Kd.R_keep (IsS91.apart (show IsS91 w0 _ g s0_0 x1001_1 x1002_1 from is_ HI0) (kr_ HO_5) (by decide)) hk (fun _ h => h.2)) (fun _ h => h.1)); replace HO147 := am_ (Kd.R_mono (Kd.R_keep (IsS91.apart (show IsS91 w0 _ g s0_0 x1001_1 x1002_1 from is_ HI0) (kr_ HO147) (by decide)) hk (fun _ h => h.2)) (fun _ h => h.1)); replace HK := am_ (KeepBut.trans (hk_ HK) hk (.inl rfl)); replace HI0 := am_ (hi); replace BK138 := am_ (kb_ hk (bk_ BK138) NB138_0); replace HB := am_ (hb); (try clear hb); (try clear hk); (try clear hi); obtain ⟨Ao28, co28, eo28⟩ := Kd.R_slice HO_5.out; subst eo28) | ((with_reducible refine gate_callee (f := 81) rfl ?_); refine goesL_ (some 32) rfl rfl Tryd.func81 (by kernel_rfl) rfl #[.int .i64 t148, .slice Ao28 x5_1.length co28] rfl ma_ ?_; (with_reducible refine (spec_l02Make.calls k1 t148 _ _ x5_1 t151 t152 _ ?side1 ?side2 A23.out).mono ?_); (case side1 => exact cr_ HO_5); (case side2 => exact (Kd.R_reads' HO_5.out).2.1); rintro e w29 ⟨v153, rfl, ho0, hb⟩; refine ⟨_, rfl, ?_⟩; have n0_ := am_ (Kd.R_elder' (kr_ HO_5) (Kd.R_base ho0) hb); have n1_ := am_ (Kd.R_elder' (kr_ HO147) (Kd.R_base ho0) hb); have n2_ := am_ (Kd.R_lower (Kd.R_new' (Kd.R_new' ho0 (Kd.R_lt (kr_ HO_5))) (Kd.R_lt (kr_ HO147))) (keep_size (w := w) (g := g) (row := none) (hk_ HK))); have n3_ := am_ (blk_below (bk_ BK138) hb); have n4_ := am_ (IsS91.below (is_ HI0) hb); have n5_ := am_ (KeepBut.trans (hk_ HK) (KeepBut.of_below hb g none) (.inl rfl)); have n6_ := am_ (below_step (bi_ HB) hb); clear HO_5; clear HO147; clear BK138; clear HI0; clear HK; clear HB; have HO_5 := n0_; have HO147 := n1_; have HO154 := n2_; have BK138 := n3_; have HI0 := n4_; have HK := n5_; have HB := n6_; clear n0_ n1_ n2_ n3_ n4_ n5_ n6_; (try clear hb); (try clear ho0); have hnb30 := NB138_0.out; have hnc30 := NB0_138.out; obtain ⟨hcz31_0, hcz31_1, hfz31_0, hfz31_1⟩ := ck2_ BK138; obtain ⟨Ao32, co32, eo32⟩ := Kd.R_slice HO154.out; subst eo32))
    refine bodyPost_ret (results_cell_row rfl _ _ gb138 26 #[.int .i64 t151, .slice Ao32 t152.length co32] (0, 0) _ rfl (bp2_ BK138) Tryd.underlying26 rfl (by kernel_rfl)) rfl ?_
    exact ⟨_, by first | rfl | (simp [errW_none, errW_some] <;> rfl) | (simp [*, errW_none, errW_some] <;> rfl), rt_ HO154 BK138, is_ HI0, bi_ HB, hk_ HK⟩
end Go.Proofs.YtlkomiiijhphnaaDoor.X
namespace Go.Proofs.YtlkomiiijhphnaaDoor.X
open Go.RowKit Go.Proofs.YtlkomiiijhphnaaDoorW.PrintWords Go.Proofs.YtlkomiiijhphnaaDoorW.PrintLast Go.Proofs.YtlkomiiijhphnaaDoorW.PrintMore Go.Proofs.YtlkomiiijhphnaaDoor.Sq
attribute [local go_sem] max2_int min2_int max_two min_two max_three min_three max_four min_four   -- for this text's walks alone
set_option linter.unusedVariables false
set_option linter.unusedSimpArgs false
def spec_l02Left.l0 : Nat → Int → List Int → Int → Int → Int → List Int → Option (Int × List Int)
  | 0, _, _, _, _, _, _ => none
  | k + 1, x1, x5, x6, x7, x174000, x174001 => if x7 < (x174001.length : Int) then (if 0 ≤ x7 then (if 0 ≤ (IntKind.u64.wrap (Int.tmod x1 24)) then (if x5.length < 17592186044416 then (spec_l02Left.l0 k x1 (x5 ++ [Int.tmod (wrap64 (x6 + (shl .i64 (rd x174001 x7) (IntKind.u64.wrap (Int.tmod x1 24))))) 16777216]) (wrap64 (Int.tdiv (wrap64 (x6 + (shl .i64 (rd x174001 x7) (IntKind.u64.wrap (Int.tmod x1 24))))) 16777216)) (wrap64 (x7 + 1)) x174000 x174001) else (none)) else (none)) else (none)) else (if x5.length < 17592186044416 then ((spec_l02Make.f k x174000 (x5 ++ [x6])).bind fun bt185 => (some (bt185.1, bt185.2))) else (none))
def spec_l02Left.f (k : Nat) (a0_0 : Int) (l0_1 : List Int) (a1 : Int) : Option (Int × List Int) := if 0 ≤ (wrap64 (Int.tdiv a1 24)) then (if (wrap64 (Int.tdiv a1 24) : Int).toNat ≤ 35184372088832 then (spec_l02Left.l0 k a1 (List.replicate (wrap64 (Int.tdiv a1 24) : Int).toNat 0) 0 0 a0_0 l0_1) else (none)) else (none)
def spec_l02Left.T9 : Bool × List (List Nat × List Nat) := (true, [([], []), ([0], [0]), ([], []), ([], []), ([3], [3]), ([2, 4], [2, 4]), ([1, 5, 5], [1, 5]), ([6, 6, 0, 1, 2, 3, 4, 5, 6], [6])])
def spec_l02Left.B9 : List Nat := [0, 1, 0, 0, 8, 28, 63, 127]
theorem spec_l02Left.tab9 : rtab .any (opsOf Tryd.f78 9) = spec_l02Left.T9 := by kernel_rfl
theorem spec_l02Left.bits9 : waitsOk spec_l02Left.T9.2 spec_l02Left.B9 = true := by kernel_rfl
set_option maxHeartbeats 8000000 in
set_option maxRecDepth 100000 in
theorem spec_l02Left.calls (k : Nat) (a0_0 : Int) (A0_1 : Option Addr) (c0_1 : Nat) (l0_1 : List Int) (a1 : Int) (r1 : Int) (r2 : List Int) (w : World) (hr0_1 : Kd.C (Kd.int .i64) w A0_1 l0_1.length l0_1) (hc0_1 : l0_1.length ≤ c0_1) (h : spec_l02Left.f k a0_0 l0_1 a1 = some (r1, r2)) :
  Calls Tryd.prog 78 #[.agg #[.int .i64 a0_0, .slice A0_1 l0_1.length c0_1], .int .i64 a1] w fun e w' => ∃ v1_ : Value, e = .returned (.agg #[.int .i64 r1, v1_]) ∧ Kd.R (Kd.int .i64) 2 w' w.heap.size (fun _ => True) v1_ r2 ∧ Below w.heap.size w w' := by
 have hu26 := Tryd.underlying26; have HR0_1 := am_ hr0_1; have HC0_1 := am_ hc0_1; clear hr0_1 hc0_1; have HB := am_ (Below.refl w.heap.size w)
 have H : (if 0 ≤ (wrap64 (Int.tdiv a1 24)) then (if (wrap64 (Int.tdiv a1 24) : Int).toNat ≤ 35184372088832 then (spec_l02Left.l0 k a1 (List.replicate (wrap64 (Int.tdiv a1 24) : Int).toNat 0) 0 0 a0_0 l0_1) else (none)) else (none)) = some (r1, r2) := h
 clear h
 obtain ⟨ji3, hji3⟩ : ∃ j_ : Int, (wrap64 (Int.tdiv a1 24)) = j_ := ⟨_, rfl⟩
 replace H : (if 0 ≤ (ji3) then (if (ji3 : Int).toNat ≤ 35184372088832 then (spec_l02Left.l0 k a1 (List.replicate (ji3 : Int).toNat 0) 0 0 a0_0 l0_1) else (none)) else (none)) = some (r1, r2) := by first | (rw [hji3] at H; exact H) | (simp only [hji3] at H ⊢; exact H)
 have hji3w : (IntKind.i64.wrap (Int.tdiv a1 24)) = ji3 := (i64_w _).trans hji3
 by_cases c4 : 0 ≤ (ji3)
 ·rw [if_pos c4] at H
  have c4b0 := eq_true c4
  have c4b1 : decide (0 ≤ (ji3)) = true := decide_eq_true c4
  clear c4
  by_cases c5 : (ji3 : Int).toNat ≤ 35184372088832
  ·rw [if_pos c5] at H
   have c5b0 := eq_true c5
   have c5b1 : decide ((ji3 : Int).toNat ≤ 35184372088832) = true := decide_eq_true c5
   clear c5
   obtain ⟨y175, hy175⟩ : ∃ y_ : List Int, y_ = (List.replicate (ji3 : Int).toNat 0) := ⟨_, rfl⟩
   replace H : (spec_l02Left.l0 k a1 y175 0 0 a0_0 l0_1) = some (r1, r2) := by first | (rw [hy175]; with_reducible exact H) | (have H2_ := (Option.bind_some _ _).symm.trans H; rw [hy175]; with_reducible exact H2_) | (have H2_ := (Option.bind_some _ _).symm.trans H; with_reducible exact H2_) | with_reducible exact H | (rw [hy175]; exact H) | exact H
   have Ny175 := am_ hy175; clear hy175
   have H' := am_ H
   clear H
   go_enter Tryd.func78, Tryd.ntmps78
   go_wp2_with (first | ((with_reducible refine gate_dst (N := 2) rfl ?_); refine bx_ 2 #[.int .i64 a0_0, .slice A0_1 l0_1.length c0_1] 26 ?_; intro gb173 hg w6 hbox hb; obtain ⟨BK173, GW173, GE173⟩ := nb_ hbox hg HB; replace HB := bs_ HB hb; clear hb hbox hg) | ((with_reducible refine gate_dst (N := 4) rfl ?_); refine bx_ 4 #[.int .i64 0, .slice none 0 0] 26 ?_; intro gb174 hg w7 hbox hb; obtain ⟨BK174, GW174, GE174⟩ := nb_ hbox hg HB; obtain ⟨NB173_174, NB174_173⟩ := nn_ hg BK173; replace BK173 := bb_ BK173 hb; replace HB := bs_ HB hb; clear hb hbox hg) | ((with_reducible refine gate_dst (N := 10) rfl ?_); refine Kd.R_make (Kd.int .i64) _ 2 rfl (N := 10) rfl 24 _ _ rfl ji3 rfl rfl Tryd.underlying24 (.int .i64 0) 8 info2 rfl (by decide) (by omega) 0 (ok := fun _ => True) (okp := fun _ => True) rfl (fun _ hk => hk) trivial (of_decide_eq_true (by first | (with_reducible assumption) | assumption)) (Nat.le_trans (Nat.mul_le_mul_right _ (of_decide_eq_true (by first | (with_reducible assumption) | assumption) : ji3.toNat ≤ 35184372088832)) (by omega)) (Below.refl _ _) (Nat.le_refl _) ?_; intro v176 w8 ho9 hb hg_ hnew_; clear hg_ hnew_; (first | rw [← Ny175.out] at ho9 | (simp only [Int.reduceToNat] at ho9; rw [← Ny175.out] at ho9)); have HO177 := am_ (Kd.R_lower ho9 (below_size (bl_ HB))); replace BK173 := bb_ BK173 hb; replace BK174 := bb_ BK174 hb; replace HB := bs_ HB hb; clear hb ho9))
   go_loopg [5, 6, 7] k (fun kq v5 v6 v7 w' => ∃ (x5_1 : List Int) (x6_1 : Int) (x7_1 : Int), v6 = .int .i64 x6_1 ∧ v7 = .int .i64 x7_1 ∧ Aside0 (spec_l02Left.l0 kq a1 x5_1 x6_1 x7_1 a0_0 l0_1 = some (r1, r2)) ∧ Aside0 (kq ≤ k) ∧ Aside0 (Kd.R (Kd.int .i64) 2 w' w.heap.size (fun _ => True) v5 x5_1) ∧ Aside0 (w'.heap[gb173]? = some (.cells #[.int .i64 a0_0, (.slice A0_1 l0_1.length c0_1)] 26 (0, 0))) ∧ Aside0 (w'.heap[gb174]? = some (.cells #[.int .i64 0, (.slice none 0 0)] 26 (0, 0))) ∧ Aside0 (Below w.heap.size w w'))
   case atStart => exact ⟨(y175), (0), (0), (by first | rfl | (simp; done) | (simp [*]; done)), (by first | rfl | (simp; done) | (simp [*]; done)), H', ⟨Nat.le_refl _⟩, ⟨kr_ HO177⟩, ⟨bk_ BK173⟩, ⟨bk_ BK174⟩, ⟨bl_ HB⟩⟩
   case round =>
    clear H'; try clear c4; try clear c4b0; try clear c4b1; try clear c5; try clear c5b0; try clear c5b1
    obtain ⟨x5_1, x6_1, x7_1, rfl, rfl, HA, HK1, HO_5, BK173, BK174, HB⟩ := hrel
    cases gk with
    | zero => exact absurd HA.out (by simp [spec_l02Left.l0])
    | succ k1 =>
     have H := HA.out; clear HA
     simp only [spec_l02Left.l0] at H
     by_cases c10 : x7_1 < (l0_1.length : Int)
     ·rw [if_pos c10] at H
      have c10b0 : decide (x7_1 < (l0_1.length : Int)) = true := decide_eq_true c10
      clear c10
      by_cases c11 : 0 ≤ x7_1
      ·rw [if_pos c11] at H
       have c11b0 : decide (0 ≤ x7_1) = true := decide_eq_true c11
       clear c11
       obtain ⟨ji12, hji12⟩ : ∃ j_ : Int, (IntKind.u64.wrap (Int.tmod a1 24)) = j_ := ⟨_, rfl⟩
       replace H : (if 0 ≤ (ji12) then (if x5_1.length < 17592186044416 then (spec_l02Left.l0 k1 a1 (x5_1 ++ [Int.tmod (wrap64 (x6_1 + (shl .i64 (rd l0_1 x7_1) (ji12)))) 16777216]) (wrap64 (Int.tdiv (wrap64 (x6_1 + (shl .i64 (rd l0_1 x7_1) (ji12)))) 16777216)) (wrap64 (x7_1 + 1)) a0_0 l0_1) else (none)) else (none)) = some (r1, r2) := by first | (rw [hji12] at H; exact H) | (simp only [hji12] at H ⊢; exact H)
       by_cases c13 : 0 ≤ (ji12)
       ·rw [if_pos c13] at H
        have c13b0 := eq_true c13
        have c13b1 : decide (0 ≤ (ji12)) = true := decide_eq_true c13
        clear c13
        obtain ⟨ji14, hji14⟩ : ∃ j_ : Int, (shl .i64 (rd l0_1 x7_1) (ji12)) = j_ := ⟨_, rfl⟩
        replace H : (if x5_1.length < 17592186044416 then (spec_l02Left.l0 k1 a1 (x5_1 ++ [Int.tmod (wrap64 (x6_1 + (ji14))) 16777216]) (wrap64 (Int.tdiv (wrap64 (x6_1 + (ji14))) 16777216)) (wrap64 (x7_1 + 1)) a0_0 l0_1) else (none)) = some (r1, r2) := by first | (rw [hji14] at H; exact H) | (simp only [hji14] at H ⊢; exact H)
        have hji14_ : (IntKind.i64.wrap ((rd l0_1 x7_1) * 2 ^ min (ji12).toNat 64)) = ji14 := hji14
        have hji14z : (ji12) ≤ 64 → (IntKind.i64.wrap ((rd l0_1 x7_1) * 2 ^ (ji12).toNat)) = ji14 := shl_small hji14
        have hji14y : (wrap64 ((rd l0_1 x7_1) * 2 ^ min (ji12).toNat 64)) = ji14 := (i64_w _).symm.trans hji14_
        have hji14x : (ji12) ≤ 64 → (wrap64 ((rd l0_1 x7_1) * 2 ^ (ji12).toNat)) = ji14 := fun h_ => (i64_w _).symm.trans (hji14z h_)
        by_cases c15 : x5_1.length < 17592186044416
        ·rw [if_pos c15] at H
         have LMc15 := am_ c15; clear c15
         obtain ⟨y179, hy179⟩ : ∃ y_ : List Int, y_ = (x5_1 ++ [Int.tmod (wrap64 (x6_1 + (ji14))) 16777216]) := ⟨_, rfl⟩
         replace H : (spec_l02Left.l0 k1 a1 y179 (wrap64 (Int.tdiv (wrap64 (x6_1 + (ji14))) 16777216)) (wrap64 (x7_1 + 1)) a0_0 l0_1) = some (r1, r2) := by first | (rw [hy179]; with_reducible exact H) | (have H2_ := (Option.bind_some _ _).symm.trans H; rw [hy179]; with_reducible exact H2_) | (have H2_ := (Option.bind_some _ _).symm.trans H; with_reducible exact H2_) | with_reducible exact H | (rw [hy179]; exact H) | exact H
         have Ny179 := am_ hy179; clear hy179
         have H' := am_ H
         clear H; have hnb16 := NB173_174.out; have hnc16 := NB174_173.out
         obtain ⟨hcz17_0, hcz17_1, hfz17_0, hfz17_1⟩ := ck2_ BK173
         have p178 : 0 ≤ (x7_1 : Int) := of_decide_eq_true (by first | (with_reducible assumption) | assumption)
         have q178 : x7_1 < (l0_1.length : Int) := of_decide_eq_true (by first | (with_reducible assumption) | assumption)
         obtain ⟨ad178, e178, hx178_0⟩ := Kd.at_int HR0_1.out x7_1 p178 q178
         cases e178
         replace hx178_0 := (HB.out.cell (World.block_lt_of_cell? w _ hx178_0)).trans hx178_0
         replace p178 := eq_true p178
         replace q178 := eq_true q178
         go_wp2_with (first | ((with_reducible refine gate_builtin (b := .append) (xs := #[.tmp 29, .tmp 32]) rfl ?_); at_builtin; refine Kd.R_append (Kd.int .i64) (w0 := w) w.heap.size rfl (.tmp 29) (.tmp 32) 24 2 (.int .i64 0) 8 rfl Tryd.underlying24 info2 rfl (by decide) (by omega) u5 x5_1 (Int.tmod (wrap64 (x6_1 + (ji14))) 16777216) [.int .i64 (Int.tmod (wrap64 (x6_1 + (ji14))) 16777216)] (fun _ => True) (fun _ => False) rfl rfl ?aP (fun _ hk => hk.elim) ?aF ?aO ?aB ?aS ?aL ?_; (case aP => exact rfl); (case aB => exact (bl_ HB)); (case aF => exact (fun _ _ => trivial)); (case aO => exact (kr_ HO_5)); (case aS => exact (below_size (bl_ HB))); (case aL => have := LMc15.out; omega); intro v180 w18 ho hb hg hat; rw [← Ny179.out] at ho; have n0_ := am_ (blk_grown (g := gb173) (o := .cells #[.int .i64 a0_0, .slice (some ad178) l0_1.length c0_1] 26 (0, 0)) (bk_ BK173) hg (Kd.R_ne HO_5.out BK173.out (by decide))); have n1_ := am_ (blk_grown (g := gb174) (o := .cells #[.int .i64 0, .slice none 0 0] 26 (0, 0)) (bk_ BK174) hg (Kd.R_ne HO_5.out BK174.out (by decide))); have n2_ := am_ (hb); have n3_ := am_ (ho); clear BK173; clear BK174; clear HB; clear HO_5; have BK173 := n0_; have BK174 := n1_; have HB := n2_; have HO181 := n3_; clear n0_ n1_ n2_ n3_; clear ho hb hg hat))
         go_roundg k1
         case measure => have := HK1.out; omega
         case rel => exact ⟨(y179), (wrap64 (Int.tdiv (wrap64 (x6_1 + (ji14))) 16777216)), (wrap64 (x7_1 + 1)), (by first | rfl | (simp; done) | (simp only [← hji14] <;> (first | rfl | simp)) | (simp [*]; done)), (by first | rfl | (simp; done) | (simp [*]; done)), H', ⟨by have := HK1.out; omega⟩, ⟨kr_ HO181⟩, ⟨bk_ BK173⟩, ⟨bk_ BK174⟩, ⟨bl_ HB⟩⟩
        ·rw [if_neg c15] at H
         exact absurd H (by simp)
       ·rw [if_neg c13] at H
        exact absurd H (by simp)
      ·rw [if_neg c11] at H
       exact absurd H (by simp)
     ·rw [if_neg c10] at H
      have c10b0 : decide (x7_1 < (l0_1.length : Int)) = false := decide_eq_false c10
      clear c10
      by_cases c19 : x5_1.length < 17592186044416
      ·rw [if_pos c19] at H
       have LMc19 := am_ c19; clear c19
       obtain ⟨y182, hy182⟩ : ∃ y_ : List Int, y_ = (x5_1 ++ [x6_1]) := ⟨_, rfl⟩
       replace H : ((spec_l02Make.f k1 a0_0 y182).bind fun bt185 => (some (bt185.1, bt185.2))) = some (r1, r2) := by first | (rw [hy182]; with_reducible exact H) | (have H2_ := (Option.bind_some _ _).symm.trans H; rw [hy182]; with_reducible exact H2_) | (have H2_ := (Option.bind_some _ _).symm.trans H; with_reducible exact H2_) | with_reducible exact H | (rw [hy182]; exact H) | exact H
       have Ny182 := am_ hy182; clear hy182
       replace H := Option.bind_eq_some_iff.mp H
       obtain ⟨⟨t185, t186⟩, A200, H⟩ := H
       try dsimp only at H
       have A20 := am_ A200; clear A200
       simp only [Option.some.injEq, Prod.mk.injEq] at H
       obtain ⟨rfl, rfl⟩ := H
       have hnb21 := NB173_174.out; have hnc21 := NB174_173.out
       obtain ⟨hcz22_0, hcz22_1, hfz22_0, hfz22_1⟩ := ck2_ BK173
       try go_wp2
       replace HO_5 := am_ (Kd.R_drew HO_5.out); replace BK173 := am_ (blk_drew BK173.out); replace BK174 := am_ (blk_drew BK174.out); replace HB := am_ (below_drew1 HB.out)
       refine start_ (n := 8) (S := fun w' => w'.cell? ⟨gb173, 0, none⟩ = some (.int .i64 a0_0) ∧ w'.cell? ⟨gb173, 1, none⟩ = some (.slice A0_1 l0_1.length c0_1)) (ds := []) #[false, false, false, false, false, false, false, false] (by kernel_rfl) rfl rfl ⟨bc_ BK173 0, bc_ BK173 1⟩ (fun hHeld => ?_); refine with_tabW spec_l02Left.tab9 spec_l02Left.bits9 (fun HT_ HW_ => ?_)
       generalize wr.drew = w23 at HO_5 BK173 BK174 HB hHeld ⊢
       refine pu_ #[true, false, false, false, false, false, false, false] 0 36 (any_of HT_.out (by kernel_rfl)) ?_
       refine pu_ #[true, false, true, false, false, false, false, false] 2 38 (any_of HT_.out (by kernel_rfl)) ?_
       refine pu_ #[true, false, true, true, false, false, false, false] 3 39 (any_of HT_.out (by kernel_rfl)) ?_
       refine tk_ #[true, true, true, true, false, false, false, false] 1 37 (take_ofW HT_.out HW_.out (by kernel_rfl)) hHeld ?_
       refine one_ (i := 4) (N := some 40) #[true, true, true, true, true, false, false, false] rfl rfl (one_of HT_.out (by kernel_rfl)) (by decide) (fun K hK => ?_)
       refine value_ (w1 := ?_) (v := ?_) (by rfl) rfl ?_ ?_
       rotate_left 2
       ·go_simp
        constructor
        ·rfl
        ·rfl
       refine hK.out _ _ ⟨(blk_cell (blk_alloc BK173.out _) 0).trans rfl, (blk_cell (blk_alloc BK173.out _) 1).trans rfl⟩ (fun hHeld => ?_)
       clear hK K
       refine nr_ ?_
       refine one_ (i := 5) (N := some 41) #[true, true, true, true, true, true, false, false] rfl rfl (one_of HT_.out (by kernel_rfl)) (by decide) (fun K hK => ?_)
       refine Kd.R_append_step (Kd.int .i64) (w0 := w) w.heap.size (by rfl) (.tmp 38) (.tmp 40) 24 2 (.int .i64 0) 8 rfl Tryd.underlying24 info2 rfl (by decide) (by omega) u5 x5_1 x6_1 [.int .i64 x6_1] (fun _ => True) (fun _ => False) rfl rfl ?aP (fun _ hk => hk.elim) ?aF ?aO ?aB ?aS ?aL ?_
       (case aP => exact rfl)
       (case aB => exact (bl_ HB))
       (case aF => exact (fun _ _ => trivial))
       (case aO => exact (kr_ HO_5))
       (case aS => exact (below_size (bl_ HB)))
       (case aL => have := LMc19.out; omega)
       intro v183 w24 ho hb hg hat
       rw [← Ny182.out] at ho
       have n0_ := am_ (blk_grown (g := gb173) (o := .cells #[.int .i64 a0_0, .slice A0_1 l0_1.length c0_1] 26 (0, 0)) (bk_ BK173) hg (Kd.R_ne HO_5.out BK173.out (by decide)))
       have n1_ := am_ (blk_grown (g := gb174) (o := .cells #[.int .i64 0, .slice none 0 0] 26 (0, 0)) (bk_ BK174) hg (Kd.R_ne HO_5.out BK174.out (by decide)))
       have n2_ := am_ (hb); have n3_ := am_ (ho); clear BK173 BK174 HB HO_5; have BK173 := n0_; have BK174 := n1_; have HB := n2_; have HO184 := n3_; clear n0_ n1_ n2_ n3_ ho hb hg hat
       obtain ⟨Ao25, co25, eo25⟩ := Kd.R_slice HO184.out
       (first | subst eo25 | (injection eo25 with f1_ f2_ f3_; have f4_ := f1_.symm; have f5_ := f3_.symm; clear f1_ f2_ f3_; subst f4_; subst f5_))
       refine hK.out _ _ ⟨bc_ BK173 0, bc_ BK173 1⟩ (fun hHeld => ?_)
       clear hK K
       refine nr_ ?_
       refine one_ (i := 6) (N := some 42) #[true, true, true, true, true, true, true, false] rfl rfl (one_of HT_.out (by kernel_rfl)) (by decide) (fun K hK => ?_)
       refine goes_ Tryd.func81 (by kernel_rfl) rfl #[.int .i64 a0_0, .slice Ao25 y182.length co25] (by rfl) rfl rfl ma_ ?_
       with_reducible refine (spec_l02Make.calls k1 a0_0 _ _ y182 t185 t186 _ ?side1 ?side2 A20.out).mono ?_
       (case side1 => exact cr_ HO184)
       (case side2 => exact (Kd.R_reads' HO184.out).2.1)
       rintro e w26 ⟨v187, rfl, ho0, hb⟩
       refine ⟨_, rfl, ?_⟩
       have HO188 := am_ (Kd.R_lower (Kd.R_new' ho0 (Kd.R_lt (kr_ HO184))) (below_size (bl_ HB))); replace HO184 := am_ (Kd.R_elder' (kr_ HO184) (Kd.R_base ho0) hb); replace BK173 := am_ (blk_below (bk_ BK173) hb); replace BK174 := am_ (blk_below (bk_ BK174) hb); replace HB := am_ (below_step (bl_ HB) hb); (try clear hb); (try clear hb2); (try clear hk); (try clear hi); (try clear ho0)
       obtain ⟨Ao28, co28, eo28⟩ := Kd.R_slice HO188.out
       (first | subst eo28 | (injection eo28 with f1_ f2_ f3_; have f4_ := f1_.symm; have f5_ := f3_.symm; clear f1_ f2_ f3_; subst f4_; subst f5_))
       refine hK.out _ _ ⟨bc_ BK173 0, bc_ BK173 1⟩ (fun hHeld => ?_)
       clear hK K
       refine nr_ ?_
       refine one_ (i := 7) (N := none) #[true, true, true, true, true, true, true, true] rfl rfl (one_of HT_.out (by kernel_rfl)) (by decide) (fun K hK => ?_)
       have hs27 : w26.cell? ⟨gb174, 0, none⟩ = some (.int .i64 0) := bc_ BK174 0
       have hfs27 := blk_frozen BK174.out 0; have hns27_0 := NB173_174.out; have hms27_0 := NB174_173.out
       have hs29 : w26.cell? ⟨gb174, 1, none⟩ = some (.slice none 0 0) := bc_ BK174 1
       have hfs29 := blk_frozen BK174.out 1; have hns29_0 := NB173_174.out; have hms29_0 := NB174_173.out
       refine skip_ (w1 := ?_) (by rfl) rfl ?_ ?_
       rotate_left
       ·go_simp
        rfl
       refine hK.out _ _ ⟨((cell_far (p := ⟨gb174, _, none⟩) NB173_174.out _).trans (((cell_far (p := ⟨gb174, _, none⟩) NB173_174.out _).trans (hHeld.1)))), ((cell_far (p := ⟨gb174, _, none⟩) NB173_174.out _).trans (((cell_far (p := ⟨gb174, _, none⟩) NB173_174.out _).trans (hHeld.2))))⟩ (fun hHeld => ?_)
       clear hK K
       refine done_ (done_of HT_.out (by kernel_rfl)) ?_
       try go_wp2
       refine bodyPost_ret (results_cell_row rfl _ _ gb174 26 #[.int .i64 t185, .slice Ao28 t186.length co28] (0, 0) _ rfl (bp2_ BK174) Tryd.underlying26 rfl (by kernel_rfl)) rfl ?_
       exact ⟨_, by first | rfl | (simp [errW_none, errW_some] <;> rfl) | (simp only [← hji3]; first | rfl | (simp [errW_none, errW_some] <;> rfl)) | (simp [*, errW_none, errW_some] <;> rfl), rt_ HO188 BK174, bl_ HB⟩
      ·rw [if_neg c19] at H
       exact absurd H (by simp)
  ·rw [if_neg c5] at H
   exact absurd H (by simp)
 ·rw [if_neg c4] at H
  exact absurd H (by simp)
def spec_l02Spoil.f (k : Nat) (s0_0 : List Int) (s0_1 : Int) (s0_2 : Int) : Option (Int × List Int × Int × Int) := (spec_l01Pick.f s0_0 s0_1 s0_2 (([1, 2, 4, 8, 8, 20, 200] : List Int))).bind fun bt193 => ((spec_l02Draw.f k s0_0 bt193.2.1 bt193.2.2 bt193.1).bind fun bt196 => ((spec_l01Next.f s0_0 bt196.2.2.1 bt196.2.2.2 30).bind fun bt203 => (if bt203.1 = 0 then ((spec_l01Pick.f s0_0 bt203.2.1 bt203.2.2 (([0, 2, (-2)] : List Int))).bind fun bt209 => (some (bt209.1, bt196.2.1, bt209.2.1, bt209.2.2))) else (if bt203.1 = 1 then (if bt196.2.1.length < 17592186044416 then (some (bt196.1, (bt196.2.1 ++ [0]), bt203.2.1, bt203.2.2)) else (none)) else (if bt203.1 = 2 then ((spec_l01Pick.f s0_0 bt203.2.1 bt203.2.2 (([16777216, (-1), 1099511627776] : List Int))).bind fun bt218 => (if bt196.2.1.length < 17592186044416 then (some (bt196.1, (bt196.2.1 ++ [bt218.1]), bt218.2.1, bt218.2.2)) else (none))) else (if bt203.1 = 3 then ((spec_l01Pick.f s0_0 bt203.2.1 bt203.2.2 (([1, (-1), 3] : List Int))).bind fun bt227 => ((spec_l02Of.f k bt227.1).bind fun bt230 => ((spec_l01Pick.f s0_0 bt227.2.1 bt227.2.2 (([4799, 4798, 4800, 2400] : List Int))).bind fun bt237 => ((spec_l02Left.f k bt230.1 bt230.2 bt237.1).bind fun bt240 => (some (bt240.1, bt240.2, bt237.2.1, bt237.2.2)))))) else (some (bt196.1, bt196.2.1, bt203.2.1, bt203.2.2))))))))
def spec_l02Spoil.T8 : Bool × List (List Nat × List Nat) := (true, [([], []), ([0], [0]), ([], []), ([], []), ([2, 3], [2, 3]), ([4], [4]), ([1, 5, 4], [1, 5]), ([0, 1, 2, 3, 4, 5, 6], []), ([7, 6, 6, 0, 1, 2, 3, 4, 5, 6], [6, 7])])
def spec_l02Spoil.B8 : List Nat := [0, 1, 0, 0, 12, 28, 63, 127, 255]
theorem spec_l02Spoil.tab8 : rtab .any (opsOf Tryd.f64 8) = spec_l02Spoil.T8 := by kernel_rfl
theorem spec_l02Spoil.bits8 : waitsOk spec_l02Spoil.T8.2 spec_l02Spoil.B8 = true := by kernel_rfl
set_option maxHeartbeats 8000000 in
set_option maxRecDepth 100000 in
theorem spec_l02Spoil.calls (k : Nat) (g : Nat) (s0_0 : List Int) (s0_1 : Int) (s0_2 : Int) (r1 : Int) (r2 : List Int) (r3 : Int) (r4 : Int) (w0 w : World) (hI : IsS91 w0 w g s0_0 s0_1 s0_2) (hB : Below w0.heap.size w0 w) (h : spec_l02Spoil.f k s0_0 s0_1 s0_2 = some (r1, r2, r3, r4)) :
  Calls Tryd.prog 64 #[.pointer (some ⟨g, 0, none⟩)] w fun e w' => ∃ v1_ : Value, e = .returned (.agg #[.int .i64 r1, v1_]) ∧ Kd.R (Kd.int .i64) 2 w' w.heap.size (fun _ => True) v1_ r2 ∧ IsS91 w0 w' g s0_0 r3 r4 ∧ Below w0.heap.size w0 w' ∧ KeepBut w w' g none := by
 have hu26 := Tryd.underlying26; have HI0 := am_ hI; have HK := am_ (KeepBut.refl w g none); have HL := am_ hB.size; clear hI; have HW0 := am_ hB.size; have HB := am_ hB; clear hB
 have H : ((spec_l01Pick.f s0_0 s0_1 s0_2 (([1, 2, 4, 8, 8, 20, 200] : List Int))).bind fun bt193 => ((spec_l02Draw.f k s0_0 bt193.2.1 bt193.2.2 bt193.1).bind fun bt196 => ((spec_l01Next.f s0_0 bt196.2.2.1 bt196.2.2.2 30).bind fun bt203 => (if bt203.1 = 0 then ((spec_l01Pick.f s0_0 bt203.2.1 bt203.2.2 (([0, 2, (-2)] : List Int))).bind fun bt209 => (some (bt209.1, bt196.2.1, bt209.2.1, bt209.2.2))) else (if bt203.1 = 1 then (if bt196.2.1.length < 17592186044416 then (some (bt196.1, (bt196.2.1 ++ [0]), bt203.2.1, bt203.2.2)) else (none)) else (if bt203.1 = 2 then ((spec_l01Pick.f s0_0 bt203.2.1 bt203.2.2 (([16777216, (-1), 1099511627776] : List Int))).bind fun bt218 => (if bt196.2.1.length < 17592186044416 then (some (bt196.1, (bt196.2.1 ++ [bt218.1]), bt218.2.1, bt218.2.2)) else (none))) else (if bt203.1 = 3 then ((spec_l01Pick.f s0_0 bt203.2.1 bt203.2.2 (([1, (-1), 3] : List Int))).bind fun bt227 => ((spec_l02Of.f k bt227.1).bind fun bt230 => ((spec_l01Pick.f s0_0 bt227.2.1 bt227.2.2 (([4799, 4798, 4800, 2400] : List Int))).bind fun bt237 => ((spec_l02Left.f k bt230.1 bt230.2 bt237.1).bind fun bt240 => (some (bt240.1, bt240.2, bt237.2.1, bt237.2.2)))))) else (some (bt196.1, bt196.2.1, bt203.2.1, bt203.2.2))))))))) = some (r1, r2, r3, r4) := h
 clear h
 obtain ⟨y190, hy190⟩ : ∃ y_ : List Int, y_ = (([1, 2, 4, 8, 8, 20, 200] : List Int)) := ⟨_, rfl⟩
 replace H : ((spec_l01Pick.f s0_0 s0_1 s0_2 y190).bind fun bt193 => ((spec_l02Draw.f k s0_0 bt193.2.1 bt193.2.2 bt193.1).bind fun bt196 => ((spec_l01Next.f s0_0 bt196.2.2.1 bt196.2.2.2 30).bind fun bt203 => (if bt203.1 = 0 then ((spec_l01Pick.f s0_0 bt203.2.1 bt203.2.2 (([0, 2, (-2)] : List Int))).bind fun bt209 => (some (bt209.1, bt196.2.1, bt209.2.1, bt209.2.2))) else (if bt203.1 = 1 then (if bt196.2.1.length < 17592186044416 then (some (bt196.1, (bt196.2.1 ++ [0]), bt203.2.1, bt203.2.2)) else (none)) else (if bt203.1 = 2 then ((spec_l01Pick.f s0_0 bt203.2.1 bt203.2.2 (([16777216, (-1), 1099511627776] : List Int))).bind fun bt218 => (if bt196.2.1.length < 17592186044416 then (some (bt196.1, (bt196.2.1 ++ [bt218.1]), bt218.2.1, bt218.2.2)) else (none))) else (if bt203.1 = 3 then ((spec_l01Pick.f s0_0 bt203.2.1 bt203.2.2 (([1, (-1), 3] : List Int))).bind fun bt227 => ((spec_l02Of.f k bt227.1).bind fun bt230 => ((spec_l01Pick.f s0_0 bt227.2.1 bt227.2.2 (([4799, 4798, 4800, 2400] : List Int))).bind fun bt237 => ((spec_l02Left.f k bt230.1 bt230.2 bt237.1).bind fun bt240 => (some (bt240.1, bt240.2, bt237.2.1, bt237.2.2)))))) else (some (bt196.1, bt196.2.1, bt203.2.1, bt203.2.2))))))))) = some (r1, r2, r3, r4) := by first | (rw [hy190]; with_reducible exact H) | (have H2_ := (Option.bind_some _ _).symm.trans H; rw [hy190]; with_reducible exact H2_) | (have H2_ := (Option.bind_some _ _).symm.trans H; with_reducible exact H2_) | with_reducible exact H | (rw [hy190]; exact H) | exact H
 have Ny190 := am_ hy190; clear hy190
 replace H := Option.bind_eq_some_iff.mp H
 obtain ⟨⟨t193, t194, t195⟩, A20, H⟩ := H
 try dsimp only at H
 have A2 := am_ A20; clear A20
 replace H := Option.bind_eq_some_iff.mp H
 obtain ⟨⟨t196, t197, t200, t201⟩, A30, H⟩ := H
 try dsimp only at H
 have A3 := am_ A30; clear A30
 replace H := Option.bind_eq_some_iff.mp H
 obtain ⟨⟨t203, t204, t205⟩, A40, H⟩ := H
 try dsimp only at H
 have A4 := am_ A40; clear A40
 have HASIDE := am_ H; clear H
 go_enter Tryd.func64, Tryd.ntmps64
 go_upto_region 3 with (first | ((with_reducible refine gate_dst (N := 2) rfl ?_); refine bx_ 2 #[.int .i64 0, .slice none 0 0] 26 ?_; intro gb189 hg w7 hbox hb; have n0_ := am_ (IsS91.below (is_ HI0) hb); have n1_ := am_ (KeepBut.trans (hk_ HK) (KeepBut.of_below hb g none) (.inl rfl)); have n2_ := am_ (below_step (bi_ HB) hb); have n3_ := am_ (hbox); have n4_ := am_ ((by rw [hg]; exact (keep_size (w := w) (g := g) (row := none) (hk_ HK)) : w.heap.size ≤ gb189)); have n5_ := am_ ((Nat.le_trans HW0.out (by rw [hg]; exact (keep_size (w := w) (g := g) (row := none) (hk_ HK)) : w.heap.size ≤ gb189) : w0.heap.size ≤ gb189)); have n6_ := am_ ((by rw [hg]; exact Nat.ne_of_lt (IsS91.lt (show IsS91 w0 _ g s0_0 s0_1 s0_2 from is_ HI0)) : g ≠ gb189)); have n7_ := am_ ((by rw [hg]; exact Nat.ne_of_gt (IsS91.lt (show IsS91 w0 _ g s0_0 s0_1 s0_2 from is_ HI0)) : gb189 ≠ g)); clear HI0; clear HK; clear HB; have HI0 := n0_; have HK := n1_; have HB := n2_; have BK189 := n3_; have GW189 := n4_; have GE189 := n5_; have NB0_189 := n6_; have NB189_0 := n7_; clear n0_ n1_ n2_ n3_ n4_ n5_ n6_ n7_; clear hb hbox hg) | ((with_reducible refine gate_dst (N := 6) rfl ?_); refine Kd.R_lit (Kd.int .i64) _ 2 ?hg (N := 6) ?hd (xs := ([1, 2, 4, 8, 8, 20, 200] : List Int)) (inner := [.int .i64 1, .int .i64 2, .int .i64 4, .int .i64 8, .int .i64 8, .int .i64 20, .int .i64 200]) (ok := fun _ => True) (okp := fun _ => True) ?hr ?hp (fun _ hk => hk) trivial (Below.refl _ _) (Nat.le_refl _) (by simp) ?_; (case hd => rfl); (case hg => rfl); (case hr => first | (go_simp; done) | (go_simp; rfl)); (case hp => exact (Reps.one (show Kd.M (Kd.int .i64) _ _ _ 1 [.int .i64 1] from rfl) (Reps.one (show Kd.M (Kd.int .i64) _ _ _ 2 [.int .i64 2] from rfl) (Reps.one (show Kd.M (Kd.int .i64) _ _ _ 4 [.int .i64 4] from rfl) (Reps.one (show Kd.M (Kd.int .i64) _ _ _ 8 [.int .i64 8] from rfl) (Reps.one (show Kd.M (Kd.int .i64) _ _ _ 8 [.int .i64 8] from rfl) (Reps.one (show Kd.M (Kd.int .i64) _ _ _ 20 [.int .i64 20] from rfl) (Reps.one (show Kd.M (Kd.int .i64) _ _ _ 200 [.int .i64 200] from rfl) (Reps.none _ _))))))))); intro v191 w8 ho9 hb hg_ hnew_; clear hg_ hnew_; (first | rw [← Ny190.out] at ho9 | (simp only [Int.reduceToNat] at ho9; rw [← Ny190.out] at ho9)); have n0_ := am_ (Kd.R_lower ho9 (keep_size (w := w) (g := g) (row := none) (hk_ HK))); have n1_ := am_ (IsS91.below (is_ HI0) hb); have n2_ := am_ (blk_below (bk_ BK189) hb); have n3_ := am_ (KeepBut.trans (hk_ HK) (KeepBut.of_below hb g none) (.inl rfl)); have n4_ := am_ (below_step (bi_ HB) hb); clear HI0; clear BK189; clear HK; clear HB; have HO192 := n0_; have HI0 := n1_; have BK189 := n2_; have HK := n3_; have HB := n4_; clear n0_ n1_ n2_ n3_ n4_; clear hb ho9; obtain ⟨Ao10, co10, eo10⟩ := Kd.R_slice HO192.out; subst eo10) | ((with_reducible refine gate_callee (f := 58) rfl ?_); refine goesL_ (some 7) rfl rfl Tryd.func58 (by kernel_rfl) rfl #[.pointer (some ⟨g, 0, none⟩), .slice Ao10 y190.length co10] rfl ma_ ?_; (with_reducible refine (spec_l01Pick.calls g s0_0 s0_1 s0_2 _ _ y190 t193 t194 t195 w0 _ ?side1 ?side2 ?side3 ?side4 ?side5 A2.out).mono ?_); (case side1 => exact is_ HI0); (case side2 => exact bi_ HB); (case side3 => exact cr_ HO192); (case side4 => exact (Kd.R_reads' HO192.out).2.1); (case side5 => exact far_slice (IsS91.own_ne HI0.out HO192.out (by decide))); rintro e w11 ⟨rfl, hi, hb, hk⟩; refine ⟨_, rfl, ?_⟩; replace HO192 := am_ (Kd.R_mono (Kd.R_keep (IsS91.apart (show IsS91 w0 _ g s0_0 s0_1 s0_2 from is_ HI0) (kr_ HO192) (by decide)) hk (fun _ h => h.2)) (fun _ h => h.1)); replace HK := am_ (KeepBut.trans (hk_ HK) hk (.inl rfl)); replace HI0 := am_ (hi); replace BK189 := am_ (kb_ hk (bk_ BK189) NB189_0); replace HB := am_ (hb); (try clear hb); (try clear hk); (try clear hi)) | ((with_reducible refine gate_callee (f := 69) rfl ?_); refine goesL_ (some 8) rfl rfl Tryd.func69 (by kernel_rfl) rfl #[.pointer (some ⟨g, 0, none⟩), .int .i64 t193] rfl ma_ ?_; (with_reducible refine (spec_l02Draw.calls k g s0_0 t194 t195 t193 t196 t197 t200 t201 w0 _ ?side1 ?side2 A3.out).mono ?_); (case side1 => exact is_ HI0); (case side2 => exact bi_ HB); rintro e w12 ⟨v198, rfl, ho0, hi, hb, hk⟩; refine ⟨_, rfl, ?_⟩; have HO199 := am_ (Kd.R_lower (Kd.R_new' ho0 (Kd.R_lt (kr_ HO192))) (keep_size (w := w) (g := g) (row := none) (hk_ HK))); replace HO192 := am_ (Kd.R_mono (Kd.R_told (Kd.R_oldK (IsS91.apart (show IsS91 w0 _ g s0_0 t194 t195 from is_ HI0) (kr_ HO192) (by decide)) hk) (Kd.R_base ho0)) (fun _ h_ => h_.1)); replace HK := am_ (KeepBut.trans (hk_ HK) hk (.inl rfl)); replace HI0 := am_ (hi); replace BK189 := am_ (kb_ hk (bk_ BK189) NB189_0); replace HB := am_ (hb); (try clear hb); (try clear hk); (try clear hi); (try clear ho0)) | ((with_reducible refine gate_dst (N := 3) rfl ?_); refine bx_ 3 #[.int .i64 0, .slice none 0 0] 26 ?_; intro gb202 hg w13 hbox hb; have n0_ := am_ (Kd.R_below (kr_ HO192) hb); have n1_ := am_ (Kd.R_below (kr_ HO199) hb); have n2_ := am_ (IsS91.below (is_ HI0) hb); have n3_ := am_ (blk_below (bk_ BK189) hb); have n4_ := am_ (KeepBut.trans (hk_ HK) (KeepBut.of_below hb g none) (.inl rfl)); have n5_ := am_ (below_step (bi_ HB) hb); have n6_ := am_ (hbox); have n7_ := am_ ((by rw [hg]; exact (keep_size (w := w) (g := g) (row := none) (hk_ HK)) : w.heap.size ≤ gb202)); have n8_ := am_ ((Nat.le_trans HW0.out (by rw [hg]; exact (keep_size (w := w) (g := g) (row := none) (hk_ HK)) : w.heap.size ≤ gb202) : w0.heap.size ≤ gb202)); have n9_ := am_ (nl_ hg BK189); have n10_ := am_ (ng_ hg BK189); have n11_ := am_ ((by rw [hg]; exact Nat.ne_of_lt (IsS91.lt (show IsS91 w0 _ g s0_0 t200 t201 from is_ HI0)) : g ≠ gb202)); have n12_ := am_ ((by rw [hg]; exact Nat.ne_of_gt (IsS91.lt (show IsS91 w0 _ g s0_0 t200 t201 from is_ HI0)) : gb202 ≠ g)); clear HO192; clear HO199; clear HI0; clear BK189; clear HK; clear HB; have HO192 := n0_; have HO199 := n1_; have HI0 := n2_; have BK189 := n3_; have HK := n4_; have HB := n5_; have BK202 := n6_; have GW202 := n7_; have GE202 := n8_; have NB189_202 := n9_; have NB202_189 := n10_; have NB0_202 := n11_; have NB202_0 := n12_; clear n0_ n1_ n2_ n3_ n4_ n5_ n6_ n7_ n8_ n9_ n10_ n11_ n12_; clear hb hbox hg; have hnb14 := NB202_189.out; have hnc14 := NB189_202.out; have hnb15 := NB202_0.out; have hnc15 := NB0_202.out; obtain ⟨hcz16_0, hcz16_1, hfz16_0, hfz16_1⟩ := ck2_ BK202; obtain ⟨Ao17, co17, eo17⟩ := Kd.R_slice HO199.out; subst eo17) | ((with_reducible refine gate_callee (f := 59) rfl ?_); refine goesL_ (some 10) rfl rfl Tryd.func59 (by kernel_rfl) rfl #[.pointer (some ⟨g, 0, none⟩), .int .i64 30] rfl ma_ ?_; (with_reducible refine (spec_l01Next.calls g s0_0 t200 t201 30 t203 t204 t205 w0 _ ?side1 ?side2 A4.out).mono ?_); (case side1 => exact is_ HI0); (case side2 => exact bi_ HB); rintro e w18 ⟨rfl, hi, hb, hk⟩; refine ⟨_, rfl, ?_⟩; replace HO192 := am_ (Kd.R_mono (Kd.R_keep (IsS91.apart (show IsS91 w0 _ g s0_0 t200 t201 from is_ HI0) (rg_ HO192 BK202) (by decide)) hk (fun _ h => h.2)) (fun _ h => h.1)); replace HO199 := am_ (Kd.R_mono (Kd.R_keep (IsS91.apart (show IsS91 w0 _ g s0_0 t200 t201 from is_ HI0) (rg_ HO199 BK202) (by decide)) hk (fun _ h => h.2)) (fun _ h => h.1)); replace HK := am_ (KeepBut.trans (hk_ HK) hk (.inl rfl)); replace HI0 := am_ (hi); replace BK189 := am_ (kb_ hk (bk_ BK189) NB189_0); replace BK202 := am_ (KeepBut.blk hk (g' := gb202) (o := .cells #[.int .i64 t196, .slice Ao17 t197.length co17] 26 (0, 0)) (bp2_ BK202) NB202_0.out (by simp)); replace HB := am_ (hb); (try clear hb); (try clear hk); (try clear hi)))
 have H := HASIDE.out; clear HASIDE
 by_cases c5 : t203 = 0
 ·rw [if_pos c5] at H
  have c5b0 : (t203 == 0) = true := beq_iff_eq.mpr c5
  have c5b1 : (t203 != 0) = false := bne_eq_false_iff_eq.mpr c5
  clear c5
  obtain ⟨y206, hy206⟩ : ∃ y_ : List Int, y_ = (([0, 2, (-2)] : List Int)) := ⟨_, rfl⟩
  replace H : ((spec_l01Pick.f s0_0 t204 t205 y206).bind fun bt209 => (some (bt209.1, t197, bt209.2.1, bt209.2.2))) = some (r1, r2, r3, r4) := by first | (rw [hy206]; with_reducible exact H) | (have H2_ := (Option.bind_some _ _).symm.trans H; rw [hy206]; with_reducible exact H2_) | (have H2_ := (Option.bind_some _ _).symm.trans H; with_reducible exact H2_) | with_reducible exact H | (rw [hy206]; exact H) | exact H
  have Ny206 := am_ hy206; clear hy206
  replace H := Option.bind_eq_some_iff.mp H
  obtain ⟨⟨t209, t210, t211⟩, A60, H⟩ := H
  try dsimp only at H
  have A6 := am_ A60; clear A60
  simp only [Option.some.injEq, Prod.mk.injEq] at H
  obtain ⟨rfl, rfl, rfl, rfl⟩ := H
  go_wp2_with (first | ((with_reducible refine gate_dst (N := 14) rfl ?_); refine Kd.R_lit (Kd.int .i64) _ 2 ?hg (N := 14) ?hd (xs := ([0, 2, (-2)] : List Int)) (inner := [.int .i64 0, .int .i64 2, .int .i64 (-2)]) (ok := fun _ => True) (okp := fun _ => True) ?hr ?hp (fun _ hk => hk) trivial (Below.refl _ _) (Nat.le_refl _) (by simp) ?_; (case hd => rfl); (case hg => rfl); (case hr => first | (go_simp; done) | (go_simp; rfl)); (case hp => exact (Reps.one (show Kd.M (Kd.int .i64) _ _ _ 0 [.int .i64 0] from rfl) (Reps.one (show Kd.M (Kd.int .i64) _ _ _ 2 [.int .i64 2] from rfl) (Reps.one (show Kd.M (Kd.int .i64) _ _ _ (-2) [.int .i64 (-2)] from rfl) (Reps.none _ _))))); intro v207 w19 ho20 hb hg_ hnew_; clear hg_ hnew_; (first | rw [← Ny206.out] at ho20 | (simp only [Int.reduceToNat] at ho20; rw [← Ny206.out] at ho20)); have n0_ := am_ (Kd.R_elder' (kr_ HO192) (Kd.R_base ho20) hb); have n1_ := am_ (Kd.R_elder' (kr_ HO199) (Kd.R_base ho20) hb); have n2_ := am_ (Kd.R_lower (Kd.R_new' (Kd.R_new' ho20 (Kd.R_lt (kr_ HO192))) (Kd.R_lt (kr_ HO199))) (keep_size (w := w) (g := g) (row := none) (hk_ HK))); have n3_ := am_ (IsS91.below (is_ HI0) hb); have n4_ := am_ (blk_below (bk_ BK189) hb); have n5_ := am_ (blk_below (bk_ BK202) hb); have n6_ := am_ (KeepBut.trans (hk_ HK) (KeepBut.of_below hb g none) (.inl rfl)); have n7_ := am_ (below_step (bi_ HB) hb); clear HO192; clear HO199; clear HI0; clear BK189; clear BK202; clear HK; clear HB; have HO192 := n0_; have HO199 := n1_; have HO208 := n2_; have HI0 := n3_; have BK189 := n4_; have BK202 := n5_; have HK := n6_; have HB := n7_; clear n0_ n1_ n2_ n3_ n4_ n5_ n6_ n7_; clear hb ho20; obtain ⟨Ao21, co21, eo21⟩ := Kd.R_slice HO208.out; subst eo21) | ((with_reducible refine gate_callee (f := 58) rfl ?_); refine goesL_ (some 15) rfl rfl Tryd.func58 (by kernel_rfl) rfl #[.pointer (some ⟨g, 0, none⟩), .slice Ao21 y206.length co21] rfl ma_ ?_; (with_reducible refine (spec_l01Pick.calls g s0_0 t204 t205 _ _ y206 t209 t210 t211 w0 _ ?side1 ?side2 ?side3 ?side4 ?side5 A6.out).mono ?_); (case side1 => exact is_ HI0); (case side2 => exact bi_ HB); (case side3 => exact cr_ HO208); (case side4 => exact (Kd.R_reads' HO208.out).2.1); (case side5 => exact far_slice (IsS91.own_ne HI0.out HO208.out (by decide))); rintro e w22 ⟨rfl, hi, hb, hk⟩; refine ⟨_, rfl, ?_⟩; replace HO192 := am_ (Kd.R_mono (Kd.R_keep (IsS91.apart (show IsS91 w0 _ g s0_0 t204 t205 from is_ HI0) (kr_ HO192) (by decide)) hk (fun _ h => h.2)) (fun _ h => h.1)); replace HO199 := am_ (Kd.R_mono (Kd.R_keep (IsS91.apart (show IsS91 w0 _ g s0_0 t204 t205 from is_ HI0) (kr_ HO199) (by decide)) hk (fun _ h => h.2)) (fun _ h => h.1)); replace HO208 := am_ (Kd.R_mono (Kd.R_keep (IsS91.apart (show IsS91 w0 _ g s0_0 t204 t205 from is_ HI0) (kr_ HO208) (by decide)) hk (fun _ h => h.2)) (fun _ h => h.1)); replace HK := am_ (KeepBut.trans (hk_ HK) hk (.inl rfl)); replace HI0 := am_ (hi); replace BK189 := am_ (kb_ hk (bk_ BK189) NB189_0); replace BK202 := am_ (kb_ hk (bk_ BK202) NB202_0); replace HB := am_ (hb); (try clear hb); (try clear hk); (try clear hi); obtain ⟨hcz23_0, hcz23_1, hfz23_0, hfz23_1⟩ := ck2_ BK202; have hnb24 := NB189_0.out; have hnc24 := NB0_189.out; obtain ⟨hcz25_0, hcz25_1, hfz25_0, hfz25_1⟩ := ck2_ BK189))
  refine bodyPost_ret (results_cell_row rfl _ _ gb189 26 #[.int .i64 t209, .slice Ao17 t197.length co17] (0, 0) _ rfl (by (with_reducible repeat (first | refine blk_drewN ?_ _ | refine blk_drew ?_ | refine blk_alloc ?_ _)); refine blk_put (cs := #[.int .i64 t209, .slice none 0 0]) ?_ 1 _ rfl; (with_reducible repeat (first | refine blk_drewN ?_ _ | refine blk_drew ?_ | refine blk_alloc ?_ _)); refine blk_put (cs := #[.int .i64 0, .slice none 0 0]) ?_ 0 _ rfl; (with_reducible repeat (first | refine blk_drewN ?_ _ | refine blk_drew ?_ | refine blk_alloc ?_ _)); refine blk_far ?_ NB189_202.out _; (with_reducible repeat (first | refine blk_drewN ?_ _ | refine blk_drew ?_ | refine blk_alloc ?_ _)); exact BK189.out) Tryd.underlying26 rfl (by kernel_rfl)) rfl ?_
  exact ⟨_, by first | rfl | (simp [errW_none, errW_some] <;> rfl) | (simp [*, errW_none, errW_some] <;> rfl), by (with_reducible repeat (first | apply Kd.R_alloc | apply Kd.R_drewN | apply Kd.R_drew)); exact Kd.R_mono (Kd.R_far (p := ⟨gb189, 1, none⟩) (Kd.R_far (p := ⟨gb189, 0, none⟩) (Kd.R_far (p := ⟨gb202, 0, none⟩) (Kd.R_types (Kd.R_types HO199.out BK202.out (by decide)) BK189.out (by decide)) (fun _ hk => hk.1.2) (.int .i64 t209)) (fun _ hk => hk.2) (.int .i64 t209)) (fun _ hk => hk.2) (.slice Ao17 t197.length co17)) (fun _ hk => trivial), is_ HI0, bi_ HB, hk_ HK⟩
 ·rw [if_neg c5] at H
  have c5b0 : (t203 == 0) = false := beq_eq_false_iff_ne.mpr c5
  have c5b1 : (t203 != 0) = true := bne_iff_ne.mpr c5
  by_cases c26 : t203 = 1
  ·rw [if_pos c26] at H
   have c26b0 : (t203 == 1) = true := beq_iff_eq.mpr c26
   have c26b1 : (t203 != 1) = false := bne_eq_false_iff_eq.mpr c26
   clear c26
   by_cases c27 : t197.length < 17592186044416
   ·rw [if_pos c27] at H
    have LMc27 := am_ c27; clear c27
    obtain ⟨y212, hy212⟩ : ∃ y_ : List Int, y_ = (t197 ++ [0]) := ⟨_, rfl⟩
    replace H : (some (t196, y212, t204, t205)) = some (r1, r2, r3, r4) := by first | (rw [hy212]; with_reducible exact H) | (have H2_ := (Option.bind_some _ _).symm.trans H; rw [hy212]; with_reducible exact H2_) | (have H2_ := (Option.bind_some _ _).symm.trans H; with_reducible exact H2_) | with_reducible exact H | (rw [hy212]; exact H) | exact H
    have Ny212 := am_ hy212; clear hy212
    simp only [Option.some.injEq, Prod.mk.injEq] at H
    obtain ⟨rfl, rfl, rfl, rfl⟩ := H
    obtain ⟨hcz40_0, hcz40_1, hfz40_0, hfz40_1⟩ := ck2_ BK202
    go_wp2_with (first | ((with_reducible refine gate_builtin (b := .append) (xs := #[.tmp 20, .tmp 21]) rfl ?_); at_builtin; refine Kd.R_append (Kd.int .i64) w.heap.size rfl (.tmp 20) (.tmp 21) 24 2 (.int .i64 0) 8 rfl Tryd.underlying24 info2 rfl (by decide) (by omega) (.slice Ao17 t197.length co17) t197 0 [.int .i64 0] (fun k_ => some k_ ≠ (.slice Ao10 y190.length co10 : Value).ownBlock) (fun _ => False) rfl rfl ?aP (fun _ hk => hk.elim) ?aF ?aO (Below.refl _ _) ?aS ?aL ?_; (case aP => exact rfl); (case aF => exact (fun k_ hk => Kd.fresh' (Kd.R_lt (kr_ HO192)) k_ hk)); (case aO => exact (km_ HO199 (fun _ hk => hk.2))); (case aS => exact (keep_size (w := w) (g := g) (row := none) (hk_ HK))); (case aL => have := LMc27.out; omega); intro v213 w41 ho hb hg hat; rw [← Ny212.out] at ho; have n0_ := am_ (IsS91.grown (is_ HI0) hg (IsS91.own_ne HI0.out HO199.out (by decide))); have n1_ := am_ (blk_grown (g := gb189) (o := .cells #[.int .i64 0, .slice none 0 0] 26 (0, 0)) (bk_ BK189) hg (Kd.R_ne HO199.out BK189.out (by decide))); have n2_ := am_ (Kd.R_after (ok := (fun _ => True)) (kr_ HO192) hg hat); have n3_ := am_ (blk_grown (g := gb202) (o := .cells #[.int .i64 t196, .slice Ao17 t197.length co17] 26 (0, 0)) (bk_ BK202) hg (Kd.R_ne HO199.out BK202.out (by decide))); have n4_ := am_ (below_weaken (bi_ HB) HL.out hb); have n5_ := am_ (KeepBut.trans (hk_ HK) (KeepBut.of_grown hg g) (Kd.R_base2 HO199.out)); have n6_ := am_ (ho); clear HI0; clear BK189; clear HO192; clear BK202; clear HB; clear HK; clear HO199; have HI0 := n0_; have BK189 := n1_; have HO192 := n2_; have BK202 := n3_; have HB := n4_; have HK := n5_; have HO214 := n6_; clear n0_ n1_ n2_ n3_ n4_ n5_ n6_; clear ho hb hg hat; obtain ⟨Ao42, co42, eo42⟩ := Kd.R_slice HO214.out; subst eo42; obtain ⟨hcz43_0, hcz43_1, hfz43_0, hfz43_1⟩ := ck2_ BK202; have hnb44 := NB189_0.out; have hnc44 := NB0_189.out; obtain ⟨hcz45_0, hcz45_1, hfz45_0, hfz45_1⟩ := ck2_ BK189))
    refine bodyPost_ret (results_cell_row rfl _ _ gb189 26 #[.int .i64 t196, .slice Ao42 y212.length co42] (0, 0) _ rfl (by (with_reducible repeat (first | refine blk_drewN ?_ _ | refine blk_drew ?_ | refine blk_alloc ?_ _)); refine blk_put (cs := #[.int .i64 t196, .slice none 0 0]) ?_ 1 _ rfl; (with_reducible repeat (first | refine blk_drewN ?_ _ | refine blk_drew ?_ | refine blk_alloc ?_ _)); refine blk_put (cs := #[.int .i64 0, .slice none 0 0]) ?_ 0 _ rfl; (with_reducible repeat (first | refine blk_drewN ?_ _ | refine blk_drew ?_ | refine blk_alloc ?_ _)); refine blk_far ?_ NB189_202.out _; (with_reducible repeat (first | refine blk_drewN ?_ _ | refine blk_drew ?_ | refine blk_alloc ?_ _)); exact BK189.out) Tryd.underlying26 rfl (by kernel_rfl)) rfl ?_
    exact ⟨_, by first | rfl | (simp [errW_none, errW_some] <;> rfl) | (simp [*, errW_none, errW_some] <;> rfl), by (with_reducible repeat (first | apply Kd.R_alloc | apply Kd.R_drewN | apply Kd.R_drew)); exact Kd.R_mono (Kd.R_far (p := ⟨gb189, 1, none⟩) (Kd.R_far (p := ⟨gb189, 0, none⟩) (Kd.R_far (p := ⟨gb202, 1, none⟩) (Kd.R_types (Kd.R_types HO214.out BK202.out (by decide)) BK189.out (by decide)) (fun _ hk => hk.1.2) (.slice Ao42 y212.length co42)) (fun _ hk => hk.2) (.int .i64 t196)) (fun _ hk => hk.2) (.slice Ao42 y212.length co42)) (fun _ hk => trivial), is_ HI0, bi_ HB, hk_ HK⟩
   ·rw [if_neg c27] at H
    exact absurd H (by simp)
  ·rw [if_neg c26] at H
   have c26b0 : (t203 == 1) = false := beq_eq_false_iff_ne.mpr c26
   have c26b1 : (t203 != 1) = true := bne_iff_ne.mpr c26
   by_cases c46 : t203 = 2
   ·rw [if_pos c46] at H
    have c46b0 : (t203 == 2) = true := beq_iff_eq.mpr c46
    have c46b1 : (t203 != 2) = false := bne_eq_false_iff_eq.mpr c46
    clear c46
    obtain ⟨y215, hy215⟩ : ∃ y_ : List Int, y_ = (([16777216, (-1), 1099511627776] : List Int)) := ⟨_, rfl⟩
    replace H : ((spec_l01Pick.f s0_0 t204 t205 y215).bind fun bt218 => (if t197.length < 17592186044416 then (some (t196, (t197 ++ [bt218.1]), bt218.2.1, bt218.2.2)) else (none))) = some (r1, r2, r3, r4) := by first | (rw [hy215]; with_reducible exact H) | (have H2_ := (Option.bind_some _ _).symm.trans H; rw [hy215]; with_reducible exact H2_) | (have H2_ := (Option.bind_some _ _).symm.trans H; with_reducible exact H2_) | with_reducible exact H | (rw [hy215]; exact H) | exact H
    have Ny215 := am_ hy215; clear hy215
    replace H := Option.bind_eq_some_iff.mp H
    obtain ⟨⟨t218, t219, t220⟩, A470, H⟩ := H
    try dsimp only at H
    have A47 := am_ A470; clear A470
    by_cases c48 : t197.length < 17592186044416
    ·rw [if_pos c48] at H
     have LMc48 := am_ c48; clear c48
     obtain ⟨y221, hy221⟩ : ∃ y_ : List Int, y_ = (t197 ++ [t218]) := ⟨_, rfl⟩
     replace H : (some (t196, y221, t219, t220)) = some (r1, r2, r3, r4) := by first | (rw [hy221]; with_reducible exact H) | (have H2_ := (Option.bind_some _ _).symm.trans H; rw [hy221]; with_reducible exact H2_) | (have H2_ := (Option.bind_some _ _).symm.trans H; with_reducible exact H2_) | with_reducible exact H | (rw [hy221]; exact H) | exact H
     have Ny221 := am_ hy221; clear hy221
     simp only [Option.some.injEq, Prod.mk.injEq] at H
     obtain ⟨rfl, rfl, rfl, rfl⟩ := H
     try go_wp2
     replace HO192 := am_ (Kd.R_drew HO192.out); replace HO199 := am_ (Kd.R_drew HO199.out); replace BK189 := am_ (blk_drew BK189.out); replace BK202 := am_ (blk_drew BK202.out); replace HI0 := am_ (IsS91.drew HI0.out); replace HK := am_ (keep_drew HK.out); replace HB := am_ (below_drew1 HB.out)
     refine start_ (n := 9) (S := fun w' => w'.cell? ⟨gb202, 0, none⟩ = some (.int .i64 t196) ∧ w'.cell? ⟨gb202, 1, none⟩ = some (.slice Ao17 t197.length co17)) (ds := [8]) #[false, false, false, false, false, false, false, false, false] (by kernel_rfl) rfl rfl ⟨bc_ BK202 0, bc_ BK202 1⟩ (fun hHeld => ?_); refine with_tabW spec_l02Spoil.tab8 spec_l02Spoil.bits8 (fun HT_ HW_ => ?_)
     generalize w18.drew = w61 at HO192 HO199 BK189 BK202 HI0 HK HB hHeld ⊢
     refine pu_ #[true, false, false, false, false, false, false, false, false] 0 26 (any_of HT_.out (by kernel_rfl)) ?_
     refine pu_ #[true, false, true, false, false, false, false, false, false] 2 28 (any_of HT_.out (by kernel_rfl)) ?_
     refine tk_ #[true, true, true, false, false, false, false, false, false] 1 27 (take_ofW HT_.out HW_.out (by kernel_rfl)) hHeld ?_
     refine one_ (i := 3) (N := some 29) #[true, true, true, true, false, false, false, false, false] rfl rfl (one_of HT_.out (by kernel_rfl)) (by decide) (fun K hK => ?_)
     refine Kd.R_lit_step (Kd.int .i64) _ 2 ?hg (N := 29) ?hd (xs := ([16777216, (-1), 1099511627776] : List Int)) (inner := [.int .i64 16777216, .int .i64 (-1), .int .i64 1099511627776]) (ok := fun _ => True) (okp := fun _ => True) ?hr ?hp (fun _ hk => hk) trivial (Below.refl _ _) (Nat.le_refl _) (by simp) ?_; (case hd => rfl); (case hg => rfl); (case hr => first | (go_simp; done) | (go_simp; rfl)); (case hp => exact (Reps.one (show Kd.M (Kd.int .i64) _ _ _ 16777216 [.int .i64 16777216] from rfl) (Reps.one (show Kd.M (Kd.int .i64) _ _ _ (-1) [.int .i64 (-1)] from rfl) (Reps.one (show Kd.M (Kd.int .i64) _ _ _ 1099511627776 [.int .i64 1099511627776] from rfl) (Reps.none _ _)))))
     intro v216 w62 ho63 hb hg_ hnew_
     clear hg_ hnew_
     (first | rw [← Ny215.out] at ho63 | (simp only [Int.reduceToNat] at ho63; rw [← Ny215.out] at ho63))
     have n0_ := am_ (Kd.R_elder' (kr_ HO192) (Kd.R_base ho63) hb); have n1_ := am_ (Kd.R_elder' (kr_ HO199) (Kd.R_base ho63) hb)
     have n2_ := am_ (Kd.R_lower (Kd.R_new' (Kd.R_new' ho63 (Kd.R_lt (kr_ HO192))) (Kd.R_lt (kr_ HO199))) (keep_size (w := w) (g := g) (row := none) (hk_ HK)))
     have n3_ := am_ (IsS91.below (is_ HI0) hb)
     have n4_ := am_ (blk_below (bk_ BK189) hb); have n5_ := am_ (blk_below (bk_ BK202) hb)
     have n6_ := am_ (KeepBut.trans (hk_ HK) (KeepBut.of_below hb g none) (.inl rfl))
     have n7_ := am_ (below_step (bi_ HB) hb)
     clear HO192 HO199 HI0 BK189 BK202 HK HB; have HO192 := n0_; have HO199 := n1_; have HO217 := n2_; have HI0 := n3_; have BK189 := n4_; have BK202 := n5_; have HK := n6_; have HB := n7_; clear n0_ n1_ n2_ n3_ n4_ n5_ n6_ n7_ hb ho63
     obtain ⟨Ao64, co64, eo64⟩ := Kd.R_slice HO217.out
     (first | subst eo64 | (injection eo64 with f1_ f2_ f3_; have f4_ := f1_.symm; have f5_ := f3_.symm; clear f1_ f2_ f3_; subst f4_; subst f5_))
     refine hK.out _ _ ⟨bc_ BK202 0, bc_ BK202 1⟩ (fun hHeld => ?_)
     clear hK K
     refine nr_ ?_
     refine one_ (i := 4) (N := some 30) #[true, true, true, true, true, false, false, false, false] rfl rfl (one_of HT_.out (by kernel_rfl)) (by decide) (fun K hK => ?_)
     refine goes_ Tryd.func58 (by kernel_rfl) rfl #[.pointer (some ⟨g, 0, none⟩), .slice Ao64 y215.length co64] (by rfl) rfl rfl ma_ ?_
     with_reducible refine (spec_l01Pick.calls g s0_0 t204 t205 _ _ y215 t218 t219 t220 w0 _ ?side1 ?side2 ?side3 ?side4 ?side5 A47.out).mono ?_
     (case side1 => exact is_ HI0)
     (case side2 => exact bi_ HB)
     (case side3 => exact cr_ HO217)
     (case side4 => exact (Kd.R_reads' HO217.out).2.1)
     (case side5 => exact far_slice (IsS91.own_ne HI0.out HO217.out (by decide)))
     rintro e w65 ⟨rfl, hi, hb, hk⟩
     refine ⟨_, rfl, ?_⟩
     have n0_ := am_ (kb_ hk (bk_ BK189) NB189_0)
     have n1_ := am_ (Kd.R_mono (Kd.R_keep (IsS91.apart (show IsS91 w0 _ g s0_0 t204 t205 from is_ HI0) (kr_ HO192) (by decide)) hk (fun _ h => h.2)) (fun _ h => h.1))
     have n2_ := am_ (Kd.R_mono (Kd.R_keep (IsS91.apart (show IsS91 w0 _ g s0_0 t204 t205 from is_ HI0) (kr_ HO199) (by decide)) hk (fun _ h => h.2)) (fun _ h => h.1))
     have n3_ := am_ (kb_ hk (bk_ BK202) NB202_0)
     have n4_ := am_ (Kd.R_mono (Kd.R_keep (IsS91.apart (show IsS91 w0 _ g s0_0 t204 t205 from is_ HI0) (kr_ HO217) (by decide)) hk (fun _ h => h.2)) (fun _ h => h.1))
     have n5_ := am_ (KeepBut.trans (hk_ HK) hk (.inl rfl))
     have n6_ := am_ (hb); have n7_ := am_ (hi); clear BK189 HO192 HO199 BK202 HO217 HK HB HI0; have BK189 := n0_; have HO192 := n1_; have HO199 := n2_; have BK202 := n3_; have HO217 := n4_; have HK := n5_; have HB := n6_; have HI0 := n7_; clear n0_ n1_ n2_ n3_ n4_ n5_ n6_ n7_; (try clear hb); (try clear hb2); (try clear hk); (try clear hi)
     refine hK.out _ _ ⟨bc_ BK202 0, bc_ BK202 1⟩ (fun hHeld => ?_)
     clear hK K
     refine nr_ ?_
     refine one_ (i := 5) (N := some 31) #[true, true, true, true, true, true, false, false, false] rfl rfl (one_of HT_.out (by kernel_rfl)) (by decide) (fun K hK => ?_)
     refine value_ (w1 := ?_) (v := ?_) (by rfl) rfl ?_ ?_
     rotate_left 2
     ·go_simp
      constructor
      ·rfl
      ·rfl
     refine hK.out _ _ ⟨(blk_cell (blk_alloc BK202.out _) 0).trans rfl, (blk_cell (blk_alloc BK202.out _) 1).trans rfl⟩ (fun hHeld => ?_)
     clear hK K
     refine nr_ ?_
     refine one_ (i := 6) (N := some 32) #[true, true, true, true, true, true, true, false, false] rfl rfl (one_of HT_.out (by kernel_rfl)) (by decide) (fun K hK => ?_)
     refine Kd.R_append_step (Kd.int .i64) w.heap.size (by rfl) (.tmp 27) (.tmp 31) 24 2 (.int .i64 0) 8 rfl Tryd.underlying24 info2 rfl (by decide) (by omega) (.slice Ao17 t197.length co17) t197 t218 [.int .i64 t218] (fun k_ => some k_ ≠ (.slice Ao10 y190.length co10 : Value).ownBlock ∧ some k_ ≠ (.slice Ao64 y215.length co64 : Value).ownBlock) (fun _ => False) rfl rfl ?aP (fun _ hk => hk.elim) ?aF ?aO (Below.refl _ _) ?aS ?aL ?_
     (case aP => exact rfl)
     (case aF => exact (fun k_ hk => ⟨Kd.fresh' (Kd.R_lt (kr_ HO192)) k_ hk, Kd.fresh' (Kd.R_lt (kr_ HO217)) k_ hk⟩))
     (case aO => exact (km_ HO199 (fun _ hk => ⟨hk.1.2, hk.2⟩)))
     (case aS => exact (keep_size (w := w) (g := g) (row := none) (hk_ HK)))
     (case aL => have := LMc48.out; omega)
     intro v222 w66 ho hb hg hat
     rw [← Ny221.out] at ho
     have n0_ := am_ (IsS91.grown (is_ HI0) hg (IsS91.own_ne HI0.out HO199.out (by decide)))
     have n1_ := am_ (blk_grown (g := gb189) (o := .cells #[.int .i64 0, .slice none 0 0] 26 (0, 0)) (bk_ BK189) hg (Kd.R_ne HO199.out BK189.out (by decide)))
     have n2_ := am_ (Kd.R_after (ok := (fun k_ => some k_ ≠ (.slice Ao64 y215.length co64 : Value).ownBlock)) (km_ HO192 (fun _ hk => ⟨hk.2, hk.1.2⟩)) hg hat)
     have n3_ := am_ (blk_grown (g := gb202) (o := .cells #[.int .i64 t196, .slice Ao17 t197.length co17] 26 (0, 0)) (bk_ BK202) hg (Kd.R_ne HO199.out BK202.out (by decide)))
     have n4_ := am_ (Kd.R_after (ok := (fun k_ => some k_ ≠ (.slice Ao10 y190.length co10 : Value).ownBlock)) (km_ HO217 (fun _ hk => ⟨hk.1.2, hk.2⟩)) hg hat)
     have n5_ := am_ (below_weaken (bi_ HB) HL.out hb)
     have n6_ := am_ (KeepBut.trans (hk_ HK) (KeepBut.of_grown hg g) (Kd.R_base2 HO199.out))
     have n7_ := am_ (ho); clear HI0 BK189 HO192 BK202 HO217 HB HK HO199; have HI0 := n0_; have BK189 := n1_; have HO192 := n2_; have BK202 := n3_; have HO217 := n4_; have HB := n5_; have HK := n6_; have HO223 := n7_; clear n0_ n1_ n2_ n3_ n4_ n5_ n6_ n7_ ho hb hg hat
     obtain ⟨Ao67, co67, eo67⟩ := Kd.R_slice HO223.out
     (first | subst eo67 | (injection eo67 with f1_ f2_ f3_; have f4_ := f1_.symm; have f5_ := f3_.symm; clear f1_ f2_ f3_; subst f4_; subst f5_))
     refine hK.out _ _ ⟨bc_ BK202 0, bc_ BK202 1⟩ (fun hHeld => ?_)
     clear hK K
     refine nr_ ?_
     refine pu_ #[true, true, true, true, true, true, true, true, false] 7 33 (any_of HT_.out (by kernel_rfl)) ?_
     refine last_ (i := 8) (N := none) #[true, true, true, true, true, true, true, true, true] rfl rfl (one_of HT_.out (by kernel_rfl)) (by decide) (fun K hK => ?_)
     have hs68 : w66.cell? ⟨gb202, 1, none⟩ = some (.slice Ao17 t197.length co17) := bc_ BK202 1
     have hfs68 := blk_frozen BK202.out 1; have hns68_0 := NB189_202.out; have hms68_0 := NB202_189.out
     refine skip_ (w1 := ?_) (by rfl) rfl ?_ ?_
     rotate_left
     ·go_simp
      rfl
     refine hK.out _ _ ?_
     clear hK K
     refine done_ (done_of HT_.out (by kernel_rfl)) ?_
     obtain ⟨hcz69_0, hcz69_1, hfz69_0, hfz69_1⟩ := ck2_ BK202; have hnb70 := NB189_0.out; have hnc70 := NB0_189.out
     obtain ⟨hcz71_0, hcz71_1, hfz71_0, hfz71_1⟩ := ck2_ BK189
     try go_wp2
     refine bodyPost_ret (results_cell_row rfl _ _ gb189 26 #[.int .i64 t196, .slice Ao67 y221.length co67] (0, 0) _ rfl (by (with_reducible repeat (first | refine blk_drewN ?_ _ | refine blk_drew ?_ | refine blk_alloc ?_ _)); refine blk_put (cs := #[.int .i64 t196, .slice none 0 0]) ?_ 1 _ rfl; (with_reducible repeat (first | refine blk_drewN ?_ _ | refine blk_drew ?_ | refine blk_alloc ?_ _)); refine blk_put (cs := #[.int .i64 0, .slice none 0 0]) ?_ 0 _ rfl; (with_reducible repeat (first | refine blk_drewN ?_ _ | refine blk_drew ?_ | refine blk_alloc ?_ _)); refine blk_far ?_ NB189_202.out _; (with_reducible repeat (first | refine blk_drewN ?_ _ | refine blk_drew ?_ | refine blk_alloc ?_ _)); exact BK189.out) Tryd.underlying26 rfl (by kernel_rfl)) rfl ?_
     exact ⟨_, by first | rfl | (simp [errW_none, errW_some] <;> rfl) | (simp [*, errW_none, errW_some] <;> rfl), by (with_reducible repeat (first | apply Kd.R_alloc | apply Kd.R_drewN | apply Kd.R_drew)); exact Kd.R_mono (Kd.R_far (p := ⟨gb189, 1, none⟩) (Kd.R_far (p := ⟨gb189, 0, none⟩) (Kd.R_far (p := ⟨gb202, 1, none⟩) (Kd.R_types (Kd.R_types HO223.out BK202.out (by decide)) BK189.out (by decide)) (fun _ hk => hk.1.2) (.slice Ao67 y221.length co67)) (fun _ hk => hk.2) (.int .i64 t196)) (fun _ hk => hk.2) (.slice Ao67 y221.length co67)) (fun _ hk => trivial), is_ HI0, bi_ HB, hk_ HK⟩
    ·rw [if_neg c48] at H
     exact absurd H (by simp)
   ·rw [if_neg c46] at H
    have c46b0 : (t203 == 2) = false := beq_eq_false_iff_ne.mpr c46
    have c46b1 : (t203 != 2) = true := bne_iff_ne.mpr c46
    by_cases c72 : t203 = 3
    ·rw [if_pos c72] at H
     have c72b0 : (t203 == 3) = true := beq_iff_eq.mpr c72
     have c72b1 : (t203 != 3) = false := bne_eq_false_iff_eq.mpr c72
     clear c72
     obtain ⟨y224, hy224⟩ : ∃ y_ : List Int, y_ = (([1, (-1), 3] : List Int)) := ⟨_, rfl⟩
     replace H : ((spec_l01Pick.f s0_0 t204 t205 y224).bind fun bt227 => ((spec_l02Of.f k bt227.1).bind fun bt230 => ((spec_l01Pick.f s0_0 bt227.2.1 bt227.2.2 (([4799, 4798, 4800, 2400] : List Int))).bind fun bt237 => ((spec_l02Left.f k bt230.1 bt230.2 bt237.1).bind fun bt240 => (some (bt240.1, bt240.2, bt237.2.1, bt237.2.2)))))) = some (r1, r2, r3, r4) := by first | (rw [hy224]; with_reducible exact H) | (have H2_ := (Option.bind_some _ _).symm.trans H; rw [hy224]; with_reducible exact H2_) | (have H2_ := (Option.bind_some _ _).symm.trans H; with_reducible exact H2_) | with_reducible exact H | (rw [hy224]; exact H) | exact H
     have Ny224 := am_ hy224; clear hy224
     replace H := Option.bind_eq_some_iff.mp H
     obtain ⟨⟨t227, t228, t229⟩, A730, H⟩ := H
     try dsimp only at H
     have A73 := am_ A730; clear A730
     replace H := Option.bind_eq_some_iff.mp H
     obtain ⟨⟨t230, t231⟩, A740, H⟩ := H
     try dsimp only at H
     have A74 := am_ A740; clear A740
     obtain ⟨y234, hy234⟩ : ∃ y_ : List Int, y_ = (([4799, 4798, 4800, 2400] : List Int)) := ⟨_, rfl⟩
     replace H : ((spec_l01Pick.f s0_0 t228 t229 y234).bind fun bt237 => ((spec_l02Left.f k t230 t231 bt237.1).bind fun bt240 => (some (bt240.1, bt240.2, bt237.2.1, bt237.2.2)))) = some (r1, r2, r3, r4) := by first | (rw [hy234]; with_reducible exact H) | (have H2_ := (Option.bind_some _ _).symm.trans H; rw [hy234]; with_reducible exact H2_) | (have H2_ := (Option.bind_some _ _).symm.trans H; with_reducible exact H2_) | with_reducible exact H | (rw [hy234]; exact H) | exact H
     have Ny234 := am_ hy234; clear hy234
     replace H := Option.bind_eq_some_iff.mp H
     obtain ⟨⟨t237, t238, t239⟩, A750, H⟩ := H
     try dsimp only at H
     have A75 := am_ A750; clear A750
     replace H := Option.bind_eq_some_iff.mp H
     obtain ⟨⟨t240, t241⟩, A760, H⟩ := H
     try dsimp only at H
     have A76 := am_ A760; clear A760
     simp only [Option.some.injEq, Prod.mk.injEq] at H
     obtain ⟨rfl, rfl, rfl, rfl⟩ := H
     go_wp2_with (first | ((with_reducible refine gate_dst (N := 37) rfl ?_); refine Kd.R_lit (Kd.int .i64) _ 2 ?hg (N := 37) ?hd (xs := ([1, (-1), 3] : List Int)) (inner := [.int .i64 1, .int .i64 (-1), .int .i64 3]) (ok := fun _ => True) (okp := fun _ => True) ?hr ?hp (fun _ hk => hk) trivial (Below.refl _ _) (Nat.le_refl _) (by simp) ?_; (case hd => rfl); (case hg => rfl); (case hr => first | (go_simp; done) | (go_simp; rfl)); (case hp => exact (Reps.one (show Kd.M (Kd.int .i64) _ _ _ 1 [.int .i64 1] from rfl) (Reps.one (show Kd.M (Kd.int .i64) _ _ _ (-1) [.int .i64 (-1)] from rfl) (Reps.one (show Kd.M (Kd.int .i64) _ _ _ 3 [.int .i64 3] from rfl) (Reps.none _ _))))); intro v225 w89 ho90 hb hg_ hnew_; clear hg_ hnew_; (first | rw [← Ny224.out] at ho90 | (simp only [Int.reduceToNat] at ho90; rw [← Ny224.out] at ho90)); have n0_ := am_ (Kd.R_elder' (kr_ HO192) (Kd.R_base ho90) hb); have n1_ := am_ (Kd.R_elder' (kr_ HO199) (Kd.R_base ho90) hb); have n2_ := am_ (Kd.R_lower (Kd.R_new' (Kd.R_new' ho90 (Kd.R_lt (kr_ HO192))) (Kd.R_lt (kr_ HO199))) (keep_size (w := w) (g := g) (row := none) (hk_ HK))); have n3_ := am_ (IsS91.below (is_ HI0) hb); have n4_ := am_ (blk_below (bk_ BK189) hb); have n5_ := am_ (blk_below (bk_ BK202) hb); have n6_ := am_ (KeepBut.trans (hk_ HK) (KeepBut.of_below hb g none) (.inl rfl)); have n7_ := am_ (below_step (bi_ HB) hb); clear HO192; clear HO199; clear HI0; clear BK189; clear BK202; clear HK; clear HB; have HO192 := n0_; have HO199 := n1_; have HO226 := n2_; have HI0 := n3_; have BK189 := n4_; have BK202 := n5_; have HK := n6_; have HB := n7_; clear n0_ n1_ n2_ n3_ n4_ n5_ n6_ n7_; clear hb ho90; obtain ⟨Ao91, co91, eo91⟩ := Kd.R_slice HO226.out; subst eo91) | ((with_reducible refine gate_callee (f := 58) rfl ?_); refine goesL_ (some 38) rfl rfl Tryd.func58 (by kernel_rfl) rfl #[.pointer (some ⟨g, 0, none⟩), .slice Ao91 y224.length co91] rfl ma_ ?_; (with_reducible refine (spec_l01Pick.calls g s0_0 t204 t205 _ _ y224 t227 t228 t229 w0 _ ?side1 ?side2 ?side3 ?side4 ?side5 A73.out).mono ?_); (case side1 => exact is_ HI0); (case side2 => exact bi_ HB); (case side3 => exact cr_ HO226); (case side4 => exact (Kd.R_reads' HO226.out).2.1); (case side5 => exact far_slice (IsS91.own_ne HI0.out HO226.out (by decide))); rintro e w92 ⟨rfl, hi, hb, hk⟩; refine ⟨_, rfl, ?_⟩; replace HO192 := am_ (Kd.R_mono (Kd.R_keep (IsS91.apart (show IsS91 w0 _ g s0_0 t204 t205 from is_ HI0) (kr_ HO192) (by decide)) hk (fun _ h => h.2)) (fun _ h => h.1)); replace HO199 := am_ (Kd.R_mono (Kd.R_keep (IsS91.apart (show IsS91 w0 _ g s0_0 t204 t205 from is_ HI0) (kr_ HO199) (by decide)) hk (fun _ h => h.2)) (fun _ h => h.1)); replace HO226 := am_ (Kd.R_mono (Kd.R_keep (IsS91.apart (show IsS91 w0 _ g s0_0 t204 t205 from is_ HI0) (kr_ HO226) (by decide)) hk (fun _ h => h.2)) (fun _ h => h.1)); replace HK := am_ (KeepBut.trans (hk_ HK) hk (.inl rfl)); replace HI0 := am_ (hi); replace BK189 := am_ (kb_ hk (bk_ BK189) NB189_0); replace BK202 := am_ (kb_ hk (bk_ BK202) NB202_0); replace HB := am_ (hb); (try clear hb); (try clear hk); (try clear hi)) | ((with_reducible refine gate_callee (f := 63) rfl ?_); refine goesL_ (some 39) rfl rfl Tryd.func63 (by kernel_rfl) rfl #[.int .i64 t227] rfl ma_ ?_; (with_reducible refine (spec_l02Of.calls k t227 t230 t231 _ A74.out).mono ?_); rintro e w93 ⟨v232, rfl, ho0, hb⟩; refine ⟨_, rfl, ?_⟩; have n0_ := am_ (Kd.R_elder' (kr_ HO192) (Kd.R_base ho0) hb); have n1_ := am_ (Kd.R_elder' (kr_ HO199) (Kd.R_base ho0) hb); have n2_ := am_ (Kd.R_elder' (kr_ HO226) (Kd.R_base ho0) hb); have n3_ := am_ (Kd.R_lower (Kd.R_new' (Kd.R_new' (Kd.R_new' ho0 (Kd.R_lt (kr_ HO192))) (Kd.R_lt (kr_ HO199))) (Kd.R_lt (kr_ HO226))) (keep_size (w := w) (g := g) (row := none) (hk_ HK))); have n4_ := am_ (IsS91.below (is_ HI0) hb); have n5_ := am_ (blk_below (bk_ BK189) hb); have n6_ := am_ (blk_below (bk_ BK202) hb); have n7_ := am_ (KeepBut.trans (hk_ HK) (KeepBut.of_below hb g none) (.inl rfl)); have n8_ := am_ (below_step (bi_ HB) hb); clear HO192; clear HO199; clear HO226; clear HI0; clear BK189; clear BK202; clear HK; clear HB; have HO192 := n0_; have HO199 := n1_; have HO226 := n2_; have HO233 := n3_; have HI0 := n4_; have BK189 := n5_; have BK202 := n6_; have HK := n7_; have HB := n8_; clear n0_ n1_ n2_ n3_ n4_ n5_ n6_ n7_ n8_; (try clear hb); (try clear ho0)) | ((with_reducible refine gate_dst (N := 41) rfl ?_); refine Kd.R_lit (Kd.int .i64) _ 2 ?hg (N := 41) ?hd (xs := ([4799, 4798, 4800, 2400] : List Int)) (inner := [.int .i64 4799, .int .i64 4798, .int .i64 4800, .int .i64 2400]) (ok := fun _ => True) (okp := fun _ => True) ?hr ?hp (fun _ hk => hk) trivial (Below.refl _ _) (Nat.le_refl _) (by simp) ?_; (case hd => rfl); (case hg => rfl); (case hr => first | (go_simp; done) | (go_simp; rfl)); (case hp => exact (Reps.one (show Kd.M (Kd.int .i64) _ _ _ 4799 [.int .i64 4799] from rfl) (Reps.one (show Kd.M (Kd.int .i64) _ _ _ 4798 [.int .i64 4798] from rfl) (Reps.one (show Kd.M (Kd.int .i64) _ _ _ 4800 [.int .i64 4800] from rfl) (Reps.one (show Kd.M (Kd.int .i64) _ _ _ 2400 [.int .i64 2400] from rfl) (Reps.none _ _)))))); intro v235 w94 ho95 hb hg_ hnew_; clear hg_ hnew_; (first | rw [← Ny234.out] at ho95 | (simp only [Int.reduceToNat] at ho95; rw [← Ny234.out] at ho95)); have n0_ := am_ (Kd.R_elder' (kr_ HO192) (Kd.R_base ho95) hb); have n1_ := am_ (Kd.R_elder' (kr_ HO199) (Kd.R_base ho95) hb); have n2_ := am_ (Kd.R_elder' (kr_ HO226) (Kd.R_base ho95) hb); have n3_ := am_ (Kd.R_elder' (kr_ HO233) (Kd.R_base ho95) hb); have n4_ := am_ (Kd.R_lower (Kd.R_new' (Kd.R_new' (Kd.R_new' (Kd.R_new' ho95 (Kd.R_lt (kr_ HO192))) (Kd.R_lt (kr_ HO199))) (Kd.R_lt (kr_ HO226))) (Kd.R_lt (kr_ HO233))) (keep_size (w := w) (g := g) (row := none) (hk_ HK))); have n5_ := am_ (IsS91.below (is_ HI0) hb); have n6_ := am_ (blk_below (bk_ BK189) hb); have n7_ := am_ (blk_below (bk_ BK202) hb); have n8_ := am_ (KeepBut.trans (hk_ HK) (KeepBut.of_below hb g none) (.inl rfl)); have n9_ := am_ (below_step (bi_ HB) hb); clear HO192; clear HO199; clear HO226; clear HO233; clear HI0; clear BK189; clear BK202; clear HK; clear HB; have HO192 := n0_; have HO199 := n1_; have HO226 := n2_; have HO233 := n3_; have HO236 := n4_; have HI0 := n5_; have BK189 := n6_; have BK202 := n7_; have HK := n8_; have HB := n9_; clear n0_ n1_ n2_ n3_ n4_ n5_ n6_ n7_ n8_ n9_; clear hb ho95; obtain ⟨Ao96, co96, eo96⟩ := Kd.R_slice HO236.out; subst eo96) | ((with_reducible refine gate_callee (f := 58) rfl ?_); refine goesL_ (some 42) rfl rfl Tryd.func58 (by kernel_rfl) rfl #[.pointer (some ⟨g, 0, none⟩), .slice Ao96 y234.length co96] rfl ma_ ?_; (with_reducible refine (spec_l01Pick.calls g s0_0 t228 t229 _ _ y234 t237 t238 t239 w0 _ ?side1 ?side2 ?side3 ?side4 ?side5 A75.out).mono ?_); (case side1 => exact is_ HI0); (case side2 => exact bi_ HB); (case side3 => exact cr_ HO236); (case side4 => exact (Kd.R_reads' HO236.out).2.1); (case side5 => exact far_slice (IsS91.own_ne HI0.out HO236.out (by decide))); rintro e w97 ⟨rfl, hi, hb, hk⟩; refine ⟨_, rfl, ?_⟩; replace HO192 := am_ (Kd.R_mono (Kd.R_keep (IsS91.apart (show IsS91 w0 _ g s0_0 t228 t229 from is_ HI0) (kr_ HO192) (by decide)) hk (fun _ h => h.2)) (fun _ h => h.1)); replace HO199 := am_ (Kd.R_mono (Kd.R_keep (IsS91.apart (show IsS91 w0 _ g s0_0 t228 t229 from is_ HI0) (kr_ HO199) (by decide)) hk (fun _ h => h.2)) (fun _ h => h.1)); replace HO226 := am_ (Kd.R_mono (Kd.R_keep (IsS91.apart (show IsS91 w0 _ g s0_0 t228 t229 from is_ HI0) (kr_ HO226) (by decide)) hk (fun _ h => h.2)) (fun _ h => h.1)); replace HO233 := am_ (Kd.R_mono (Kd.R_keep (IsS91.apart (show IsS91 w0 _ g s0_0 t228 t229 from is_ HI0) (kr_ HO233) (by decide)) hk (fun _ h => h.2)) (fun _ h => h.1)); replace HO236 := am_ (Kd.R_mono (Kd.R_keep (IsS91.apart (show IsS91 w0 _ g s0_0 t228 t229 from is_ HI0) (kr_ HO236) (by decide)) hk (fun _ h => h.2)) (fun _ h => h.1)); replace HK := am_ (KeepBut.trans (hk_ HK) hk (.inl rfl)); replace HI0 := am_ (hi); replace BK189 := am_ (kb_ hk (bk_ BK189) NB189_0); replace BK202 := am_ (kb_ hk (bk_ BK202) NB202_0); replace HB := am_ (hb); (try clear hb); (try clear hk); (try clear hi); obtain ⟨Ao98, co98, eo98⟩ := Kd.R_slice HO233.out; subst eo98) | ((with_reducible refine gate_callee (f := 78) rfl ?_); refine goesL_ (some 43) rfl rfl Tryd.func78 (by kernel_rfl) rfl #[.agg #[.int .i64 t230, .slice Ao98 t231.length co98], .int .i64 t237] rfl ma_ ?_; (with_reducible refine (spec_l02Left.calls k t230 _ _ t231 t237 t240 t241 _ ?side1 ?side2 A76.out).mono ?_); (case side1 => exact cr_ HO233); (case side2 => exact (Kd.R_reads' HO233.out).2.1); rintro e w99 ⟨v242, rfl, ho0, hb⟩; refine ⟨_, rfl, ?_⟩; have n0_ := am_ (Kd.R_elder' (kr_ HO192) (Kd.R_base ho0) hb); have n1_ := am_ (Kd.R_elder' (kr_ HO199) (Kd.R_base ho0) hb); have n2_ := am_ (Kd.R_elder' (kr_ HO226) (Kd.R_base ho0) hb); have n3_ := am_ (Kd.R_elder' (kr_ HO233) (Kd.R_base ho0) hb); have n4_ := am_ (Kd.R_elder' (kr_ HO236) (Kd.R_base ho0) hb); have n5_ := am_ (Kd.R_lower (Kd.R_new' (Kd.R_new' (Kd.R_new' (Kd.R_new' (Kd.R_new' ho0 (Kd.R_lt (kr_ HO192))) (Kd.R_lt (kr_ HO199))) (Kd.R_lt (kr_ HO226))) (Kd.R_lt (kr_ HO233))) (Kd.R_lt (kr_ HO236))) (keep_size (w := w) (g := g) (row := none) (hk_ HK))); have n6_ := am_ (IsS91.below (is_ HI0) hb); have n7_ := am_ (blk_below (bk_ BK189) hb); have n8_ := am_ (blk_below (bk_ BK202) hb); have n9_ := am_ (KeepBut.trans (hk_ HK) (KeepBut.of_below hb g none) (.inl rfl)); have n10_ := am_ (below_step (bi_ HB) hb); clear HO192; clear HO199; clear HO226; clear HO233; clear HO236; clear HI0; clear BK189; clear BK202; clear HK; clear HB; have HO192 := n0_; have HO199 := n1_; have HO226 := n2_; have HO233 := n3_; have HO236 := n4_; have HO243 := n5_; have HI0 := n6_; have BK189 := n7_; have BK202 := n8_; have HK := n9_; have HB := n10_; clear n0_ n1_ n2_ n3_ n4_ n5_ n6_ n7_ n8_ n9_ n10_; (try clear hb); (try clear ho0); obtain ⟨hcz100_0, hcz100_1, hfz100_0, hfz100_1⟩ := ck2_ BK202; obtain ⟨Ao101, co101, eo101⟩ := Kd.R_slice HO243.out; subst eo101; have hnb102 := NB189_0.out; have hnc102 := NB0_189.out; obtain ⟨hcz103_0, hcz103_1, hfz103_0, hfz103_1⟩ := ck2_ BK189))
     refine bodyPost_ret (results_cell_row rfl _ _ gb189 26 #[.int .i64 t240, .slice Ao101 t241.length co101] (0, 0) _ rfl (by (with_reducible repeat (first | refine blk_drewN ?_ _ | refine blk_drew ?_ | refine blk_alloc ?_ _)); refine blk_put (cs := #[.int .i64 t240, .slice none 0 0]) ?_ 1 _ rfl; (with_reducible repeat (first | refine blk_drewN ?_ _ | refine blk_drew ?_ | refine blk_alloc ?_ _)); refine blk_put (cs := #[.int .i64 0, .slice none 0 0]) ?_ 0 _ rfl; (with_reducible repeat (first | refine blk_drewN ?_ _ | refine blk_drew ?_ | refine blk_alloc ?_ _)); refine blk_far ?_ NB189_202.out _; (with_reducible repeat (first | refine blk_drewN ?_ _ | refine blk_drew ?_ | refine blk_alloc ?_ _)); refine blk_far ?_ NB189_202.out _; (with_reducible repeat (first | refine blk_drewN ?_ _ | refine blk_drew ?_ | refine blk_alloc ?_ _)); exact BK189.out) Tryd.underlying26 rfl (by kernel_rfl)) rfl ?_
     exact ⟨_, by first | rfl | (simp [errW_none, errW_some] <;> rfl) | (simp [*, errW_none, errW_some] <;> rfl), by (with_reducible repeat (first | apply Kd.R_alloc | apply Kd.R_drewN | apply Kd.R_drew)); exact Kd.R_mono (Kd.R_far (p := ⟨gb189, 1, none⟩) (Kd.R_far (p := ⟨gb189, 0, none⟩) (Kd.R_far (p := ⟨gb202, 1, none⟩) (Kd.R_far (p := ⟨gb202, 0, none⟩) (Kd.R_types (Kd.R_types HO243.out BK202.out (by decide)) BK189.out (by decide)) (fun _ hk => hk.1.2) (.int .i64 t240)) (fun _ hk => hk.1.2) (.slice Ao101 t241.length co101)) (fun _ hk => hk.2) (.int .i64 t240)) (fun _ hk => hk.2) (.slice Ao101 t241.length co101)) (fun _ hk => trivial), is_ HI0, bi_ HB, hk_ HK⟩
    ·rw [if_neg c72] at H
     have c72b0 : (t203 == 3) = false := beq_eq_false_iff_ne.mpr c72
     have c72b1 : (t203 != 3) = true := bne_iff_ne.mpr c72
     simp only [Option.some.injEq, Prod.mk.injEq] at H
     obtain ⟨rfl, rfl, rfl, rfl⟩ := H
     obtain ⟨hcz116_0, hcz116_1, hfz116_0, hfz116_1⟩ := ck2_ BK202; have hnb117 := NB189_0.out; have hnc117 := NB0_189.out; obtain ⟨hcz118_0, hcz118_1, hfz118_0, hfz118_1⟩ := ck2_ BK189
     go_wp2
     refine bodyPost_ret (results_cell_row rfl _ _ gb189 26 #[.int .i64 t196, .slice Ao17 t197.length co17] (0, 0) _ rfl (bp2_ BK189) Tryd.underlying26 rfl (by kernel_rfl)) rfl ?_
     exact ⟨_, by first | rfl | (simp [errW_none, errW_some] <;> rfl) | (simp [*, errW_none, errW_some] <;> rfl), rt_ HO199 BK189, is_ HI0, bi_ HB, hk_ HK⟩
end Go.Proofs.YtlkomiiijhphnaaDoor.X
