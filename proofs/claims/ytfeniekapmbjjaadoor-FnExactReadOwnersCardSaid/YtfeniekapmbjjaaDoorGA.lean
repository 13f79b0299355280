/- Words and small walks of this claim's own, in one file; what each part says stands ahead of it. No condition but those that each theorem names. -/
import Derived.WalkKit
import Derived.Deep.MidRow
import Derived.Deep.WholeRow
import Derived.Deep.Draws
import Derived.Deep.LoopGhost
import Derived.Deep.QuietTactic
import Derived.BigQuiet
import Derived.Deep.DeepCutAuto
import Derived.Deep.CutBlock
import Derived.Deep.RegionHeld3
import Derived.Lib.Hide
import Derived.KernelRfl
import Derived.Test.YtfeniekapmbjjaaDoorWLast
/- Words of this claim's own: blocks that are known whole. No condition. -/
namespace Go.Proofs.YtfeniekapmbjjaaDoor
open Go.RowKit
set_option linter.unusedSimpArgs false
set_option linter.unusedVariables false

/-- Block g holds these cells, all of them, and none is frozen. -/
def Blk (w : World) (g : Nat) (cs : List Value) (T : TypeId) : Prop := w.heap[g]? = some (.cells cs.toArray T (0, 0))

theorem heap_new (w : World) (o : Obj) : (w.alloc o).heap[w.heap.size]? = some o := by
  show (w.heap.push o)[w.heap.size]? = some o
  simp

section
variable {w w' : World} {g k B : Nat} {cs ds : List Value} {T U : TypeId} {v : Value}

theorem Blk.lt (h : Blk w g cs T) : g < w.heap.size := by
  rcases Nat.lt_or_ge g w.heap.size with h1 | h1
  · exact h1
  · have h2 : w.heap[g]? = some (.cells cs.toArray T (0, 0)) := h
    rw [Array.getElem?_eq_none h1] at h2
    cases h2
theorem Blk.new (w : World) (cs : Array Value) (T : TypeId) : Blk (w.alloc (.cells cs T)) w.heap.size cs.toList T := by
  unfold Blk
  rw [Array.toArray_toList]
  exact heap_new w _
theorem Blk.new' (w : World) (cs : List Value) (T : TypeId) : Blk (w.alloc (.cells cs.toArray T)) w.heap.size cs T := heap_new w _
theorem Blk.newAt {w : World} {g : Nat} {cs : List Value} {T : TypeId} (hg : g = w.heap.size) : Blk (w.alloc (.cells cs.toArray T)) g cs T := by subst hg; exact Blk.new' w cs T
theorem Blk.alloc (h : Blk w g cs T) (o : Obj) : Blk (w.alloc o) g cs T := by
  show (w.heap.push o)[g]? = _
  rw [Array.getElem?_push, if_neg (Nat.ne_of_lt h.lt)]
  exact h
theorem Blk.below (h : Blk w g cs T) (hb : Below B w w') (hg : g < B) : Blk w' g cs T := by
  unfold Blk
  rw [hb.block g hg]
  exact h
theorem Blk.drewN (h : Blk w g cs T) (n : Nat) : Blk (w.drewN n) g cs T := h
theorem Blk.drew (h : Blk w g cs T) : Blk w.drew g cs T := h
theorem Blk.set (h : Blk w g cs T) (i : Nat) (v : Value) : Blk (w.setCell ⟨g, i, none⟩ v) g (cs.set i v) T := by
  unfold Blk
  rw [heap_setCell_same w g i cs.toArray T v h]
  simp
theorem Blk.setOther (h : Blk w g cs T) (hk : g ≠ k) (i : Nat) (v : Value) : Blk (w.setCell ⟨k, i, none⟩ v) g cs T := by
  unfold Blk
  rw [heap_setCell_other w ⟨k, i, none⟩ g v hk]
  exact h
theorem Blk.row (h : Blk w g cs T) (ds : List Value) : Blk (w.setRow g ds.toArray) g ds T := setRow_heap w g cs.toArray ds.toArray T (0, 0) h
theorem Blk.rowOther (h : Blk w g cs T) (hk : g ≠ k) (ds : Array Value) : Blk (w.setRow k ds) g cs T := by
  unfold Blk
  rw [setRow_other w k g ds hk]
  exact h
theorem Blk.cell (h : Blk w g cs T) {i : Nat} (hi : cs[i]? = some v) : w.cell? ⟨g, i, none⟩ = some v := by
  rw [cell_of_row w g i _ _ _ h]
  simpa using hi
theorem Blk.free (h : Blk w g cs T) (i : Nat) : w.frozen? ⟨g, i, none⟩ = false := frozen_of_row w g i _ _ h
theorem Blk.range (h : Blk w g cs T) (o : Nat) {ds : List Value} (hd : (cs.drop o).take ds.length = ds) : w.rangeAt g o ds := fun j v hj => by
  refine h.cell ?_
  have hl := (List.getElem?_eq_some_iff.1 hj).1
  rw [← hd, List.getElem?_take_of_lt hl, List.getElem?_drop] at hj
  exact hj
theorem Blk.there (h : Blk w g cs T) (o n : Nat) (hn : o + n ≤ cs.length) : w.there g o n := fun j hj => by
  refine ⟨?_, h.free _⟩
  rw [h.cell (List.getElem?_eq_getElem (show o + j < cs.length by omega))]
  rfl

theorem below_setCell (h : Below B w w') (hg : B ≤ g) (i : Nat) (v : Value) : Below B w (w'.setCell ⟨g, i, none⟩ v) := h.setCell hg _
theorem below_setRow (h : Below B w w') (hg : B ≤ g) (ds : Array Value) : Below B w (w'.setRow g ds) :=
  ⟨h.os, h.tape, h.output, by simpa using h.size, fun i hi => (setRow_other w' g i ds (by omega)).trans (h.block i hi)⟩
theorem below_drewN (h : Below B w w') (n : Nat) : Below B w (w'.drewN n) := ⟨h.os, h.tape, h.output, h.size, h.block⟩

/-- Cells from o on are stored: the block, whole. -/
theorem setCells_row {P : Program} {o : Nat} {vs : List Value} (h : Blk w g cs T) (hl : o + vs.length ≤ cs.length) (h1 : ∀ v ∈ vs, v.oneCell' = true) :
    w.setCells g o vs = w.setRow g (cs.take o ++ vs ++ cs.drop (o + vs.length)).toArray := by
  have a := run_storeCells_at (P := P) g o T vs 0 cs.toArray w h (by simpa using hl) h1
  have b := run_storeCells_cells (P := P) g o vs 0 w (fun j hj => by simpa using (h.there o vs.length hl j hj).1) (fun j hj => by simpa using (h.there o vs.length hl j hj).2) h1
  rw [a] at b
  simp only [Nat.add_zero] at b
  injection b with _ b
  exact b.symm

/-- A load of many cells out of a block. -/
theorem wpList_load_blk {P : Program} {ops : Array Oper} {rest : List Oper} {op : Oper} {a : Act} {Q : Exit → Act → World → Prop} (hgd : op.guard = none) (ty : TypeId) (x : Operand) (ho : op.op = .load ty x)
    (b o : Nat) (hx : a.eval x = .pointer (some ⟨b, o, none⟩)) (ds : List Value) (d : TypeDesc) (hB : Blk w b cs T) (hd' : (cs.drop o).take ds.length = ds)
    (hu : P.underlying ty = some d) (hd : d.isRow = true) (hi : (P.info? ty).map (·.size) = some ds.length)
    (h : wpList P ops Q rest (a.put op.dst (.agg ds.toArray)) w) : wpList P ops Q (op :: rest) a w :=
  wpList_load_mid hgd ty x ho b o hx ds d (hB.range o hd') hu hd hi h

/-- A store of many cells into a block. -/
theorem wpList_store_blk {P : Program} {ops : Array Oper} {rest : List Oper} {op : Oper} {a : Act} {Q : Exit → Act → World → Prop} (hgd : op.guard = none) (ty : TypeId) (x y : Operand) (ho : op.op = .store ty x y)
    (b o : Nat) (vs : List Value) (hx : a.eval x = .pointer (some ⟨b, o, none⟩)) (hy : a.eval y = .agg vs.toArray) (hB : Blk w b cs T) (hl : o + vs.length ≤ cs.length)
    (hi : (P.info? ty).map (·.size) = some vs.length) (h1 : ∀ v ∈ vs, v.oneCell' = true)
    (h : wpList P ops Q rest (a.put op.dst undef) (w.setRow b (cs.take o ++ vs ++ cs.drop (o + vs.length)).toArray)) : wpList P ops Q (op :: rest) a w := by
  refine wpList_store_mid hgd ty x y ho b o vs.toArray hx hy (hB.there o _ (by simpa using hl)) (by simpa using hi) (all_oneCell_toArray h1) ?_
  rw [show vs.toArray.toList = vs from rfl, setCells_row (P := P) hB hl h1]
  exact h
end

/-- A guard that wants it is taken off. -/
theorem wpList_guard {P : Program} {ops : Array Oper} {rest : List Oper} {o : Oper} {a : Act} {w : World} {Q : Exit → Act → World → Prop} (hw : Region.wanted o (yielded ops a.tmps) = true)
    (h : wpList P ops Q ({ o with guard := none } :: rest) a w) : wpList P ops Q (o :: rest) a w := by
  have h1 : Region.wanted { o with guard := none } (yielded ops a.tmps) = true := rfl
  unfold wpList at h ⊢
  rw [if_pos h1] at h
  rw [if_pos hw]
  exact h

/-- A store of a whole block. -/
theorem wpList_store_all {P : Program} {ops : Array Oper} {rest : List Oper} {op : Oper} {a : Act} {w : World} {Q : Exit → Act → World → Prop} {cs : List Value} {T : TypeId} (hgd : op.guard = none) (ty : TypeId) (x y : Operand) (ho : op.op = .store ty x y)
    (b : Nat) (vs : List Value) (hx : a.eval x = .pointer (some ⟨b, 0, none⟩)) (hy : a.eval y = .agg vs.toArray) (hB : Blk w b cs T) (hl : vs.length = cs.length)
    (hi : (P.info? ty).map (·.size) = some vs.length) (h1 : ∀ v ∈ vs, v.oneCell' = true)
    (h : wpList P ops Q rest (a.put op.dst undef) (w.setRow b vs.toArray)) : wpList P ops Q (op :: rest) a w := by
  refine wpList_store_blk hgd ty x y ho b 0 vs hx hy hB (by omega) hi h1 ?_
  rw [List.take_zero, List.nil_append, List.drop_eq_nil_iff.2 (by omega), List.append_nil]
  exact h

/-- A body that ends with a result that lies in a block. -/
theorem post_blk {P : Program} {fn : Func} {R : Ending → World → Prop} {a : Act} {w : World} {p : Tmp} {ty T : TypeId} {g : Nat} {cs : List Value} {d : TypeDesc} (hr : fn.results = #[.cell p ty]) (hd : a.defers = [])
    (hp : a.tmps.getD p undef = .pointer (some ⟨g, 0, none⟩)) (hB : Blk w g cs T) (hu : P.underlying ty = some d) (hd' : d.isRow = true) (hi : (P.info? ty).map (·.size) = some cs.length)
    (h : R (.returned (.agg cs.toArray)) w) : bodyPost P fn R .ret a w :=
  ⟨hd, _, results_cell_row hr a.tmps w g T cs.toArray (0, 0) d hp hB hu (by cases d <;> simp_all [TypeDesc.isRow]) (by simpa using hi), h⟩

/-- The number at a place (a plain word: the walk leaves it alone). -/
def nth (zs : List Int) (i : Nat) : Int := zs.getD i 0

theorem ret_bool {a b : Bool} (h : a = b) : Ending.returned (.bool a) = .returned (.bool b) := by rw [h]
theorem ret_i64 {a b : Int} (h : a = b) : Ending.returned (.int .i64 a) = .returned (.int .i64 b) := by rw [h]
theorem ret_agg {a b : List Value} (h : a = b) : Ending.returned (.agg a.toArray) = .returned (.agg b.toArray) := by rw [h]

theorem one_ints (k : IntKind) (zs : List Int) : ∀ v ∈ zs.map (Value.int k), v.oneCell' = true := by
  intro v hv
  obtain ⟨z, _, rfl⟩ := List.mem_map.1 hv
  rfl

/-! ### Regions that draw their order: loads and calls that keep a class of worlds -/
section
variable {P : Program} {ops : Array Oper} {C : World → Prop} {Qa : Act → Prop} {rest : List Oper} {oi : Oper} {a : Act}

theorem wp_region_class {id : Nat} {Q : Exit → Act → World → Prop} {a : Act} {w : World} {l : List Oper} (C : World → Prop) (hm : P.follows .mixedOrders = true) (hB : Region.lexB .any l.toArray = true)
    (hC : C { w with drawn := w.drawn + 1 }) (h : wpQuiet P l.toArray C (fun a' => ∀ w', C w' → Q .normal a' w') l a) : (Code.region id l.toArray true).wp P Q a w :=
  wp_region_quiet (C := C) hm hB hC (by simpa using h)

theorem q_value (N : Option Tmp) (hd : oi.dst = N) (hw : Region.wanted oi (yielded ops a.tmps) = true) (v : Value) (h : ∀ w, C w → (execOp a.eval oi).run P w = .ok (.value v) w) (k : wpQuiet P ops C Qa rest (a.put N v)) : wpQuiet P ops C Qa (oi :: rest) a := by
  refine wpQuiet_step fun K hK => ?_
  rw [if_pos hw]
  refine ⟨v, fun w hC => ?_, ?_⟩
  · unfold Oper.quietAt
    rw [h w hC]
    exact ⟨rfl, rfl⟩
  · subst hd
    exact hK _ k

theorem q_move (N : Option Tmp) (hd : oi.dst = N) (hw : Region.wanted oi (yielded ops a.tmps) = true) (x : Operand) (ho : oi.op = .move x) (v : Value) (hv : a.eval x = v) (k : wpQuiet P ops C Qa rest (a.put N v)) : wpQuiet P ops C Qa (oi :: rest) a := by
  refine q_value N hd hw v (fun w _ => ?_) k
  unfold execOp
  simp [ho, hv]

theorem q_assign (N : Option Tmp) (hd : oi.dst = N) (hw : Region.wanted oi (yielded ops a.tmps) = true) (x : Operand) (ho : oi.op = .assign x) (v : Value) (hv : a.eval x = v) (k : wpQuiet P ops C Qa rest (a.put N v)) : wpQuiet P ops C Qa (oi :: rest) a := by
  refine q_value N hd hw v (fun w _ => ?_) k
  unfold execOp
  simp [ho, hv]

theorem q_load {T : TypeId} {cs : List Value} (N : Option Tmp) (hd : oi.dst = N) (hw : Region.wanted oi (yielded ops a.tmps) = true) (ty : TypeId) (x : Operand) (ho : oi.op = .load ty x) (b o : Nat) (hx : a.eval x = .pointer (some ⟨b, o, none⟩))
    (ds : List Value) (d : TypeDesc) (hB : ∀ w, C w → Blk w b cs T) (hd' : (cs.drop o).take ds.length = ds) (hu : P.underlying ty = some d) (hr : d.isRow = true) (hi : (P.info? ty).map (·.size) = some ds.length)
    (k : wpQuiet P ops C Qa rest (a.put N (.agg ds.toArray))) : wpQuiet P ops C Qa (oi :: rest) a := by
  refine q_value N hd hw _ (fun w hC => ?_) k
  unfold execOp
  simp only [ho, hx, Instr.loadAt, Instr.sureAddr, Sem.run_bind, Sem.run_pure, Result.andThen_ok, run_loadVar_mid w b o ty ds d ((hB w hC).range o hd') hu hr hi]

theorem enters' {f : FuncId} {fn : Func} (hf : P.funcs[f]? = some fn) (hname : (fn.name == "runtime.NumGoroutine") = false) (hb : fn.body.isSome = true) (args : Array Value) (w : World) : (callFunc f args).run P w = .ok (.enter f args) w := by
  have h1 : fn.name ≠ "runtime.NumGoroutine" := by simpa using hname
  obtain ⟨c, hc⟩ := Option.isSome_iff_exists.1 hb
  simp [callFunc, hf, h1, hc]

theorem q_call (N : Option Tmp) (hd : oi.dst = N) (hw : Region.wanted oi (yielded ops a.tmps) = true) {f : FuncId} {fn : Func} {as : Array Operand} {ts : Array TypeId} (hf : P.funcs[f]? = some fn) (hname : (fn.name == "runtime.NumGoroutine") = false) (hb : fn.body.isSome = true)
    (args : Array Value) (hop : oi.op = .call { callee := .value (.func f), args := as, argTypes := ts }) (hargs : as.map a.eval = args) (v : Value) (h : ∀ w, C w → Calls P f args w fun e w' => e = .returned v ∧ C w')
    (k : wpQuiet P ops C Qa rest (a.put N v)) : wpQuiet P ops C Qa (oi :: rest) a := by
  refine wpQuiet_step fun K hK => ?_
  rw [if_pos hw]
  refine ⟨v, fun w hC => ?_, ?_⟩
  · have he := enters' hf hname hb args w
    have hrun : (execOp a.eval oi).run P w = .ok (.enter f args) w := by
      unfold execOp
      simp [hop, resolve, Deferred.ofValue, invoke, Act.eval, hargs, he]
    unfold Oper.quietAt
    rw [hrun]
    exact ⟨rfl, h w hC⟩
  · subst hd
    exact hK _ k
end

/-- The worlds that are as w below its heap's end, and hold these blocks. -/
structure Cls (w : World) (L : List (Nat × List Value × TypeId)) (w' : World) : Prop where
  below : Below w.heap.size w w'
  blk : ∀ x ∈ L, Blk w' x.1 x.2.1 x.2.2
theorem Cls.step {w w1 w2 : World} {L : List (Nat × List Value × TypeId)} (h : Cls w L w1) (hb : Below w1.heap.size w1 w2) : Cls w L w2 :=
  ⟨h.below.trans (hb.mono h.below.size), fun x hx => (h.blk x hx).below hb (h.blk x hx).lt⟩
theorem Cls.drew {w w1 : World} {L : List (Nat × List Value × TypeId)} (h : Cls w L w1) : Cls w L { w1 with drawn := w1.drawn + 1 } :=
  ⟨⟨h.below.os, h.below.tape, h.below.output, h.below.size, h.below.block⟩, fun x hx => h.blk x hx⟩
theorem Cls.calls {P : Program} {f : FuncId} {args : Array Value} {w w1 : World} {v : Value} {L : List (Nat × List Value × TypeId)} (h : Cls w L w1) (hc : Calls P f args w1 fun e w' => e = .returned v ∧ Below w1.heap.size w1 w') :
    Calls P f args w1 fun e w' => e = .returned v ∧ Cls w L w' := hc.mono fun _ _ ⟨he, hb⟩ => ⟨he, h.step hb⟩
theorem Cls.calls' {P : Program} {f : FuncId} {args : Array Value} {w w1 : World} {v : Value} {L : List (Nat × List Value × TypeId)} (h : Cls w L w1) (hc : Calls P f args w1 fun e w' => e = .returned v ∧ w1 = w') :
    Calls P f args w1 fun e w' => e = .returned v ∧ Cls w L w' := hc.mono fun _ _ ⟨he, hb⟩ => ⟨he, hb ▸ h⟩

/-- All numbers below n. -/
def allB (n : Nat) (p : Nat → Bool) : Bool := (List.range n).all p
theorem allB_yes {n : Nat} {p : Nat → Bool} (h : ∀ i, i < n → p i = true) : allB n p = true := by
  unfold allB
  rw [List.all_eq_true]
  exact fun i hi => h i (List.mem_range.1 hi)
theorem allB_no {n : Nat} {p : Nat → Bool} (i : Nat) (hi : i < n) (h : p i = false) : allB n p = false := by
  rw [Bool.eq_false_iff]
  intro e
  have := List.all_eq_true.1 e i (List.mem_range.2 hi)
  rw [h] at this
  cases this
end Go.Proofs.YtfeniekapmbjjaaDoor

/- Words of this claim's own: a region that draws its order, some of whose operations make memory: what yields one value in every world to come may be taken first. No condition. -/
namespace Go.Proofs.YtfeniekapmbjjaaDoor
open Go.RowKit
set_option linter.unusedSimpArgs false
set_option linter.unusedVariables false

/-- A world to come: nothing that was has turned. -/
abbrev WUp (w w' : World) : Prop := Below w.heap.size w w'
theorem WUp.refl (w : World) : WUp w w := Below.refl _ _
theorem WUp.trans {w w1 w2 : World} (h : WUp w w1) (k : WUp w1 w2) : WUp w w2 := Below.trans h (k.mono h.size)

section
variable {P : Program} {ops : Array Oper} {Q : Exit → Act → World → Prop} {md : Region.Mode} {n : Nat}

/-- In every world to come the operation yields v, and leaves a world to come. -/
def YieldsUp (P : Program) (ops : Array Oper) (o : Oper) (v : Value) (a : Act) (w : World) : Prop :=
  (Region.wanted o (yielded ops a.tmps) = true ∧ ∀ w', WUp w w' → o.quietAt P a (WUp w') w' v) ∨ (Region.wanted o (yielded ops a.tmps) = false ∧ v = undef)

theorem YieldsUp.up {o : Oper} {v : Value} {a : Act} {w w1 : World} (h : YieldsUp P ops o v a w) (hw : WUp w w1) : YieldsUp P ops o v a w1 := by
  rcases h with ⟨h1, h2⟩ | h
  · exact .inl ⟨h1, fun w' h' => h2 w' (hw.trans h')⟩
  · exact .inr h
theorem YieldsUp.same {o : Oper} {v : Value} {a a' : Act} {w : World} (hy : YieldsUp P ops o v a w) (he : execOp a'.eval o = execOp a.eval o)
    (hw : Region.wanted o (yielded ops a'.tmps) = Region.wanted o (yielded ops a.tmps)) : YieldsUp P ops o v a' w := by
  unfold YieldsUp Oper.quietAt at *
  rw [he, hw]
  exact hy
theorem YieldsUp.op {i : Nat} {oi : Oper} {v : Value} {a : Act} {w : World} {K : Act → World → Prop} (hi : ops[i]? = some oi) (hy : YieldsUp P ops oi v a w) (hK : ∀ w', WUp w w' → K (a.put oi.dst v) w') : wpOp P ops Q i K a w := by
  unfold wpOp
  simp only [hi]
  rcases hy with ⟨hw, hv⟩ | ⟨hw, rfl⟩
  · rw [if_pos hw]
    refine .inl ?_
    have h3 := hv w (WUp.refl w)
    unfold Oper.quietAt at h3
    unfold Oper.wp
    generalize (execOp a.eval oi).run P w = r at *
    cases r with
    | ok nx w' =>
      cases nx <;> simp only [Oper.quietUpon] at h3 <;> simp only [Oper.upon]
      case value u =>
        obtain ⟨e1, e2⟩ := h3
        rw [e1, e2]
        exact hK _ (WUp.refl w)
      case skip =>
        obtain ⟨e1, e2⟩ := h3
        rw [e1, ← e2]
        exact hK _ (WUp.refl w)
      case enter f args =>
        obtain ⟨e1, hc⟩ := h3
        rw [e1]
        exact hc.mono fun e w'' ⟨he, hw''⟩ => by subst he; exact hK _ hw''
    | halt x w' => simp only [Oper.quietUpon] at h3
  · rw [hw]
    exact hK w (WUp.refl w)

/-- Any order from here on, in every world to come; an operation whose number is below n leaves a world to come. -/
def wpK (P : Program) (md : Region.Mode) (ops : Array Oper) (Q : Exit → Act → World → Prop) (n : Nat) : Nat → Array Bool → Act → World → Prop
  | 0, listed, a, w => ∀ w', WUp w w' → Region.ready md ops listed = [] ∧ Q .normal a w'
  | f + 1, listed, a, w => ∀ w', WUp w w' → (Region.ready md ops listed = [] → Q .normal a w') ∧
      ∀ i ∈ Region.ready md ops listed, wpOp P ops Q i (fun a'' w'' => (i < n → WUp w' w'') ∧ wpK P md ops Q n f (listed.setIfInBounds i true) a'' w'') a w'

theorem wpK.up : ∀ {f : Nat} {listed : Array Bool} {a : Act} {w w1 : World}, wpK P md ops Q n f listed a w → WUp w w1 → wpK P md ops Q n f listed a w1
  | 0, _, _, _, _, h, hw => fun w' h' => h w' (hw.trans h')
  | _ + 1, _, _, _, _, h, hw => fun w' h' => h w' (hw.trans h')

theorem wpK.any : ∀ (f : Nat) (listed : Array Bool) (a : Act) (w : World), wpK P md ops Q n f listed a w → wpAny P md ops Q f listed a w
  | 0, _, _, w, h => h w (WUp.refl w)
  | f + 1, _, _, w, h => ⟨(h w (WUp.refl w)).1, fun i hi => wpOp_mono (fun a' w' h' => wpK.any f _ a' w' h'.2) ((h w (WUp.refl w)).2 i hi)⟩

/-- An operation that is apart from one that has yielded already. -/
theorem wpOp_put' {j : Nat} {oi oj : Oper} {v : Value} (hj : ops[j]? = some oj) (hap : oi.apart ops oj = true) (hsj : ∀ cs b, oj.op ≠ .select cs b)
    (hQ : ∀ c a w, Q (.panic c) (a.put oi.dst v) w → Q (.panic c) a w) {K : Act → World → Prop} {a : Act} {w : World} (Y : Act → Prop) (hk : ∀ a u, Y a → Y (a.put oj.dst u)) (hkd : ∀ (a : Act) d, Y a → Y { a with defers := d :: a.defers })
    (hy : Y a) (h : wpOp P ops Q j K (a.put oi.dst v) w) : wpOp P ops Q j (fun a' w' => Y a' ∧ K (a'.put oi.dst v) w') a w := by
  obtain ⟨h1, h2, h3⟩ := Oper.apart_spec hap
  unfold wpOp at *
  simp only [hj] at *
  rw [wanted_put oj a oi.dst v h1] at h
  split
  · rename_i hw
    simp only [hw, if_true] at h
    rcases h with h | ⟨hasks, hlets⟩
    case inr => exact .inr ⟨by unfold Oper.asks at *; rw [execOp_put oj hsj a oi.dst v h1] at hasks; exact hasks, hlets⟩
    refine .inl ?_
    unfold Oper.wp at *
    rw [execOp_put oj hsj a oi.dst v h1] at h
    generalize (execOp a.eval oj).run P w = r at *
    cases r with
    | ok nx w' =>
      cases nx <;> simp only [Oper.upon] at h ⊢
      case value u => exact ⟨hk a u hy, by rw [← Act.put_comm a v u h2]; exact h⟩
      case skip => exact ⟨hk a _ hy, by rw [← Act.put_comm a v undef h2]; exact h⟩
      case defer d =>
        refine ⟨hk _ _ (hkd a d hy), ?_⟩
        rw [← Act.put_comm _ v undef h2, ← Act.put_defers]
        exact h
      case enter f args =>
        refine Calls.mono h fun e w'' he => ?_
        cases e with
        | returned u => exact ⟨hk a u hy, by rw [← Act.put_comm a v u h2]; exact he⟩
        | panicked c => exact hQ _ _ _ he
        | outgrown => exact he
      case row row args => exact Rows.mono h fun u w'' he => ⟨hk a u hy, by rw [← Act.put_comm a v u h2]; exact he⟩
    | halt x w' =>
      cases x <;> simp only [Oper.upon] at h ⊢
      case panic u => exact hQ _ _ _ h
  · rename_i hw
    simp only [hw] at h
    exact ⟨hk a _ hy, by rw [← Act.put_comm a v undef h2]; exact h⟩

theorem wpK_take' {i : Nat} {oi : Oper} {v : Value} (hi : ops[i]? = some oi) (hsel : ∀ (j : Nat) (o : Oper) cs b, ops[j]? = some o → o.op ≠ .select cs b)
    (hQ : ∀ c a w, Q (.panic c) (a.put oi.dst v) w → Q (.panic c) a w) (hn : ∀ j oj, ops[j]? = some oj → n ≤ j → j ≠ i → ∃ e ∈ oj.after, Region.binds md e = true ∧ e.on = i) :
    ∀ (f : Nat) (listed : Array Bool) (a : Act) (w : World),
      (∀ j oj, ops[j]? = some oj → j ≠ i → listed.getD j true = false → (∀ e ∈ oj.after, Region.binds md e = true → e.on ≠ i) → oi.apart ops oj = true) →
      i ∈ Region.ready md ops listed → YieldsUp P ops oi v a w → wpK P md ops Q n f (listed.setIfInBounds i true) (a.put oi.dst v) w → wpK P md ops Q n (f + 1) listed a w := by
  intro f
  induction f with
  | zero =>
    intro listed a w _ hr hy H w' hw'
    refine ⟨fun h => (by rw [h] at hr; cases hr), fun j hj => ?_⟩
    by_cases hji : j = i
    · subst hji
      exact (hy.up hw').op hi fun w2 h2 => ⟨fun _ => h2, H.up (hw'.trans h2)⟩
    · have := ready_mono hj hji
      rw [(H w' hw').1] at this
      cases this
  | succ f ih =>
    intro listed a w hfree hr hy H w' hw'
    refine ⟨fun h => (by rw [h] at hr; cases hr), fun j hj => ?_⟩
    by_cases hji : j = i
    · subst hji
      exact (hy.up hw').op hi fun w2 h2 => ⟨fun _ => h2, H.up (hw'.trans h2)⟩
    · have h1 := (H w' hw').2 j (ready_mono hj hji)
      obtain ⟨hjun, oj, hoj, hall⟩ := mem_ready.1 hj
      have hiun : listed.getD i true = false := (mem_ready.1 hr).1
      have hnot : ∀ e ∈ oj.after, Region.binds md e = true → e.on ≠ i := fun e he hb heq => by
        have h1 := hall e he hb
        rw [heq] at h1
        rcases Nat.lt_or_ge i listed.size with h' | h'
        · simp [h'] at hiun h1; rw [hiun] at h1; cases h1
        · simp [Array.getElem?_eq_none h'] at hiun
      have hjn : j < n := by
        rcases Nat.lt_or_ge j n with h | h
        · exact h
        · obtain ⟨e, he, hb, heq⟩ := hn j oj hoj h hji
          exact absurd heq (hnot e he hb)
      have hap := hfree j oj hoj hji hjun hnot
      obtain ⟨g1, g2, g3⟩ := Oper.apart_spec hap
      have h2 := wpOp_put' hoj hap (fun cs b => hsel j oj cs b hoj) hQ (fun a' => YieldsUp P ops oi v a' w') (fun a' u hy' => hy'.same (execOp_put oi (fun cs b => hsel i oi cs b hi) a' oj.dst u g3) (wanted_put oi a' oj.dst u g3)) (fun a' d hy' => hy'.same rfl rfl) (hy.up hw') h1
      have hfree' : ∀ k ok, ops[k]? = some ok → k ≠ i → (listed.setIfInBounds j true).getD k true = false →
          (∀ e ∈ ok.after, Region.binds md e = true → e.on ≠ i) → oi.apart ops ok = true := fun k ok hk hki hun hno => by
        refine hfree k ok hk hki ?_ hno
        by_cases hjk : j = k
        · subst hjk; exact hjun
        · rw [getD_set_ne true hjk] at hun; exact hun
      refine wpOp_mono (fun a' w2 h3 => ⟨h3.2.1, ih (listed.setIfInBounds j true) a' w2 hfree' (ready_mono hr (Ne.symm hji)) (h3.1.up (h3.2.1 hjn)) ?_⟩) h2
      rw [Array.setIfInBounds_comm _ _ hji]
      exact h3.2.2

/-- From n on each operation waits for number i. -/
def waitB (md : Region.Mode) (ops : Array Oper) (n i : Nat) : Bool :=
  (List.range ops.size).all fun j => decide (j < n) || j == i || match ops[j]? with
    | some oj => oj.after.any fun e => Region.binds md e && e.on == i
    | none => true
/-- Number i may be taken first: one question to the operations. -/
def takeB (md : Region.Mode) (ops : Array Oper) (n i : Nat) (l l' : Array Bool) : Bool :=
  Region.noSelect ops && (waitB md ops n i && (Region.free md ops l i && ((Region.ready md ops l).contains i && (l.setIfInBounds i true == l'))))
/-- .. whatever the world is. -/
def anyB (md : Region.Mode) (ops : Array Oper) (i : Nat) (l l' : Array Bool) : Bool :=
  Region.noSelect ops && (Region.free md ops l i && ((Region.ready md ops l).contains i && (l.setIfInBounds i true == l')))

theorem wpK_any' {i : Nat} {oi : Oper} {v : Value} (hi : ops[i]? = some oi) (hsel : ∀ (j : Nat) (o : Oper) cs b, ops[j]? = some o → o.op ≠ .select cs b)
    (hQ : ∀ c a w, Q (.panic c) (a.put oi.dst v) w → Q (.panic c) a w) :
    ∀ (f : Nat) (listed : Array Bool) (a : Act) (w : World),
      (∀ j oj, ops[j]? = some oj → j ≠ i → listed.getD j true = false → (∀ e ∈ oj.after, Region.binds md e = true → e.on ≠ i) → oi.apart ops oj = true) →
      i ∈ Region.ready md ops listed → (∀ w, YieldsUp P ops oi v a w) → wpK P md ops Q n f (listed.setIfInBounds i true) (a.put oi.dst v) w → wpK P md ops Q n (f + 1) listed a w := by
  intro f
  induction f with
  | zero =>
    intro listed a w _ hr hy H w' hw'
    refine ⟨fun h => (by rw [h] at hr; cases hr), fun j hj => ?_⟩
    by_cases hji : j = i
    · subst hji
      exact (hy w').op hi fun w2 h2 => ⟨fun _ => h2, H.up (hw'.trans h2)⟩
    · have := ready_mono hj hji
      rw [(H w' hw').1] at this
      cases this
  | succ f ih =>
    intro listed a w hfree hr hy H w' hw'
    refine ⟨fun h => (by rw [h] at hr; cases hr), fun j hj => ?_⟩
    by_cases hji : j = i
    · subst hji
      exact (hy w').op hi fun w2 h2 => ⟨fun _ => h2, H.up (hw'.trans h2)⟩
    · have h1 := (H w' hw').2 j (ready_mono hj hji)
      obtain ⟨hjun, oj, hoj, hall⟩ := mem_ready.1 hj
      have hiun : listed.getD i true = false := (mem_ready.1 hr).1
      have hnot : ∀ e ∈ oj.after, Region.binds md e = true → e.on ≠ i := fun e he hb heq => by
        have h1 := hall e he hb
        rw [heq] at h1
        rcases Nat.lt_or_ge i listed.size with h' | h'
        · simp [h'] at hiun h1; rw [hiun] at h1; cases h1
        · simp [Array.getElem?_eq_none h'] at hiun
      have hap := hfree j oj hoj hji hjun hnot
      obtain ⟨g1, g2, g3⟩ := Oper.apart_spec hap
      have h2 := wpOp_put' hoj hap (fun cs b => hsel j oj cs b hoj) hQ (fun a' => ∀ w, YieldsUp P ops oi v a' w) (fun a' u hy' w => (hy' w).same (execOp_put oi (fun cs b => hsel i oi cs b hi) a' oj.dst u g3) (wanted_put oi a' oj.dst u g3)) (fun a' d hy' w => (hy' w).same rfl rfl) hy h1
      have hfree' : ∀ k ok, ops[k]? = some ok → k ≠ i → (listed.setIfInBounds j true).getD k true = false →
          (∀ e ∈ ok.after, Region.binds md e = true → e.on ≠ i) → oi.apart ops ok = true := fun k ok hk hki hun hno => by
        refine hfree k ok hk hki ?_ hno
        by_cases hjk : j = k
        · subst hjk; exact hjun
        · rw [getD_set_ne true hjk] at hun; exact hun
      refine wpOp_mono (fun a' w2 h3 => ⟨h3.2.1, ih (listed.setIfInBounds j true) a' w2 hfree' (ready_mono hr (Ne.symm hji)) h3.1 ?_⟩) h2
      rw [Array.setIfInBounds_comm _ _ hji]
      exact h3.2.2

/-- What stands behind a panic does not ask for the slots. -/
def PanicBlind (Q : Exit → Act → World → Prop) : Prop := ∀ c (a a' : Act) w, a'.defers = a.defers → Q (.panic c) a' w → Q (.panic c) a w
theorem PanicBlind.put (h : PanicBlind Q) (a : Act) (d : Option Tmp) (v : Value) : ∀ c (a0 : Act) w, Q (.panic c) (a0.put d v) w → Q (.panic c) a0 w := fun c a0 w hq => h c a0 _ w (by cases d <;> rfl) hq

/-- Take number i first. -/
theorem wpK_take {i : Nat} {oi : Oper} {v : Value} {f : Nat} {listed : Array Bool} {a : Act} {w : World} (l' : Array Bool) (hi : ops[i]? = some oi) (hc : takeB md ops n i listed l' = true)
    (hQ : PanicBlind Q) (hy : YieldsUp P ops oi v a w) (h : wpK P md ops Q n f l' (a.put oi.dst v) w) : wpK P md ops Q n (f + 1) listed a w := by
  unfold takeB at hc
  simp only [Bool.and_eq_true, beq_iff_eq] at hc
  obtain ⟨hs, ht, hf, hr, rfl⟩ := hc
  refine wpK_take' hi (Region.noSelect_spec hs) (hQ.put a oi.dst v) (fun j oj hj hnj hji => ?_) f listed a w (Region.free_spec hi hf) (by simpa using hr) hy h
  have h1 := List.all_eq_true.1 ht j (List.mem_range.2 (Array.getElem?_eq_some_iff.1 hj).1)
  rw [hj] at h1
  simp only [Bool.or_eq_true, decide_eq_true_eq, beq_iff_eq] at h1
  have h2 := h1.resolve_left (by omega)
  obtain ⟨e, he, h5⟩ := Array.any_eq_true'.1 h2
  simp only [Bool.and_eq_true, beq_iff_eq] at h5
  exact ⟨e, he, h5.1, h5.2⟩
/-- .. which yields v whatever the world is. -/
theorem wpK_any {i : Nat} {oi : Oper} {v : Value} {f : Nat} {listed : Array Bool} {a : Act} {w : World} (l' : Array Bool) (hi : ops[i]? = some oi) (hc : anyB md ops i listed l' = true)
    (hQ : PanicBlind Q) (hy : ∀ w, YieldsUp P ops oi v a w) (h : wpK P md ops Q n f l' (a.put oi.dst v) w) : wpK P md ops Q n (f + 1) listed a w := by
  unfold anyB at hc
  simp only [Bool.and_eq_true, beq_iff_eq] at hc
  obtain ⟨hs, hf, hr, rfl⟩ := hc
  exact wpK_any' hi (Region.noSelect_spec hs) (hQ.put a oi.dst v) f listed a w (Region.free_spec hi hf) (by simpa using hr) hy h

/-- Number i alone may come up. -/
theorem wpK_only {i : Nat} {f : Nat} {listed : Array Bool} {a : Act} {w : World} (l' : Array Bool) (hc : (Region.ready md ops listed == [i] && listed.setIfInBounds i true == l') = true)
    (h : ∀ w', WUp w w' → wpOp P ops Q i (fun a'' w'' => (i < n → WUp w' w'') ∧ wpK P md ops Q n f l' a'' w'') a w') : wpK P md ops Q n (f + 1) listed a w := by
  simp only [Bool.and_eq_true, beq_iff_eq] at hc
  obtain ⟨hr, rfl⟩ := hc
  intro w' hw'
  refine ⟨fun h0 => (by rw [hr] at h0; cases h0), fun j hj => ?_⟩
  rw [hr] at hj
  obtain rfl := List.mem_singleton.1 hj
  exact h w' hw'

theorem wpK_done {f : Nat} {listed : Array Bool} {a : Act} {w : World} (hc : (Region.ready md ops listed == []) = true) (h : ∀ w', WUp w w' → Q .normal a w') : wpK P md ops Q n f listed a w := by
  have hr : Region.ready md ops listed = [] := by simpa using hc
  cases f with
  | zero => exact fun w' hw' => ⟨hr, h w' hw'⟩
  | succ f => exact fun w' hw' => ⟨fun _ => h w' hw', fun i hi => by rw [hr] at hi; cases hi⟩

theorem wp_region_K {id : Nat} {a : Act} {w : World} (n : Nat) (m : Nat) (l : Array Bool) (hl : (ops.size == m && Array.replicate m false == l) = true) (hm : P.follows .mixedOrders = true) (hQ : PanicBlind Q) (h : PanicBlind Q → wpK P .any ops Q n m l a { w with drawn := w.drawn + 1 }) : (Code.region id ops true).wp P Q a w :=
  wp_region_any hm (by
    simp only [Bool.and_eq_true, beq_iff_eq] at hl
    obtain ⟨rfl, rfl⟩ := hl
    exact wpK.any _ _ _ _ (h hQ))
end
end Go.Proofs.YtfeniekapmbjjaaDoor

/- Words of this claim's own: the operations of a region that draws its order, one law each. No condition. -/
namespace Go.Proofs.YtfeniekapmbjjaaDoor
open Go.RowKit
set_option linter.unusedSimpArgs false
set_option linter.unusedVariables false

section
variable {w w1 : World} {L : List (Nat × List Value × TypeId)}
theorem Cls.lt (h : Cls w L w1) : ∀ x ∈ L, x.1 < w1.heap.size := fun x hx => (h.blk x hx).lt
theorem Cls.row' (h : Cls w L w1) {g : Nat} (ds : Array Value) (hg : w.heap.size ≤ g) (hn : ∀ x ∈ L, x.1 ≠ g) : Cls w L (w1.setRow g ds) := ⟨below_setRow h.below hg ds, fun x hx => (h.blk x hx).rowOther (hn x hx) ds⟩
theorem Cls.add (h : Cls w L w1) {g : Nat} {cs : List Value} {T : TypeId} (hB : Blk w1 g cs T) : Cls w (L ++ [(g, cs, T)]) w1 := ⟨h.below, fun x hx => by
  rcases List.mem_append.1 hx with hx | hx
  · exact h.blk x hx
  · rw [List.mem_singleton.1 hx]; exact hB⟩
theorem Cls.alloc (h : Cls w L w1) (o : Obj) : Cls w L (w1.alloc o) := h.step ((Below.refl _ _).alloc (Nat.le_refl _) _)
end

section
variable {P : Program} {ops : Array Oper} {C : World → Prop} {Qa : Act → Prop} {rest : List Oper} {oi : Oper} {a : Act} {w : World} {v : Value}

theorem q_extract (N : Option Tmp) (hd : oi.dst = N) (hw : Region.wanted oi (yielded ops a.tmps) = true) (x : Operand) (n : Nat) (ho : oi.op = .extract x n) (vs : Array Value) (hx : a.eval x = .tuple vs) (v : Value) (hv : vs[n]? = some v)
    (k : wpQuiet P ops C Qa rest (a.put N v)) : wpQuiet P ops C Qa (oi :: rest) a := by
  refine q_value N hd hw v (fun w _ => ?_) k
  unfold execOp
  simp [ho, hx, Instr.extract, hv]

theorem y_value (hw : Region.wanted oi (yielded ops a.tmps) = true) (h : ∀ w', WUp w w' → (execOp a.eval oi).run P w' = .ok (.value v) w') : YieldsUp P ops oi v a w := by
  refine .inl ⟨hw, fun w' h' => ?_⟩
  unfold Oper.quietAt
  rw [h w' h']
  exact ⟨rfl, rfl⟩
theorem y_move (hw : Region.wanted oi (yielded ops a.tmps) = true) (x : Operand) (ho : oi.op = .move x) (hv : a.eval x = v) : YieldsUp P ops oi v a w := y_value hw fun w' _ => by unfold execOp; simp [ho, hv]
theorem y_assign (hw : Region.wanted oi (yielded ops a.tmps) = true) (x : Operand) (ho : oi.op = .assign x) (hv : a.eval x = v) : YieldsUp P ops oi v a w := y_value hw fun w' _ => by unfold execOp; simp [ho, hv]
theorem y_extract (hw : Region.wanted oi (yielded ops a.tmps) = true) (x : Operand) (n : Nat) (ho : oi.op = .extract x n) (vs : Array Value) (hx : a.eval x = .tuple vs) (hv : vs[n]? = some v) : YieldsUp P ops oi v a w :=
  y_value hw fun w' _ => by unfold execOp; simp [ho, hx, Instr.extract, hv]
theorem y_load {T : TypeId} {cs : List Value} (hw : Region.wanted oi (yielded ops a.tmps) = true) (ty : TypeId) (x : Operand) (ho : oi.op = .load ty x) (b o : Nat) (hx : a.eval x = .pointer (some ⟨b, o, none⟩))
    (ds : List Value) (d : TypeDesc) (hB : Blk w b cs T) (hd' : (cs.drop o).take ds.length = ds) (hu : P.underlying ty = some d) (hr : d.isRow = true) (hi : (P.info? ty).map (·.size) = some ds.length) : YieldsUp P ops oi (.agg ds.toArray) a w := by
  refine y_value hw fun w' h' => ?_
  unfold execOp
  simp only [ho, hx, Instr.loadAt, Instr.sureAddr, Sem.run_bind, Sem.run_pure, Result.andThen_ok, run_loadVar_mid w' b o ty ds d ((hB.below h' hB.lt).range o hd') hu hr hi]
theorem y_call (hw : Region.wanted oi (yielded ops a.tmps) = true) {f : FuncId} {fn : Func} {as : Array Operand} {ts : Array TypeId} (hf : P.funcs[f]? = some fn) (hname : (fn.name == "runtime.NumGoroutine") = false) (hb : fn.body.isSome = true)
    (args : Array Value) (hop : oi.op = .call { callee := .value (.func f), args := as, argTypes := ts }) (hargs : as.map a.eval = args) (h : ∀ w', WUp w w' → Calls P f args w' fun e w'' => e = .returned v ∧ Below w'.heap.size w' w'') : YieldsUp P ops oi v a w := by
  refine .inl ⟨hw, fun w' h' => ?_⟩
  have he := enters' hf hname hb args w'
  have hrun : (execOp a.eval oi).run P w' = .ok (.enter f args) w' := by
    unfold execOp
    simp [hop, resolve, Deferred.ofValue, invoke, Act.eval, hargs, he]
  unfold Oper.quietAt
  rw [hrun]
  exact ⟨rfl, h w' h'⟩
end

/-- Only at this operation. -/
theorem gate_op {P : Program} {ops : Array Oper} {Q : Exit → Act → World → Prop} {rest : List Oper} {o : Oper} {a : Act} {w : World} (y : Op) (_ : o.op = y) (h : wpList P ops Q (o :: rest) a w) : wpList P ops Q (o :: rest) a w := h

section
variable {P : Program} {ops : Array Oper} {Q : Exit → Act → World → Prop} {K : Act → World → Prop} {oi : Oper} {a : Act} {w : World} {i : Nat}

theorem k_alloc (hi : ops[i]? = some oi) (hw : Region.wanted oi (yielded ops a.tmps) = true) (T : TypeId) (ho : oi.op = .alloc T) (zs : List Value) (hz : (zeroValue T).run P w = .ok (.agg zs.toArray) w)
    (h : K (a.put oi.dst (.pointer (some ⟨w.heap.size, 0, none⟩))) (w.alloc (.cells zs.toArray T))) : wpOp P ops Q i K a w := by
  unfold wpOp
  simp only [hi]
  rw [if_pos hw]
  refine .inl ?_
  unfold Oper.wp execOp
  simp only [ho]
  simp [Instr.alloc, hz, newVar, Value.cells]
  exact h

theorem k_value (hi : ops[i]? = some oi) (hw : Region.wanted oi (yielded ops a.tmps) = true) (v : Value) (hr : (execOp a.eval oi).run P w = .ok (.value v) w) (h : K (a.put oi.dst v) w) : wpOp P ops Q i K a w := by
  unfold wpOp
  simp only [hi]
  rw [if_pos hw]
  refine .inl ?_
  unfold Oper.wp
  rw [hr]
  exact h
theorem k_assign (hi : ops[i]? = some oi) (hw : Region.wanted oi (yielded ops a.tmps) = true) (x : Operand) (ho : oi.op = .assign x) (v : Value) (hv : a.eval x = v) (h : K (a.put oi.dst v) w) : wpOp P ops Q i K a w :=
  k_value hi hw v (by unfold execOp; simp [ho, hv]) h

theorem k_store_all {cs : List Value} {T : TypeId} (hi : ops[i]? = some oi) (hw : Region.wanted oi (yielded ops a.tmps) = true) (ty : TypeId) (x y : Operand) (ho : oi.op = .store ty x y)
    (b : Nat) (vs : List Value) (hx : a.eval x = .pointer (some ⟨b, 0, none⟩)) (hy : a.eval y = .agg vs.toArray) (hB : Blk w b cs T) (hl : vs.length = cs.length)
    (his : (P.info? ty).map (·.size) = some vs.length) (h1 : ∀ v ∈ vs, v.oneCell' = true) (h : K (a.put oi.dst undef) (w.setRow b vs.toArray)) : wpOp P ops Q i K a w := by
  unfold wpOp
  simp only [hi]
  rw [if_pos hw]
  refine .inl (wp_store_mid ty x y ho b 0 vs.toArray hx hy (hB.there 0 _ (by simp; omega)) (by simpa using his) (all_oneCell_toArray h1) ?_)
  rw [show vs.toArray.toList = vs from rfl, setCells_row (P := P) hB (by omega) h1, List.take_zero, List.nil_append, List.drop_eq_nil_iff.2 (by omega), List.append_nil]
  exact h
end
end Go.Proofs.YtfeniekapmbjjaaDoor

/- Words of this claim's own: a region that draws its order, step by step: operations that look at no memory, single cells, two stores in either order. No condition. -/
namespace Go.Proofs.YtfeniekapmbjjaaDoor
open Go.RowKit
set_option linter.unusedSimpArgs false
set_option linter.unusedVariables false

section
variable {P : Program} {ops : Array Oper} {Q : Exit → Act → World → Prop} {md : Region.Mode} {n : Nat}

/-- An operation that looks at no memory is taken first. -/
theorem wpK_auto {i : Nat} {oi : Oper} {f : Nat} {listed : Array Bool} {a : Act} {w : World} (l' : Array Bool) (hi : ops[i]? = some oi) (hc : anyB md ops i listed l' = true) (hQ : PanicBlind Q)
    (h : ∀ K : Act → Prop, (∀ a', wpK P md ops Q n f l' a' w → K a') → if Region.wanted oi (yielded ops a.tmps) then ∃ v, (∀ w, (execOp a.eval oi).run P w = .ok (.value v) w) ∧ K (a.put oi.dst v) else K (a.put oi.dst undef)) : wpK P md ops Q n (f + 1) listed a w := by
  have h1 := h _ (fun _ h => h)
  split at h1
  · rename_i hw
    obtain ⟨v, hv, hk⟩ := h1
    exact wpK_any l' hi hc hQ (fun w => .inl ⟨hw, fun w' _ => by unfold Oper.quietAt; rw [hv w']; exact ⟨rfl, rfl⟩⟩) hk
  · rename_i hw
    exact wpK_any l' hi hc hQ (fun w => .inr ⟨by simpa using hw, rfl⟩) h1

/-- The same, where the value is told. -/
theorem wpK_pure {i : Nat} {oi : Oper} {f : Nat} {listed : Array Bool} {a : Act} {w : World} (l' : Array Bool) (hi : ops[i]? = some oi) (N : Option Tmp) (hN : oi.dst = N) (hc : anyB md ops i listed l' = true) (hQ : PanicBlind Q)
    (hw : Region.wanted oi (yielded ops a.tmps) = true) (v : Value) (hv : ∀ w, (execOp a.eval oi).run P w = .ok (.value v) w) (h : wpK P md ops Q n f l' (a.put N v) w) : wpK P md ops Q n (f + 1) listed a w := by
  subst hN
  exact wpK_any l' hi hc hQ (fun w => .inl ⟨hw, fun w' _ => by unfold Oper.quietAt; rw [hv w']; exact ⟨rfl, rfl⟩⟩) h

/-- Two numbers may come up: both ways. -/
theorem wpK_two {i j : Nat} {f : Nat} {listed : Array Bool} {a : Act} {w : World} (li lj : Array Bool) (hc : (Region.ready md ops listed == [i, j] && (listed.setIfInBounds i true == li && listed.setIfInBounds j true == lj)) = true)
    (h1 : ∀ w', WUp w w' → wpOp P ops Q i (fun a'' w'' => (i < n → WUp w' w'') ∧ wpK P md ops Q n f li a'' w'') a w')
    (h2 : ∀ w', WUp w w' → wpOp P ops Q j (fun a'' w'' => (j < n → WUp w' w'') ∧ wpK P md ops Q n f lj a'' w'') a w') : wpK P md ops Q n (f + 1) listed a w := by
  simp only [Bool.and_eq_true, beq_iff_eq] at hc
  obtain ⟨hr, rfl, rfl⟩ := hc
  intro w' hw'
  refine ⟨fun h0 => (by rw [hr] at h0; cases h0), fun k hk => ?_⟩
  rw [hr] at hk
  rcases List.mem_cons.1 hk with rfl | hk
  · exact h1 w' hw'
  · rw [List.mem_singleton.1 hk]
    exact h2 w' hw'
end

section
variable {P : Program} {ops : Array Oper} {C : World → Prop} {Qa : Act → Prop} {rest : List Oper} {oi : Oper} {a : Act} {w : World} {v : Value}

/-- Only at the operation that fills this slot. -/
theorem q_gate (N : Option Tmp) (_ : oi.dst = N) (h : wpQuiet P ops C Qa (oi :: rest) a) : wpQuiet P ops C Qa (oi :: rest) a := h
/-- An operation that looks at no memory. -/
theorem q_auto (h : ∀ K : Act → Prop, (∀ a', wpQuiet P ops C Qa rest a' → K a') → if Region.wanted oi (yielded ops a.tmps) then ∃ v, (∀ w, (execOp a.eval oi).run P w = .ok (.value v) w) ∧ K (a.put oi.dst v) else K (a.put oi.dst undef)) : wpQuiet P ops C Qa (oi :: rest) a := by
  refine wpQuiet_step fun K hK => ?_
  have h1 := h K hK
  split at h1
  · rename_i hw
    obtain ⟨v, hv, hk⟩ := h1
    rw [if_pos hw]
    exact ⟨v, fun w _ => by unfold Oper.quietAt; rw [hv w]; exact ⟨rfl, rfl⟩, hk⟩
  · rename_i hw
    rw [if_neg hw]
    exact h1

/-- The load of one whole number. -/
theorem run_load_cell {cs : List Value} {T : TypeId} {b o : Nat} {k : IntKind} {z : Int} (ty : TypeId) (hu : P.underlying ty = some (.int k)) (hB : Blk w b cs T) (hv : cs[o]? = some (.int k z)) :
    (Instr.loadAt ty (.pointer (some ⟨b, o, none⟩))).run P w = .ok (.int k z) w := by
  have hc := hB.cell hv
  simp [Instr.loadAt, hc, go_sem, isAgg, run_underlying hu]
theorem q_cell {T : TypeId} {cs : List Value} {k : IntKind} {z : Int} (N : Option Tmp) (hd : oi.dst = N) (hw : Region.wanted oi (yielded ops a.tmps) = true) (ty : TypeId) (x : Operand) (ho : oi.op = .load ty x) (b o : Nat) (hx : a.eval x = .pointer (some ⟨b, o, none⟩))
    (hB : ∀ w, C w → Blk w b cs T) (hv : cs[o]? = some (.int k z)) (hu : P.underlying ty = some (.int k)) (h : wpQuiet P ops C Qa rest (a.put N (.int k z))) : wpQuiet P ops C Qa (oi :: rest) a := by
  refine q_value N hd hw _ (fun w hC => ?_) h
  unfold execOp
  simp only [ho, hx, Sem.run_bind, run_load_cell ty hu (hB w hC) hv, Sem.run_pure, Result.andThen_ok]
theorem y_cell {T : TypeId} {cs : List Value} {k : IntKind} {z : Int} (hw : Region.wanted oi (yielded ops a.tmps) = true) (ty : TypeId) (x : Operand) (ho : oi.op = .load ty x) (b o : Nat) (hx : a.eval x = .pointer (some ⟨b, o, none⟩))
    (hB : Blk w b cs T) (hv : cs[o]? = some (.int k z)) (hu : P.underlying ty = some (.int k)) : YieldsUp P ops oi (.int k z) a w := by
  refine y_value hw fun w' h' => ?_
  unfold execOp
  simp only [ho, hx, Sem.run_bind, run_load_cell ty hu (hB.below h' hB.lt) hv, Sem.run_pure, Result.andThen_ok]
end

/-- An argument boxed. -/
theorem boxed1 (w : World) (cs : List Value) (T : TypeId) : Cls w [(w.heap.size, cs, T)] (w.alloc (.cells cs.toArray T)) := by
  refine ⟨(Below.refl _ _).alloc (Nat.le_refl _) _, fun x hx => ?_⟩
  rw [List.mem_singleton.1 hx]
  exact Blk.new' w cs T
/-- Two arguments boxed, and a result laid. -/
theorem boxed3 (w : World) (cs ds es : List Value) (T U V : TypeId) : Cls w [(w.heap.size, cs, T), (w.heap.size + 1, ds, U), (w.heap.size + 1 + 1, es, V)] (((w.alloc (.cells cs.toArray T)).alloc (.cells ds.toArray U)).alloc (.cells es.toArray V)) := by
  refine ⟨(((Below.refl _ _).alloc (Nat.le_refl _) _).alloc (by simp) _).alloc (by simp; omega) _, fun x hx => ?_⟩
  simp only [List.mem_cons, List.not_mem_nil, or_false] at hx
  rcases hx with rfl | rfl | rfl
  · exact ((Blk.new' w cs T).alloc _).alloc _
  · exact (Blk.newAt (by simp)).alloc _
  · exact Blk.newAt (by simp)
/-- Three arguments boxed, and a result laid. -/
theorem boxed4 (w : World) (cs ds es fs : List Value) (T U V X : TypeId) : Cls w [(w.heap.size, cs, T), (w.heap.size + 1, ds, U), (w.heap.size + 1 + 1, es, V), (w.heap.size + 1 + 1 + 1, fs, X)] ((((w.alloc (.cells cs.toArray T)).alloc (.cells ds.toArray U)).alloc (.cells es.toArray V)).alloc (.cells fs.toArray X)) := by
  refine ⟨((((Below.refl _ _).alloc (Nat.le_refl _) _).alloc (by simp) _).alloc (by simp; omega) _).alloc (by simp; omega) _, fun x hx => ?_⟩
  simp only [List.mem_cons, List.not_mem_nil, or_false] at hx
  rcases hx with rfl | rfl | rfl | rfl
  · exact (((Blk.new' w cs T).alloc _).alloc _).alloc _
  · exact ((Blk.newAt (by simp)).alloc _).alloc _
  · exact (Blk.newAt (by simp)).alloc _
  · exact Blk.newAt (by simp)
end Go.Proofs.YtfeniekapmbjjaaDoor

/- Words of this claim's own: a region that draws its order, step by step: loads of known blocks first, then one operation after another. No condition. -/
namespace Go.Proofs.YtfeniekapmbjjaaDoor
open Go.RowKit Go.Proofs.YtfeniekapmbjjaaDoorW.PrintLast
set_option linter.unusedSimpArgs false
set_option linter.unusedVariables false

section
variable {P : Program} {ops : Array Oper} {Q : Exit → Act → World → Prop} {S : World → Prop} {i : Nat} {oi : Oper} {f : Nat} {l : Array Bool} {a : Act} {w : World}

theorem la_start {id n : Nat} (l : Array Bool) (hm : P.follows .mixedOrders = true) (hn : (ops.size == n && Array.replicate n false == l) = true) (hS : S { w with drawn := w.drawn + 1 })
    (hQ : PanicBlind Q) (h : PanicBlind Q → wpAnyLast P .any ops Q S [] n l a { w with drawn := w.drawn + 1 }) : (Code.region id ops true).wp P Q a w := by
  simp only [Bool.and_eq_true, beq_iff_eq] at hn
  obtain ⟨rfl, rfl⟩ := hn
  exact wp_region_last hm (h hQ)

/-- A value that is the same in every world of the class is taken first. -/
theorem la_take (l' : Array Bool) (N : Option Tmp) (hi : ops[i]? = some oi) (hN : oi.dst = N) (hc : Go.Proofs.YtfeniekapmbjjaaDoorW.PrintLast.takeB .any ops [] l l' i = true) (hQ : PanicBlind Q) (hw : Region.wanted oi (yielded ops a.tmps) = true) (v : Value)
    (hv : ∀ w, S w → (execOp a.eval oi).run P w = .ok (.value v) w) (hS : S w) (h : wpAnyLast P .any ops Q S [] f l' (a.put N v) w) : wpAnyLast P .any ops Q S [] (f + 1) l a w :=
  take_ l' hi hN hc (hQ.put a oi.dst v) (.inl ⟨hw, hv⟩) hS rfl h

theorem la_load {T : TypeId} {cs : List Value} (l' : Array Bool) (N : Option Tmp) (hi : ops[i]? = some oi) (hN : oi.dst = N) (hc : Go.Proofs.YtfeniekapmbjjaaDoorW.PrintLast.takeB .any ops [] l l' i = true) (hQ : PanicBlind Q) (hw : Region.wanted oi (yielded ops a.tmps) = true)
    (ty : TypeId) (x : Operand) (ho : oi.op = .load ty x) (b o : Nat) (hx : a.eval x = .pointer (some ⟨b, o, none⟩)) (ds : List Value) (d : TypeDesc) (hB : ∀ w, S w → Blk w b cs T) (hd' : (cs.drop o).take ds.length = ds) (hu : P.underlying ty = some d) (hr : d.isRow = true)
    (hs : (P.info? ty).map (·.size) = some ds.length) (hS : S w) (h : wpAnyLast P .any ops Q S [] f l' (a.put N (.agg ds.toArray)) w) : wpAnyLast P .any ops Q S [] (f + 1) l a w :=
  la_take l' N hi hN hc hQ hw _ (fun w hC => by
    unfold execOp
    simp only [ho, hx, Instr.loadAt, Instr.sureAddr, Sem.run_bind, Sem.run_pure, Result.andThen_ok, run_loadVar_mid w b o ty ds d ((hB w hC).range o hd') hu hr hs]) hS h

theorem la_one (l' : Array Bool) (N : Option Tmp) (hi : ops[i]? = some oi) (hN : oi.dst = N) (hc : readyB .any ops l l' i = true) (hw : Region.wanted oi (yielded ops a.tmps) = true)
    (h : ∀ K : Act → World → Prop, (∀ a' w', S w' → wpAnyLast P .any ops Q S [] f l' a' w' → K a' w') → Oper.wp P oi a w K Q) : wpAnyLast P .any ops Q S [] (f + 1) l a w :=
  one_ l' hi hN hc (by simp) (fun K hK => by
    rw [if_pos hw]
    exact h K (fun a' w' hS hk => hK a' w' hS (fun _ => hk)))

theorem la_value (l' : Array Bool) (N : Option Tmp) (hi : ops[i]? = some oi) (hN : oi.dst = N) (hc : readyB .any ops l l' i = true) (hw : Region.wanted oi (yielded ops a.tmps) = true) (v : Value) (w' : World)
    (hv : (execOp a.eval oi).run P w = .ok (.value v) w') (hS : S w') (h : wpAnyLast P .any ops Q S [] f l' (a.put N v) w') : wpAnyLast P .any ops Q S [] (f + 1) l a w :=
  la_one l' N hi hN hc hw (fun K hK => by
    unfold Oper.wp
    rw [hv]
    simp only [Oper.upon]
    rw [hN]
    exact hK _ _ hS h)
theorem la_move (l' : Array Bool) (N : Option Tmp) (hi : ops[i]? = some oi) (hN : oi.dst = N) (hc : readyB .any ops l l' i = true) (hw : Region.wanted oi (yielded ops a.tmps) = true) (x : Operand) (ho : oi.op = .move x) (v : Value) (hv : a.eval x = v)
    (hS : S w) (h : wpAnyLast P .any ops Q S [] f l' (a.put N v) w) : wpAnyLast P .any ops Q S [] (f + 1) l a w :=
  la_value l' N hi hN hc hw v w (by unfold execOp; simp [ho, hv]) hS h
theorem la_assign (l' : Array Bool) (N : Option Tmp) (hi : ops[i]? = some oi) (hN : oi.dst = N) (hc : readyB .any ops l l' i = true) (hw : Region.wanted oi (yielded ops a.tmps) = true) (x : Operand) (ho : oi.op = .assign x) (v : Value) (hv : a.eval x = v)
    (hS : S w) (h : wpAnyLast P .any ops Q S [] f l' (a.put N v) w) : wpAnyLast P .any ops Q S [] (f + 1) l a w :=
  la_value l' N hi hN hc hw v w (by unfold execOp; simp [ho, hv]) hS h
/-- An operation that looks at no memory is taken first. -/
theorem la_free (l' : Array Bool) (N : Option Tmp) (hi : ops[i]? = some oi) (hN : oi.dst = N) (hc : Go.Proofs.YtfeniekapmbjjaaDoorW.PrintLast.anyB .any ops l l' i = true) (hQ : PanicBlind Q) (hw : Region.wanted oi (yielded ops a.tmps) = true) (v : Value) (hv : ∀ w, (execOp a.eval oi).run P w = .ok (.value v) w)
    (h : wpAnyLast P .any ops Q S [] f l' (a.put N v) w) : wpAnyLast P .any ops Q S [] (f + 1) l a w :=
  pure_ l' hi hN hc (hQ.put a oi.dst v) (.inl ⟨hw, hv⟩) rfl h
theorem la_fmove (l' : Array Bool) (N : Option Tmp) (hi : ops[i]? = some oi) (hN : oi.dst = N) (hc : Go.Proofs.YtfeniekapmbjjaaDoorW.PrintLast.anyB .any ops l l' i = true) (hQ : PanicBlind Q) (hw : Region.wanted oi (yielded ops a.tmps) = true) (x : Operand) (ho : oi.op = .move x) (v : Value) (hv : a.eval x = v)
    (h : wpAnyLast P .any ops Q S [] f l' (a.put N v) w) : wpAnyLast P .any ops Q S [] (f + 1) l a w :=
  la_free l' N hi hN hc hQ hw v (fun w => by unfold execOp; simp [ho, hv]) h
theorem la_extract (l' : Array Bool) (N : Option Tmp) (hi : ops[i]? = some oi) (hN : oi.dst = N) (hc : Go.Proofs.YtfeniekapmbjjaaDoorW.PrintLast.anyB .any ops l l' i = true) (hQ : PanicBlind Q) (hw : Region.wanted oi (yielded ops a.tmps) = true) (x : Operand) (n : Nat) (ho : oi.op = .extract x n) (vs : Array Value) (hx : a.eval x = .tuple vs) (v : Value) (hv : vs[n]? = some v)
    (h : wpAnyLast P .any ops Q S [] f l' (a.put N v) w) : wpAnyLast P .any ops Q S [] (f + 1) l a w :=
  la_free l' N hi hN hc hQ hw v (fun w => by unfold execOp; simp [ho, hx, Instr.extract, hv]) h
theorem la_call (l' : Array Bool) (N : Option Tmp) (hi : ops[i]? = some oi) (hN : oi.dst = N) (hc : readyB .any ops l l' i = true) (hw : Region.wanted oi (yielded ops a.tmps) = true) {g : FuncId} {fn : Func} {as : Array Operand} {ts : Array TypeId} (hf : P.funcs[g]? = some fn) (hname : (fn.name == "runtime.NumGoroutine") = false) (hb : fn.body.isSome = true)
    (args : Array Value) (hop : oi.op = .call { callee := .value (.func g), args := as, argTypes := ts }) (hargs : as.map a.eval = args)
    (h : Calls P g args w fun e w' => ∃ v, e = .returned v ∧ S w' ∧ wpAnyLast P .any ops Q S [] f l' (a.put N v) w') : wpAnyLast P .any ops Q S [] (f + 1) l a w := by
  have he := enters' hf hname hb args w
  have hrun : (execOp a.eval oi).run P w = .ok (.enter g args) w := by
    unfold execOp
    simp [hop, resolve, Deferred.ofValue, invoke, Act.eval, hargs, he]
  refine la_one l' N hi hN hc hw (fun K hK => ?_)
  unfold Oper.wp
  rw [hrun]
  simp only [Oper.upon]
  exact h.mono fun e w' ⟨v, he, hS, hk⟩ => by subst he; rw [hN]; exact hK _ _ hS hk
theorem la_alloc (l' : Array Bool) (N : Option Tmp) (hi : ops[i]? = some oi) (hN : oi.dst = N) (hc : readyB .any ops l l' i = true) (hw : Region.wanted oi (yielded ops a.tmps) = true) (T : TypeId) (ho : oi.op = .alloc T) (zs : List Value) (hz : (zeroValue T).run P w = .ok (.agg zs.toArray) w)
    (hS : S (w.alloc (.cells zs.toArray T))) (h : wpAnyLast P .any ops Q S [] f l' (a.put N (.pointer (some ⟨w.heap.size, 0, none⟩))) (w.alloc (.cells zs.toArray T))) : wpAnyLast P .any ops Q S [] (f + 1) l a w := by
  refine la_one l' N hi hN hc hw (fun K hK => ?_)
  unfold Oper.wp execOp
  simp only [ho]
  simp [Instr.alloc, hz, newVar, Value.cells]
  have hk := hK _ _ hS h
  rw [← hN] at hk
  exact hk
theorem la_store {cs : List Value} {T : TypeId} (l' : Array Bool) (N : Option Tmp) (hi : ops[i]? = some oi) (hN : oi.dst = N) (hc : readyB .any ops l l' i = true) (hw : Region.wanted oi (yielded ops a.tmps) = true) (ty : TypeId) (x y : Operand) (ho : oi.op = .store ty x y)
    (b : Nat) (vs : List Value) (hx : a.eval x = .pointer (some ⟨b, 0, none⟩)) (hy : a.eval y = .agg vs.toArray) (hB : Blk w b cs T) (hl : vs.length = cs.length)
    (his : (P.info? ty).map (·.size) = some vs.length) (h1 : ∀ v ∈ vs, v.oneCell' = true) (hS : S (w.setRow b vs.toArray)) (h : wpAnyLast P .any ops Q S [] f l' (a.put N undef) (w.setRow b vs.toArray)) : wpAnyLast P .any ops Q S [] (f + 1) l a w := by
  refine la_one l' N hi hN hc hw (fun K hK => ?_)
  refine wp_store_mid ty x y ho b 0 vs.toArray hx hy (hB.there 0 _ (by simp; omega)) (by simpa using his) (all_oneCell_toArray h1) ?_
  rw [show vs.toArray.toList = vs from rfl, setCells_row (P := P) hB (by omega) h1, List.take_zero, List.nil_append, List.drop_eq_nil_iff.2 (by omega), List.append_nil, hN]
  exact hK _ _ hS h
theorem la_cell {T : TypeId} {cs : List Value} {k : IntKind} {z : Int} (l' : Array Bool) (N : Option Tmp) (hi : ops[i]? = some oi) (hN : oi.dst = N) (hc : Go.Proofs.YtfeniekapmbjjaaDoorW.PrintLast.takeB .any ops [] l l' i = true) (hQ : PanicBlind Q) (hw : Region.wanted oi (yielded ops a.tmps) = true)
    (ty : TypeId) (x : Operand) (ho : oi.op = .load ty x) (b o : Nat) (hx : a.eval x = .pointer (some ⟨b, o, none⟩)) (hB : ∀ w, S w → Blk w b cs T) (hv : cs[o]? = some (.int k z)) (hu : P.underlying ty = some (.int k)) (hS : S w)
    (h : wpAnyLast P .any ops Q S [] f l' (a.put N (.int k z)) w) : wpAnyLast P .any ops Q S [] (f + 1) l a w :=
  la_take l' N hi hN hc hQ hw _ (fun w hC => by
    unfold execOp
    simp only [ho, hx, Sem.run_bind, run_load_cell ty hu (hB w hC) hv, Sem.run_pure, Result.andThen_ok]) hS h
/-- An operation that looks at no memory is taken first; its value is reckoned. -/
theorem la_auto (l' : Array Bool) (hi : ops[i]? = some oi) (hc : Go.Proofs.YtfeniekapmbjjaaDoorW.PrintLast.anyB .any ops l l' i = true) (hQ : PanicBlind Q)
    (h : ∀ K : Act → Prop, (∀ a', wpAnyLast P .any ops Q S [] f l' a' w → K a') → if Region.wanted oi (yielded ops a.tmps) then ∃ v, (∀ w, (execOp a.eval oi).run P w = .ok (.value v) w) ∧ K (a.put oi.dst v) else K (a.put oi.dst undef)) : wpAnyLast P .any ops Q S [] (f + 1) l a w := by
  have h1 := h _ (fun _ h => h)
  split at h1
  · rename_i hw
    obtain ⟨v, hv, hk⟩ := h1
    exact pure_ l' hi rfl hc (hQ.put a oi.dst v) (.inl ⟨hw, hv⟩) rfl hk
  · rename_i hw
    exact pure_ l' hi rfl hc (hQ.put a oi.dst undef) (.inr ⟨by simpa using hw, rfl⟩) rfl h1
theorem la_done (hc : (Region.ready .any ops l == []) = true) (h : Q .normal a w) : wpAnyLast P .any ops Q S [] f l a w := done_ hc h
end
end Go.Proofs.YtfeniekapmbjjaaDoor
