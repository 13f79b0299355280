/- Words of this claim's own: blocks that are known whole. No condition. -/
import Derived.WalkKit
import Derived.Deep.MidRow
import Derived.Deep.WholeRow
import Derived.Deep.Draws
import Derived.Deep.LoopGhost
import Derived.Deep.QuietTactic
import Derived.BigQuiet
import Derived.Deep.DeepCutAuto
import Derived.Deep.CutBlock
import Derived.Deep.RegionHeld3
import Derived.Lib.Hide
import Derived.KernelRfl
namespace Go.Proofs.Ytlhiaofanejcoaa
open Go.RowKit
set_option linter.unusedSimpArgs false
set_option linter.unusedVariables false

/-- Block g holds these cells, all of them, and none is frozen. -/
def Blk (w : World) (g : Nat) (cs : List Value) (T : TypeId) : Prop := w.heap[g]? = some (.cells cs.toArray T (0, 0))

theorem heap_new (w : World) (o : Obj) : (w.alloc o).heap[w.heap.size]? = some o := by
  show (w.heap.push o)[w.heap.size]? = some o
  simp

section
variable {w w' : World} {g k B : Nat} {cs ds : List Value} {T U : TypeId} {v : Value}

theorem Blk.lt (h : Blk w g cs T) : g < w.heap.size := by
  rcases Nat.lt_or_ge g w.heap.size with h1 | h1
  · exact h1
  · have h2 : w.heap[g]? = some (.cells cs.toArray T (0, 0)) := h
    rw [Array.getElem?_eq_none h1] at h2
    cases h2
theorem Blk.new (w : World) (cs : Array Value) (T : TypeId) : Blk (w.alloc (.cells cs T)) w.heap.size cs.toList T := by
  unfold Blk
  rw [Array.toArray_toList]
  exact heap_new w _
theorem Blk.new' (w : World) (cs : List Value) (T : TypeId) : Blk (w.alloc (.cells cs.toArray T)) w.heap.size cs T := heap_new w _
theorem Blk.newAt {w : World} {g : Nat} {cs : List Value} {T : TypeId} (hg : g = w.heap.size) : Blk (w.alloc (.cells cs.toArray T)) g cs T := by subst hg; exact Blk.new' w cs T
theorem Blk.alloc (h : Blk w g cs T) (o : Obj) : Blk (w.alloc o) g cs T := by
  show (w.heap.push o)[g]? = _
  rw [Array.getElem?_push, if_neg (Nat.ne_of_lt h.lt)]
  exact h
theorem Blk.below (h : Blk w g cs T) (hb : Below B w w') (hg : g < B) : Blk w' g cs T := by
  unfold Blk
  rw [hb.block g hg]
  exact h
theorem Blk.drewN (h : Blk w g cs T) (n : Nat) : Blk (w.drewN n) g cs T := h
theorem Blk.drew (h : Blk w g cs T) : Blk w.drew g cs T := h
theorem Blk.set (h : Blk w g cs T) (i : Nat) (v : Value) : Blk (w.setCell ⟨g, i, none⟩ v) g (cs.set i v) T := by
  unfold Blk
  rw [heap_setCell_same w g i cs.toArray T v h]
  simp
theorem Blk.setOther (h : Blk w g cs T) (hk : g ≠ k) (i : Nat) (v : Value) : Blk (w.setCell ⟨k, i, none⟩ v) g cs T := by
  unfold Blk
  rw [heap_setCell_other w ⟨k, i, none⟩ g v hk]
  exact h
theorem Blk.row (h : Blk w g cs T) (ds : List Value) : Blk (w.setRow g ds.toArray) g ds T := setRow_heap w g cs.toArray ds.toArray T (0, 0) h
theorem Blk.rowOther (h : Blk w g cs T) (hk : g ≠ k) (ds : Array Value) : Blk (w.setRow k ds) g cs T := by
  unfold Blk
  rw [setRow_other w k g ds hk]
  exact h
theorem Blk.cell (h : Blk w g cs T) {i : Nat} (hi : cs[i]? = some v) : w.cell? ⟨g, i, none⟩ = some v := by
  rw [cell_of_row w g i _ _ _ h]
  simpa using hi
theorem Blk.free (h : Blk w g cs T) (i : Nat) : w.frozen? ⟨g, i, none⟩ = false := frozen_of_row w g i _ _ h
theorem Blk.range (h : Blk w g cs T) (o : Nat) {ds : List Value} (hd : (cs.drop o).take ds.length = ds) : w.rangeAt g o ds := fun j v hj => by
  refine h.cell ?_
  have hl := (List.getElem?_eq_some_iff.1 hj).1
  rw [← hd, List.getElem?_take_of_lt hl, List.getElem?_drop] at hj
  exact hj
theorem Blk.there (h : Blk w g cs T) (o n : Nat) (hn : o + n ≤ cs.length) : w.there g o n := fun j hj => by
  refine ⟨?_, h.free _⟩
  rw [h.cell (List.getElem?_eq_getElem (show o + j < cs.length by omega))]
  rfl

theorem below_setCell (h : Below B w w') (hg : B ≤ g) (i : Nat) (v : Value) : Below B w (w'.setCell ⟨g, i, none⟩ v) := h.setCell hg _
theorem below_setRow (h : Below B w w') (hg : B ≤ g) (ds : Array Value) : Below B w (w'.setRow g ds) :=
  ⟨h.os, h.tape, h.output, by simpa using h.size, fun i hi => (setRow_other w' g i ds (by omega)).trans (h.block i hi)⟩
theorem below_drewN (h : Below B w w') (n : Nat) : Below B w (w'.drewN n) := ⟨h.os, h.tape, h.output, h.size, h.block⟩

/-- Cells from o on are stored: the block, whole. -/
theorem setCells_row {P : Program} {o : Nat} {vs : List Value} (h : Blk w g cs T) (hl : o + vs.length ≤ cs.length) (h1 : ∀ v ∈ vs, v.oneCell' = true) :
    w.setCells g o vs = w.setRow g (cs.take o ++ vs ++ cs.drop (o + vs.length)).toArray := by
  have a := run_storeCells_at (P := P) g o T vs 0 cs.toArray w h (by simpa using hl) h1
  have b := run_storeCells_cells (P := P) g o vs 0 w (fun j hj => by simpa using (h.there o vs.length hl j hj).1) (fun j hj => by simpa using (h.there o vs.length hl j hj).2) h1
  rw [a] at b
  simp only [Nat.add_zero] at b
  injection b with _ b
  exact b.symm

/-- A load of many cells out of a block. -/
theorem wpList_load_blk {P : Program} {ops : Array Oper} {rest : List Oper} {op : Oper} {a : Act} {Q : Exit → Act → World → Prop} (hgd : op.guard = none) (ty : TypeId) (x : Operand) (ho : op.op = .load ty x)
    (b o : Nat) (hx : a.eval x = .pointer (some ⟨b, o, none⟩)) (ds : List Value) (d : TypeDesc) (hB : Blk w b cs T) (hd' : (cs.drop o).take ds.length = ds)
    (hu : P.underlying ty = some d) (hd : d.isRow = true) (hi : (P.info? ty).map (·.size) = some ds.length)
    (h : wpList P ops Q rest (a.put op.dst (.agg ds.toArray)) w) : wpList P ops Q (op :: rest) a w :=
  wpList_load_mid hgd ty x ho b o hx ds d (hB.range o hd') hu hd hi h

/-- A store of many cells into a block. -/
theorem wpList_store_blk {P : Program} {ops : Array Oper} {rest : List Oper} {op : Oper} {a : Act} {Q : Exit → Act → World → Prop} (hgd : op.guard = none) (ty : TypeId) (x y : Operand) (ho : op.op = .store ty x y)
    (b o : Nat) (vs : List Value) (hx : a.eval x = .pointer (some ⟨b, o, none⟩)) (hy : a.eval y = .agg vs.toArray) (hB : Blk w b cs T) (hl : o + vs.length ≤ cs.length)
    (hi : (P.info? ty).map (·.size) = some vs.length) (h1 : ∀ v ∈ vs, v.oneCell' = true)
    (h : wpList P ops Q rest (a.put op.dst undef) (w.setRow b (cs.take o ++ vs ++ cs.drop (o + vs.length)).toArray)) : wpList P ops Q (op :: rest) a w := by
  refine wpList_store_mid hgd ty x y ho b o vs.toArray hx hy (hB.there o _ (by simpa using hl)) (by simpa using hi) (all_oneCell_toArray h1) ?_
  rw [show vs.toArray.toList = vs from rfl, setCells_row (P := P) hB hl h1]
  exact h
end

/-- A guard that wants it is taken off. -/
theorem wpList_guard {P : Program} {ops : Array Oper} {rest : List Oper} {o : Oper} {a : Act} {w : World} {Q : Exit → Act → World → Prop} (hw : Region.wanted o (yielded ops a.tmps) = true)
    (h : wpList P ops Q ({ o with guard := none } :: rest) a w) : wpList P ops Q (o :: rest) a w := by
  have h1 : Region.wanted { o with guard := none } (yielded ops a.tmps) = true := rfl
  unfold wpList at h ⊢
  rw [if_pos h1] at h
  rw [if_pos hw]
  exact h

/-- A store of a whole block. -/
theorem wpList_store_all {P : Program} {ops : Array Oper} {rest : List Oper} {op : Oper} {a : Act} {w : World} {Q : Exit → Act → World → Prop} {cs : List Value} {T : TypeId} (hgd : op.guard = none) (ty : TypeId) (x y : Operand) (ho : op.op = .store ty x y)
    (b : Nat) (vs : List Value) (hx : a.eval x = .pointer (some ⟨b, 0, none⟩)) (hy : a.eval y = .agg vs.toArray) (hB : Blk w b cs T) (hl : vs.length = cs.length)
    (hi : (P.info? ty).map (·.size) = some vs.length) (h1 : ∀ v ∈ vs, v.oneCell' = true)
    (h : wpList P ops Q rest (a.put op.dst undef) (w.setRow b vs.toArray)) : wpList P ops Q (op :: rest) a w := by
  refine wpList_store_blk hgd ty x y ho b 0 vs hx hy hB (by omega) hi h1 ?_
  rw [List.take_zero, List.nil_append, List.drop_eq_nil_iff.2 (by omega), List.append_nil]
  exact h

/-- A body that ends with a result that lies in a block. -/
theorem post_blk {P : Program} {fn : Func} {R : Ending → World → Prop} {a : Act} {w : World} {p : Tmp} {ty T : TypeId} {g : Nat} {cs : List Value} {d : TypeDesc} (hr : fn.results = #[.cell p ty]) (hd : a.defers = [])
    (hp : a.tmps.getD p undef = .pointer (some ⟨g, 0, none⟩)) (hB : Blk w g cs T) (hu : P.underlying ty = some d) (hd' : d.isRow = true) (hi : (P.info? ty).map (·.size) = some cs.length)
    (h : R (.returned (.agg cs.toArray)) w) : bodyPost P fn R .ret a w :=
  ⟨hd, _, results_cell_row hr a.tmps w g T cs.toArray (0, 0) d hp hB hu (by cases d <;> simp_all [TypeDesc.isRow]) (by simpa using hi), h⟩

/-- The number at a place (a plain word: the walk leaves it alone). -/
def nth (zs : List Int) (i : Nat) : Int := zs.getD i 0

theorem ret_bool {a b : Bool} (h : a = b) : Ending.returned (.bool a) = .returned (.bool b) := by rw [h]
theorem ret_i64 {a b : Int} (h : a = b) : Ending.returned (.int .i64 a) = .returned (.int .i64 b) := by rw [h]
theorem ret_agg {a b : List Value} (h : a = b) : Ending.returned (.agg a.toArray) = .returned (.agg b.toArray) := by rw [h]

theorem one_ints (k : IntKind) (zs : List Int) : ∀ v ∈ zs.map (Value.int k), v.oneCell' = true := by
  intro v hv
  obtain ⟨z, _, rfl⟩ := List.mem_map.1 hv
  rfl

/-! ### Regions that draw their order: loads and calls that keep a class of worlds -/
section
variable {P : Program} {ops : Array Oper} {C : World → Prop} {Qa : Act → Prop} {rest : List Oper} {oi : Oper} {a : Act}

theorem wp_region_class {id : Nat} {Q : Exit → Act → World → Prop} {a : Act} {w : World} {l : List Oper} (C : World → Prop) (hm : P.follows .mixedOrders = true) (hB : Region.lexB .any l.toArray = true)
    (hC : C { w with drawn := w.drawn + 1 }) (h : wpQuiet P l.toArray C (fun a' => ∀ w', C w' → Q .normal a' w') l a) : (Code.region id l.toArray true).wp P Q a w :=
  wp_region_quiet (C := C) hm hB hC (by simpa using h)

theorem q_value (N : Option Tmp) (hd : oi.dst = N) (hw : Region.wanted oi (yielded ops a.tmps) = true) (v : Value) (h : ∀ w, C w → (execOp a.eval oi).run P w = .ok (.value v) w) (k : wpQuiet P ops C Qa rest (a.put N v)) : wpQuiet P ops C Qa (oi :: rest) a := by
  refine wpQuiet_step fun K hK => ?_
  rw [if_pos hw]
  refine ⟨v, fun w hC => ?_, ?_⟩
  · unfold Oper.quietAt
    rw [h w hC]
    exact ⟨rfl, rfl⟩
  · subst hd
    exact hK _ k

theorem q_move (N : Option Tmp) (hd : oi.dst = N) (hw : Region.wanted oi (yielded ops a.tmps) = true) (x : Operand) (ho : oi.op = .move x) (v : Value) (hv : a.eval x = v) (k : wpQuiet P ops C Qa rest (a.put N v)) : wpQuiet P ops C Qa (oi :: rest) a := by
  refine q_value N hd hw v (fun w _ => ?_) k
  unfold execOp
  simp [ho, hv]

theorem q_assign (N : Option Tmp) (hd : oi.dst = N) (hw : Region.wanted oi (yielded ops a.tmps) = true) (x : Operand) (ho : oi.op = .assign x) (v : Value) (hv : a.eval x = v) (k : wpQuiet P ops C Qa rest (a.put N v)) : wpQuiet P ops C Qa (oi :: rest) a := by
  refine q_value N hd hw v (fun w _ => ?_) k
  unfold execOp
  simp [ho, hv]

theorem q_load {T : TypeId} {cs : List Value} (N : Option Tmp) (hd : oi.dst = N) (hw : Region.wanted oi (yielded ops a.tmps) = true) (ty : TypeId) (x : Operand) (ho : oi.op = .load ty x) (b o : Nat) (hx : a.eval x = .pointer (some ⟨b, o, none⟩))
    (ds : List Value) (d : TypeDesc) (hB : ∀ w, C w → Blk w b cs T) (hd' : (cs.drop o).take ds.length = ds) (hu : P.underlying ty = some d) (hr : d.isRow = true) (hi : (P.info? ty).map (·.size) = some ds.length)
    (k : wpQuiet P ops C Qa rest (a.put N (.agg ds.toArray))) : wpQuiet P ops C Qa (oi :: rest) a := by
  refine q_value N hd hw _ (fun w hC => ?_) k
  unfold execOp
  simp only [ho, hx, Instr.loadAt, Instr.sureAddr, Sem.run_bind, Sem.run_pure, Result.andThen_ok, run_loadVar_mid w b o ty ds d ((hB w hC).range o hd') hu hr hi]

theorem enters' {f : FuncId} {fn : Func} (hf : P.funcs[f]? = some fn) (hname : (fn.name == "runtime.NumGoroutine") = false) (hb : fn.body.isSome = true) (args : Array Value) (w : World) : (callFunc f args).run P w = .ok (.enter f args) w := by
  have h1 : fn.name ≠ "runtime.NumGoroutine" := by simpa using hname
  obtain ⟨c, hc⟩ := Option.isSome_iff_exists.1 hb
  simp [callFunc, hf, h1, hc]

theorem q_call (N : Option Tmp) (hd : oi.dst = N) (hw : Region.wanted oi (yielded ops a.tmps) = true) {f : FuncId} {fn : Func} {as : Array Operand} {ts : Array TypeId} (hf : P.funcs[f]? = some fn) (hname : (fn.name == "runtime.NumGoroutine") = false) (hb : fn.body.isSome = true)
    (args : Array Value) (hop : oi.op = .call { callee := .value (.func f), args := as, argTypes := ts }) (hargs : as.map a.eval = args) (v : Value) (h : ∀ w, C w → Calls P f args w fun e w' => e = .returned v ∧ C w')
    (k : wpQuiet P ops C Qa rest (a.put N v)) : wpQuiet P ops C Qa (oi :: rest) a := by
  refine wpQuiet_step fun K hK => ?_
  rw [if_pos hw]
  refine ⟨v, fun w hC => ?_, ?_⟩
  · have he := enters' hf hname hb args w
    have hrun : (execOp a.eval oi).run P w = .ok (.enter f args) w := by
      unfold execOp
      simp [hop, resolve, Deferred.ofValue, invoke, Act.eval, hargs, he]
    unfold Oper.quietAt
    rw [hrun]
    exact ⟨rfl, h w hC⟩
  · subst hd
    exact hK _ k
end

/-- The worlds that are as w below its heap's end, and hold these blocks. -/
structure Cls (w : World) (L : List (Nat × List Value × TypeId)) (w' : World) : Prop where
  below : Below w.heap.size w w'
  blk : ∀ x ∈ L, Blk w' x.1 x.2.1 x.2.2
theorem Cls.step {w w1 w2 : World} {L : List (Nat × List Value × TypeId)} (h : Cls w L w1) (hb : Below w1.heap.size w1 w2) : Cls w L w2 :=
  ⟨h.below.trans (hb.mono h.below.size), fun x hx => (h.blk x hx).below hb (h.blk x hx).lt⟩
theorem Cls.drew {w w1 : World} {L : List (Nat × List Value × TypeId)} (h : Cls w L w1) : Cls w L { w1 with drawn := w1.drawn + 1 } :=
  ⟨⟨h.below.os, h.below.tape, h.below.output, h.below.size, h.below.block⟩, fun x hx => h.blk x hx⟩
theorem Cls.calls {P : Program} {f : FuncId} {args : Array Value} {w w1 : World} {v : Value} {L : List (Nat × List Value × TypeId)} (h : Cls w L w1) (hc : Calls P f args w1 fun e w' => e = .returned v ∧ Below w1.heap.size w1 w') :
    Calls P f args w1 fun e w' => e = .returned v ∧ Cls w L w' := hc.mono fun _ _ ⟨he, hb⟩ => ⟨he, h.step hb⟩
theorem Cls.calls' {P : Program} {f : FuncId} {args : Array Value} {w w1 : World} {v : Value} {L : List (Nat × List Value × TypeId)} (h : Cls w L w1) (hc : Calls P f args w1 fun e w' => e = .returned v ∧ w1 = w') :
    Calls P f args w1 fun e w' => e = .returned v ∧ Cls w L w' := hc.mono fun _ _ ⟨he, hb⟩ => ⟨he, hb ▸ h⟩

/-- All numbers below n. -/
def allB (n : Nat) (p : Nat → Bool) : Bool := (List.range n).all p
theorem allB_yes {n : Nat} {p : Nat → Bool} (h : ∀ i, i < n → p i = true) : allB n p = true := by
  unfold allB
  rw [List.all_eq_true]
  exact fun i hi => h i (List.mem_range.1 hi)
theorem allB_no {n : Nat} {p : Nat → Bool} (i : Nat) (hi : i < n) (h : p i = false) : allB n p = false := by
  rw [Bool.eq_false_iff]
  intro e
  have := List.all_eq_true.1 e i (List.mem_range.2 hi)
  rw [h] at this
  cases this
end Go.Proofs.Ytlhiaofanejcoaa
