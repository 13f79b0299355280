/- Words of this claim's own: the operations of a region that draws its order, one law each. No condition. -/
import Derived.Test.YtlhiaofanejcoaaG
namespace Go.Proofs.Ytlhiaofanejcoaa
open Go.RowKit
set_option linter.unusedSimpArgs false
set_option linter.unusedVariables false

section
variable {w w1 : World} {L : List (Nat × List Value × TypeId)}
theorem Cls.lt (h : Cls w L w1) : ∀ x ∈ L, x.1 < w1.heap.size := fun x hx => (h.blk x hx).lt
theorem Cls.row' (h : Cls w L w1) {g : Nat} (ds : Array Value) (hg : w.heap.size ≤ g) (hn : ∀ x ∈ L, x.1 ≠ g) : Cls w L (w1.setRow g ds) := ⟨below_setRow h.below hg ds, fun x hx => (h.blk x hx).rowOther (hn x hx) ds⟩
theorem Cls.add (h : Cls w L w1) {g : Nat} {cs : List Value} {T : TypeId} (hB : Blk w1 g cs T) : Cls w (L ++ [(g, cs, T)]) w1 := ⟨h.below, fun x hx => by
  rcases List.mem_append.1 hx with hx | hx
  · exact h.blk x hx
  · rw [List.mem_singleton.1 hx]; exact hB⟩
theorem Cls.alloc (h : Cls w L w1) (o : Obj) : Cls w L (w1.alloc o) := h.step ((Below.refl _ _).alloc (Nat.le_refl _) _)
end

section
variable {P : Program} {ops : Array Oper} {C : World → Prop} {Qa : Act → Prop} {rest : List Oper} {oi : Oper} {a : Act} {w : World} {v : Value}

theorem q_extract (N : Option Tmp) (hd : oi.dst = N) (hw : Region.wanted oi (yielded ops a.tmps) = true) (x : Operand) (n : Nat) (ho : oi.op = .extract x n) (vs : Array Value) (hx : a.eval x = .tuple vs) (v : Value) (hv : vs[n]? = some v)
    (k : wpQuiet P ops C Qa rest (a.put N v)) : wpQuiet P ops C Qa (oi :: rest) a := by
  refine q_value N hd hw v (fun w _ => ?_) k
  unfold execOp
  simp [ho, hx, Instr.extract, hv]

theorem y_value (hw : Region.wanted oi (yielded ops a.tmps) = true) (h : ∀ w', WUp w w' → (execOp a.eval oi).run P w' = .ok (.value v) w') : YieldsUp P ops oi v a w := by
  refine .inl ⟨hw, fun w' h' => ?_⟩
  unfold Oper.quietAt
  rw [h w' h']
  exact ⟨rfl, rfl⟩
theorem y_move (hw : Region.wanted oi (yielded ops a.tmps) = true) (x : Operand) (ho : oi.op = .move x) (hv : a.eval x = v) : YieldsUp P ops oi v a w := y_value hw fun w' _ => by unfold execOp; simp [ho, hv]
theorem y_assign (hw : Region.wanted oi (yielded ops a.tmps) = true) (x : Operand) (ho : oi.op = .assign x) (hv : a.eval x = v) : YieldsUp P ops oi v a w := y_value hw fun w' _ => by unfold execOp; simp [ho, hv]
theorem y_extract (hw : Region.wanted oi (yielded ops a.tmps) = true) (x : Operand) (n : Nat) (ho : oi.op = .extract x n) (vs : Array Value) (hx : a.eval x = .tuple vs) (hv : vs[n]? = some v) : YieldsUp P ops oi v a w :=
  y_value hw fun w' _ => by unfold execOp; simp [ho, hx, Instr.extract, hv]
theorem y_load {T : TypeId} {cs : List Value} (hw : Region.wanted oi (yielded ops a.tmps) = true) (ty : TypeId) (x : Operand) (ho : oi.op = .load ty x) (b o : Nat) (hx : a.eval x = .pointer (some ⟨b, o, none⟩))
    (ds : List Value) (d : TypeDesc) (hB : Blk w b cs T) (hd' : (cs.drop o).take ds.length = ds) (hu : P.underlying ty = some d) (hr : d.isRow = true) (hi : (P.info? ty).map (·.size) = some ds.length) : YieldsUp P ops oi (.agg ds.toArray) a w := by
  refine y_value hw fun w' h' => ?_
  unfold execOp
  simp only [ho, hx, Instr.loadAt, Instr.sureAddr, Sem.run_bind, Sem.run_pure, Result.andThen_ok, run_loadVar_mid w' b o ty ds d ((hB.below h' hB.lt).range o hd') hu hr hi]
theorem y_call (hw : Region.wanted oi (yielded ops a.tmps) = true) {f : FuncId} {fn : Func} {as : Array Operand} {ts : Array TypeId} (hf : P.funcs[f]? = some fn) (hname : (fn.name == "runtime.NumGoroutine") = false) (hb : fn.body.isSome = true)
    (args : Array Value) (hop : oi.op = .call { callee := .value (.func f), args := as, argTypes := ts }) (hargs : as.map a.eval = args) (h : ∀ w', WUp w w' → Calls P f args w' fun e w'' => e = .returned v ∧ Below w'.heap.size w' w'') : YieldsUp P ops oi v a w := by
  refine .inl ⟨hw, fun w' h' => ?_⟩
  have he := enters' hf hname hb args w'
  have hrun : (execOp a.eval oi).run P w' = .ok (.enter f args) w' := by
    unfold execOp
    simp [hop, resolve, Deferred.ofValue, invoke, Act.eval, hargs, he]
  unfold Oper.quietAt
  rw [hrun]
  exact ⟨rfl, h w' h'⟩
end

/-- Only at this operation. -/
theorem gate_op {P : Program} {ops : Array Oper} {Q : Exit → Act → World → Prop} {rest : List Oper} {o : Oper} {a : Act} {w : World} (y : Op) (_ : o.op = y) (h : wpList P ops Q (o :: rest) a w) : wpList P ops Q (o :: rest) a w := h

section
variable {P : Program} {ops : Array Oper} {Q : Exit → Act → World → Prop} {K : Act → World → Prop} {oi : Oper} {a : Act} {w : World} {i : Nat}

theorem k_alloc (hi : ops[i]? = some oi) (hw : Region.wanted oi (yielded ops a.tmps) = true) (T : TypeId) (ho : oi.op = .alloc T) (zs : List Value) (hz : (zeroValue T).run P w = .ok (.agg zs.toArray) w)
    (h : K (a.put oi.dst (.pointer (some ⟨w.heap.size, 0, none⟩))) (w.alloc (.cells zs.toArray T))) : wpOp P ops Q i K a w := by
  unfold wpOp
  simp only [hi]
  rw [if_pos hw]
  refine .inl ?_
  unfold Oper.wp execOp
  simp only [ho]
  simp [Instr.alloc, hz, newVar, Value.cells]
  exact h

theorem k_value (hi : ops[i]? = some oi) (hw : Region.wanted oi (yielded ops a.tmps) = true) (v : Value) (hr : (execOp a.eval oi).run P w = .ok (.value v) w) (h : K (a.put oi.dst v) w) : wpOp P ops Q i K a w := by
  unfold wpOp
  simp only [hi]
  rw [if_pos hw]
  refine .inl ?_
  unfold Oper.wp
  rw [hr]
  exact h
theorem k_assign (hi : ops[i]? = some oi) (hw : Region.wanted oi (yielded ops a.tmps) = true) (x : Operand) (ho : oi.op = .assign x) (v : Value) (hv : a.eval x = v) (h : K (a.put oi.dst v) w) : wpOp P ops Q i K a w :=
  k_value hi hw v (by unfold execOp; simp [ho, hv]) h

theorem k_store_all {cs : List Value} {T : TypeId} (hi : ops[i]? = some oi) (hw : Region.wanted oi (yielded ops a.tmps) = true) (ty : TypeId) (x y : Operand) (ho : oi.op = .store ty x y)
    (b : Nat) (vs : List Value) (hx : a.eval x = .pointer (some ⟨b, 0, none⟩)) (hy : a.eval y = .agg vs.toArray) (hB : Blk w b cs T) (hl : vs.length = cs.length)
    (his : (P.info? ty).map (·.size) = some vs.length) (h1 : ∀ v ∈ vs, v.oneCell' = true) (h : K (a.put oi.dst undef) (w.setRow b vs.toArray)) : wpOp P ops Q i K a w := by
  unfold wpOp
  simp only [hi]
  rw [if_pos hw]
  refine .inl (wp_store_mid ty x y ho b 0 vs.toArray hx hy (hB.there 0 _ (by simp; omega)) (by simpa using his) (all_oneCell_toArray h1) ?_)
  rw [show vs.toArray.toList = vs from rfl, setCells_row (P := P) hB (by omega) h1, List.take_zero, List.nil_append, List.drop_eq_nil_iff.2 (by omega), List.append_nil]
  exact h
end
end Go.Proofs.Ytlhiaofanejcoaa
