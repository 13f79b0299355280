/- Words of this claim's own: a region that draws its order, step by step: loads of known blocks first, then one operation after another. No condition. -/
import Derived.Test.YtlhiaofanejcoaaG2
import Derived.Test.YtlhiaofanejcoaaWLast
namespace Go.Proofs.Ytlhiaofanejcoaa
open Go.RowKit Go.Proofs.YtlhiaofanejcoaaW.PrintLast
set_option linter.unusedSimpArgs false
set_option linter.unusedVariables false

section
variable {P : Program} {ops : Array Oper} {Q : Exit → Act → World → Prop} {S : World → Prop} {i : Nat} {oi : Oper} {f : Nat} {l : Array Bool} {a : Act} {w : World}

theorem la_start {id n : Nat} (l : Array Bool) (hm : P.follows .mixedOrders = true) (hn : (ops.size == n && Array.replicate n false == l) = true) (hS : S { w with drawn := w.drawn + 1 })
    (hQ : PanicBlind Q) (h : PanicBlind Q → wpAnyLast P .any ops Q S [] n l a { w with drawn := w.drawn + 1 }) : (Code.region id ops true).wp P Q a w := by
  simp only [Bool.and_eq_true, beq_iff_eq] at hn
  obtain ⟨rfl, rfl⟩ := hn
  exact wp_region_last hm (h hQ)

/-- A value that is the same in every world of the class is taken first. -/
theorem la_take (l' : Array Bool) (N : Option Tmp) (hi : ops[i]? = some oi) (hN : oi.dst = N) (hc : Go.Proofs.YtlhiaofanejcoaaW.PrintLast.takeB .any ops [] l l' i = true) (hQ : PanicBlind Q) (hw : Region.wanted oi (yielded ops a.tmps) = true) (v : Value)
    (hv : ∀ w, S w → (execOp a.eval oi).run P w = .ok (.value v) w) (hS : S w) (h : wpAnyLast P .any ops Q S [] f l' (a.put N v) w) : wpAnyLast P .any ops Q S [] (f + 1) l a w :=
  take_ l' hi hN hc (hQ.put a oi.dst v) (.inl ⟨hw, hv⟩) hS rfl h

theorem la_load {T : TypeId} {cs : List Value} (l' : Array Bool) (N : Option Tmp) (hi : ops[i]? = some oi) (hN : oi.dst = N) (hc : Go.Proofs.YtlhiaofanejcoaaW.PrintLast.takeB .any ops [] l l' i = true) (hQ : PanicBlind Q) (hw : Region.wanted oi (yielded ops a.tmps) = true)
    (ty : TypeId) (x : Operand) (ho : oi.op = .load ty x) (b o : Nat) (hx : a.eval x = .pointer (some ⟨b, o, none⟩)) (ds : List Value) (d : TypeDesc) (hB : ∀ w, S w → Blk w b cs T) (hd' : (cs.drop o).take ds.length = ds) (hu : P.underlying ty = some d) (hr : d.isRow = true)
    (hs : (P.info? ty).map (·.size) = some ds.length) (hS : S w) (h : wpAnyLast P .any ops Q S [] f l' (a.put N (.agg ds.toArray)) w) : wpAnyLast P .any ops Q S [] (f + 1) l a w :=
  la_take l' N hi hN hc hQ hw _ (fun w hC => by
    unfold execOp
    simp only [ho, hx, Instr.loadAt, Instr.sureAddr, Sem.run_bind, Sem.run_pure, Result.andThen_ok, run_loadVar_mid w b o ty ds d ((hB w hC).range o hd') hu hr hs]) hS h

theorem la_one (l' : Array Bool) (N : Option Tmp) (hi : ops[i]? = some oi) (hN : oi.dst = N) (hc : readyB .any ops l l' i = true) (hw : Region.wanted oi (yielded ops a.tmps) = true)
    (h : ∀ K : Act → World → Prop, (∀ a' w', S w' → wpAnyLast P .any ops Q S [] f l' a' w' → K a' w') → Oper.wp P oi a w K Q) : wpAnyLast P .any ops Q S [] (f + 1) l a w :=
  one_ l' hi hN hc (by simp) (fun K hK => by
    rw [if_pos hw]
    exact h K (fun a' w' hS hk => hK a' w' hS (fun _ => hk)))

theorem la_value (l' : Array Bool) (N : Option Tmp) (hi : ops[i]? = some oi) (hN : oi.dst = N) (hc : readyB .any ops l l' i = true) (hw : Region.wanted oi (yielded ops a.tmps) = true) (v : Value) (w' : World)
    (hv : (execOp a.eval oi).run P w = .ok (.value v) w') (hS : S w') (h : wpAnyLast P .any ops Q S [] f l' (a.put N v) w') : wpAnyLast P .any ops Q S [] (f + 1) l a w :=
  la_one l' N hi hN hc hw (fun K hK => by
    unfold Oper.wp
    rw [hv]
    simp only [Oper.upon]
    rw [hN]
    exact hK _ _ hS h)
theorem la_move (l' : Array Bool) (N : Option Tmp) (hi : ops[i]? = some oi) (hN : oi.dst = N) (hc : readyB .any ops l l' i = true) (hw : Region.wanted oi (yielded ops a.tmps) = true) (x : Operand) (ho : oi.op = .move x) (v : Value) (hv : a.eval x = v)
    (hS : S w) (h : wpAnyLast P .any ops Q S [] f l' (a.put N v) w) : wpAnyLast P .any ops Q S [] (f + 1) l a w :=
  la_value l' N hi hN hc hw v w (by unfold execOp; simp [ho, hv]) hS h
theorem la_assign (l' : Array Bool) (N : Option Tmp) (hi : ops[i]? = some oi) (hN : oi.dst = N) (hc : readyB .any ops l l' i = true) (hw : Region.wanted oi (yielded ops a.tmps) = true) (x : Operand) (ho : oi.op = .assign x) (v : Value) (hv : a.eval x = v)
    (hS : S w) (h : wpAnyLast P .any ops Q S [] f l' (a.put N v) w) : wpAnyLast P .any ops Q S [] (f + 1) l a w :=
  la_value l' N hi hN hc hw v w (by unfold execOp; simp [ho, hv]) hS h
/-- An operation that looks at no memory is taken first. -/
theorem la_free (l' : Array Bool) (N : Option Tmp) (hi : ops[i]? = some oi) (hN : oi.dst = N) (hc : Go.Proofs.YtlhiaofanejcoaaW.PrintLast.anyB .any ops l l' i = true) (hQ : PanicBlind Q) (hw : Region.wanted oi (yielded ops a.tmps) = true) (v : Value) (hv : ∀ w, (execOp a.eval oi).run P w = .ok (.value v) w)
    (h : wpAnyLast P .any ops Q S [] f l' (a.put N v) w) : wpAnyLast P .any ops Q S [] (f + 1) l a w :=
  pure_ l' hi hN hc (hQ.put a oi.dst v) (.inl ⟨hw, hv⟩) rfl h
theorem la_fmove (l' : Array Bool) (N : Option Tmp) (hi : ops[i]? = some oi) (hN : oi.dst = N) (hc : Go.Proofs.YtlhiaofanejcoaaW.PrintLast.anyB .any ops l l' i = true) (hQ : PanicBlind Q) (hw : Region.wanted oi (yielded ops a.tmps) = true) (x : Operand) (ho : oi.op = .move x) (v : Value) (hv : a.eval x = v)
    (h : wpAnyLast P .any ops Q S [] f l' (a.put N v) w) : wpAnyLast P .any ops Q S [] (f + 1) l a w :=
  la_free l' N hi hN hc hQ hw v (fun w => by unfold execOp; simp [ho, hv]) h
theorem la_extract (l' : Array Bool) (N : Option Tmp) (hi : ops[i]? = some oi) (hN : oi.dst = N) (hc : Go.Proofs.YtlhiaofanejcoaaW.PrintLast.anyB .any ops l l' i = true) (hQ : PanicBlind Q) (hw : Region.wanted oi (yielded ops a.tmps) = true) (x : Operand) (n : Nat) (ho : oi.op = .extract x n) (vs : Array Value) (hx : a.eval x = .tuple vs) (v : Value) (hv : vs[n]? = some v)
    (h : wpAnyLast P .any ops Q S [] f l' (a.put N v) w) : wpAnyLast P .any ops Q S [] (f + 1) l a w :=
  la_free l' N hi hN hc hQ hw v (fun w => by unfold execOp; simp [ho, hx, Instr.extract, hv]) h
theorem la_call (l' : Array Bool) (N : Option Tmp) (hi : ops[i]? = some oi) (hN : oi.dst = N) (hc : readyB .any ops l l' i = true) (hw : Region.wanted oi (yielded ops a.tmps) = true) {g : FuncId} {fn : Func} {as : Array Operand} {ts : Array TypeId} (hf : P.funcs[g]? = some fn) (hname : (fn.name == "runtime.NumGoroutine") = false) (hb : fn.body.isSome = true)
    (args : Array Value) (hop : oi.op = .call { callee := .value (.func g), args := as, argTypes := ts }) (hargs : as.map a.eval = args)
    (h : Calls P g args w fun e w' => ∃ v, e = .returned v ∧ S w' ∧ wpAnyLast P .any ops Q S [] f l' (a.put N v) w') : wpAnyLast P .any ops Q S [] (f + 1) l a w := by
  have he := enters' hf hname hb args w
  have hrun : (execOp a.eval oi).run P w = .ok (.enter g args) w := by
    unfold execOp
    simp [hop, resolve, Deferred.ofValue, invoke, Act.eval, hargs, he]
  refine la_one l' N hi hN hc hw (fun K hK => ?_)
  unfold Oper.wp
  rw [hrun]
  simp only [Oper.upon]
  exact h.mono fun e w' ⟨v, he, hS, hk⟩ => by subst he; rw [hN]; exact hK _ _ hS hk
theorem la_alloc (l' : Array Bool) (N : Option Tmp) (hi : ops[i]? = some oi) (hN : oi.dst = N) (hc : readyB .any ops l l' i = true) (hw : Region.wanted oi (yielded ops a.tmps) = true) (T : TypeId) (ho : oi.op = .alloc T) (zs : List Value) (hz : (zeroValue T).run P w = .ok (.agg zs.toArray) w)
    (hS : S (w.alloc (.cells zs.toArray T))) (h : wpAnyLast P .any ops Q S [] f l' (a.put N (.pointer (some ⟨w.heap.size, 0, none⟩))) (w.alloc (.cells zs.toArray T))) : wpAnyLast P .any ops Q S [] (f + 1) l a w := by
  refine la_one l' N hi hN hc hw (fun K hK => ?_)
  unfold Oper.wp execOp
  simp only [ho]
  simp [Instr.alloc, hz, newVar, Value.cells]
  have hk := hK _ _ hS h
  rw [← hN] at hk
  exact hk
theorem la_store {cs : List Value} {T : TypeId} (l' : Array Bool) (N : Option Tmp) (hi : ops[i]? = some oi) (hN : oi.dst = N) (hc : readyB .any ops l l' i = true) (hw : Region.wanted oi (yielded ops a.tmps) = true) (ty : TypeId) (x y : Operand) (ho : oi.op = .store ty x y)
    (b : Nat) (vs : List Value) (hx : a.eval x = .pointer (some ⟨b, 0, none⟩)) (hy : a.eval y = .agg vs.toArray) (hB : Blk w b cs T) (hl : vs.length = cs.length)
    (his : (P.info? ty).map (·.size) = some vs.length) (h1 : ∀ v ∈ vs, v.oneCell' = true) (hS : S (w.setRow b vs.toArray)) (h : wpAnyLast P .any ops Q S [] f l' (a.put N undef) (w.setRow b vs.toArray)) : wpAnyLast P .any ops Q S [] (f + 1) l a w := by
  refine la_one l' N hi hN hc hw (fun K hK => ?_)
  refine wp_store_mid ty x y ho b 0 vs.toArray hx hy (hB.there 0 _ (by simp; omega)) (by simpa using his) (all_oneCell_toArray h1) ?_
  rw [show vs.toArray.toList = vs from rfl, setCells_row (P := P) hB (by omega) h1, List.take_zero, List.nil_append, List.drop_eq_nil_iff.2 (by omega), List.append_nil, hN]
  exact hK _ _ hS h
theorem la_cell {T : TypeId} {cs : List Value} {k : IntKind} {z : Int} (l' : Array Bool) (N : Option Tmp) (hi : ops[i]? = some oi) (hN : oi.dst = N) (hc : Go.Proofs.YtlhiaofanejcoaaW.PrintLast.takeB .any ops [] l l' i = true) (hQ : PanicBlind Q) (hw : Region.wanted oi (yielded ops a.tmps) = true)
    (ty : TypeId) (x : Operand) (ho : oi.op = .load ty x) (b o : Nat) (hx : a.eval x = .pointer (some ⟨b, o, none⟩)) (hB : ∀ w, S w → Blk w b cs T) (hv : cs[o]? = some (.int k z)) (hu : P.underlying ty = some (.int k)) (hS : S w)
    (h : wpAnyLast P .any ops Q S [] f l' (a.put N (.int k z)) w) : wpAnyLast P .any ops Q S [] (f + 1) l a w :=
  la_take l' N hi hN hc hQ hw _ (fun w hC => by
    unfold execOp
    simp only [ho, hx, Sem.run_bind, run_load_cell ty hu (hB w hC) hv, Sem.run_pure, Result.andThen_ok]) hS h
/-- An operation that looks at no memory is taken first; its value is reckoned. -/
theorem la_auto (l' : Array Bool) (hi : ops[i]? = some oi) (hc : Go.Proofs.YtlhiaofanejcoaaW.PrintLast.anyB .any ops l l' i = true) (hQ : PanicBlind Q)
    (h : ∀ K : Act → Prop, (∀ a', wpAnyLast P .any ops Q S [] f l' a' w → K a') → if Region.wanted oi (yielded ops a.tmps) then ∃ v, (∀ w, (execOp a.eval oi).run P w = .ok (.value v) w) ∧ K (a.put oi.dst v) else K (a.put oi.dst undef)) : wpAnyLast P .any ops Q S [] (f + 1) l a w := by
  have h1 := h _ (fun _ h => h)
  split at h1
  · rename_i hw
    obtain ⟨v, hv, hk⟩ := h1
    exact pure_ l' hi rfl hc (hQ.put a oi.dst v) (.inl ⟨hw, hv⟩) rfl hk
  · rename_i hw
    exact pure_ l' hi rfl hc (hQ.put a oi.dst undef) (.inr ⟨by simpa using hw, rfl⟩) rfl h1
theorem la_done (hc : (Region.ready .any ops l == []) = true) (h : Q .normal a w) : wpAnyLast P .any ops Q S [] f l a w := done_ hc h
end
end Go.Proofs.Ytlhiaofanejcoaa
