/- Words of this claim's own: a region that draws its order, step by step: operations that look at no memory, single cells, two stores in either order. No condition. -/
import Derived.Test.YtlhiaofanejcoaaH
namespace Go.Proofs.Ytlhiaofanejcoaa
open Go.RowKit
set_option linter.unusedSimpArgs false
set_option linter.unusedVariables false

section
variable {P : Program} {ops : Array Oper} {Q : Exit → Act → World → Prop} {md : Region.Mode} {n : Nat}

/-- An operation that looks at no memory is taken first. -/
theorem wpK_auto {i : Nat} {oi : Oper} {f : Nat} {listed : Array Bool} {a : Act} {w : World} (l' : Array Bool) (hi : ops[i]? = some oi) (hc : anyB md ops i listed l' = true) (hQ : PanicBlind Q)
    (h : ∀ K : Act → Prop, (∀ a', wpK P md ops Q n f l' a' w → K a') → if Region.wanted oi (yielded ops a.tmps) then ∃ v, (∀ w, (execOp a.eval oi).run P w = .ok (.value v) w) ∧ K (a.put oi.dst v) else K (a.put oi.dst undef)) : wpK P md ops Q n (f + 1) listed a w := by
  have h1 := h _ (fun _ h => h)
  split at h1
  · rename_i hw
    obtain ⟨v, hv, hk⟩ := h1
    exact wpK_any l' hi hc hQ (fun w => .inl ⟨hw, fun w' _ => by unfold Oper.quietAt; rw [hv w']; exact ⟨rfl, rfl⟩⟩) hk
  · rename_i hw
    exact wpK_any l' hi hc hQ (fun w => .inr ⟨by simpa using hw, rfl⟩) h1

/-- The same, where the value is told. -/
theorem wpK_pure {i : Nat} {oi : Oper} {f : Nat} {listed : Array Bool} {a : Act} {w : World} (l' : Array Bool) (hi : ops[i]? = some oi) (N : Option Tmp) (hN : oi.dst = N) (hc : anyB md ops i listed l' = true) (hQ : PanicBlind Q)
    (hw : Region.wanted oi (yielded ops a.tmps) = true) (v : Value) (hv : ∀ w, (execOp a.eval oi).run P w = .ok (.value v) w) (h : wpK P md ops Q n f l' (a.put N v) w) : wpK P md ops Q n (f + 1) listed a w := by
  subst hN
  exact wpK_any l' hi hc hQ (fun w => .inl ⟨hw, fun w' _ => by unfold Oper.quietAt; rw [hv w']; exact ⟨rfl, rfl⟩⟩) h

/-- Two numbers may come up: both ways. -/
theorem wpK_two {i j : Nat} {f : Nat} {listed : Array Bool} {a : Act} {w : World} (li lj : Array Bool) (hc : (Region.ready md ops listed == [i, j] && (listed.setIfInBounds i true == li && listed.setIfInBounds j true == lj)) = true)
    (h1 : ∀ w', WUp w w' → wpOp P ops Q i (fun a'' w'' => (i < n → WUp w' w'') ∧ wpK P md ops Q n f li a'' w'') a w')
    (h2 : ∀ w', WUp w w' → wpOp P ops Q j (fun a'' w'' => (j < n → WUp w' w'') ∧ wpK P md ops Q n f lj a'' w'') a w') : wpK P md ops Q n (f + 1) listed a w := by
  simp only [Bool.and_eq_true, beq_iff_eq] at hc
  obtain ⟨hr, rfl, rfl⟩ := hc
  intro w' hw'
  refine ⟨fun h0 => (by rw [hr] at h0; cases h0), fun k hk => ?_⟩
  rw [hr] at hk
  rcases List.mem_cons.1 hk with rfl | hk
  · exact h1 w' hw'
  · rw [List.mem_singleton.1 hk]
    exact h2 w' hw'
end

section
variable {P : Program} {ops : Array Oper} {C : World → Prop} {Qa : Act → Prop} {rest : List Oper} {oi : Oper} {a : Act} {w : World} {v : Value}

/-- Only at the operation that fills this slot. -/
theorem q_gate (N : Option Tmp) (_ : oi.dst = N) (h : wpQuiet P ops C Qa (oi :: rest) a) : wpQuiet P ops C Qa (oi :: rest) a := h
/-- An operation that looks at no memory. -/
theorem q_auto (h : ∀ K : Act → Prop, (∀ a', wpQuiet P ops C Qa rest a' → K a') → if Region.wanted oi (yielded ops a.tmps) then ∃ v, (∀ w, (execOp a.eval oi).run P w = .ok (.value v) w) ∧ K (a.put oi.dst v) else K (a.put oi.dst undef)) : wpQuiet P ops C Qa (oi :: rest) a := by
  refine wpQuiet_step fun K hK => ?_
  have h1 := h K hK
  split at h1
  · rename_i hw
    obtain ⟨v, hv, hk⟩ := h1
    rw [if_pos hw]
    exact ⟨v, fun w _ => by unfold Oper.quietAt; rw [hv w]; exact ⟨rfl, rfl⟩, hk⟩
  · rename_i hw
    rw [if_neg hw]
    exact h1

/-- The load of one whole number. -/
theorem run_load_cell {cs : List Value} {T : TypeId} {b o : Nat} {k : IntKind} {z : Int} (ty : TypeId) (hu : P.underlying ty = some (.int k)) (hB : Blk w b cs T) (hv : cs[o]? = some (.int k z)) :
    (Instr.loadAt ty (.pointer (some ⟨b, o, none⟩))).run P w = .ok (.int k z) w := by
  have hc := hB.cell hv
  simp [Instr.loadAt, hc, go_sem, isAgg, run_underlying hu]
theorem q_cell {T : TypeId} {cs : List Value} {k : IntKind} {z : Int} (N : Option Tmp) (hd : oi.dst = N) (hw : Region.wanted oi (yielded ops a.tmps) = true) (ty : TypeId) (x : Operand) (ho : oi.op = .load ty x) (b o : Nat) (hx : a.eval x = .pointer (some ⟨b, o, none⟩))
    (hB : ∀ w, C w → Blk w b cs T) (hv : cs[o]? = some (.int k z)) (hu : P.underlying ty = some (.int k)) (h : wpQuiet P ops C Qa rest (a.put N (.int k z))) : wpQuiet P ops C Qa (oi :: rest) a := by
  refine q_value N hd hw _ (fun w hC => ?_) h
  unfold execOp
  simp only [ho, hx, Sem.run_bind, run_load_cell ty hu (hB w hC) hv, Sem.run_pure, Result.andThen_ok]
theorem y_cell {T : TypeId} {cs : List Value} {k : IntKind} {z : Int} (hw : Region.wanted oi (yielded ops a.tmps) = true) (ty : TypeId) (x : Operand) (ho : oi.op = .load ty x) (b o : Nat) (hx : a.eval x = .pointer (some ⟨b, o, none⟩))
    (hB : Blk w b cs T) (hv : cs[o]? = some (.int k z)) (hu : P.underlying ty = some (.int k)) : YieldsUp P ops oi (.int k z) a w := by
  refine y_value hw fun w' h' => ?_
  unfold execOp
  simp only [ho, hx, Sem.run_bind, run_load_cell ty hu (hB.below h' hB.lt) hv, Sem.run_pure, Result.andThen_ok]
end

/-- An argument boxed. -/
theorem boxed1 (w : World) (cs : List Value) (T : TypeId) : Cls w [(w.heap.size, cs, T)] (w.alloc (.cells cs.toArray T)) := by
  refine ⟨(Below.refl _ _).alloc (Nat.le_refl _) _, fun x hx => ?_⟩
  rw [List.mem_singleton.1 hx]
  exact Blk.new' w cs T
/-- Two arguments boxed, and a result laid. -/
theorem boxed3 (w : World) (cs ds es : List Value) (T U V : TypeId) : Cls w [(w.heap.size, cs, T), (w.heap.size + 1, ds, U), (w.heap.size + 1 + 1, es, V)] (((w.alloc (.cells cs.toArray T)).alloc (.cells ds.toArray U)).alloc (.cells es.toArray V)) := by
  refine ⟨(((Below.refl _ _).alloc (Nat.le_refl _) _).alloc (by simp) _).alloc (by simp; omega) _, fun x hx => ?_⟩
  simp only [List.mem_cons, List.not_mem_nil, or_false] at hx
  rcases hx with rfl | rfl | rfl
  · exact ((Blk.new' w cs T).alloc _).alloc _
  · exact (Blk.newAt (by simp)).alloc _
  · exact Blk.newAt (by simp)
/-- Three arguments boxed, and a result laid. -/
theorem boxed4 (w : World) (cs ds es fs : List Value) (T U V X : TypeId) : Cls w [(w.heap.size, cs, T), (w.heap.size + 1, ds, U), (w.heap.size + 1 + 1, es, V), (w.heap.size + 1 + 1 + 1, fs, X)] ((((w.alloc (.cells cs.toArray T)).alloc (.cells ds.toArray U)).alloc (.cells es.toArray V)).alloc (.cells fs.toArray X)) := by
  refine ⟨((((Below.refl _ _).alloc (Nat.le_refl _) _).alloc (by simp) _).alloc (by simp; omega) _).alloc (by simp; omega) _, fun x hx => ?_⟩
  simp only [List.mem_cons, List.not_mem_nil, or_false] at hx
  rcases hx with rfl | rfl | rfl | rfl
  · exact (((Blk.new' w cs T).alloc _).alloc _).alloc _
  · exact ((Blk.newAt (by simp)).alloc _).alloc _
  · exact (Blk.newAt (by simp)).alloc _
  · exact Blk.newAt (by simp)
end Go.Proofs.Ytlhiaofanejcoaa
