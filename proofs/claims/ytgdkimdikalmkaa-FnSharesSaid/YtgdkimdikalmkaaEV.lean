/- Words of this claim's own: operations of a region that draws its order, several of which make memory: each order is walked. No condition. -/
import Derived.Test.YtgdkimdikalmkaaK0
namespace Go.Proofs.Ytgdkimdikalmkaa
open Go.RowKit Go.Proofs.YtgdkimdikalmkaaW.PrintWords Go.Proofs.YtgdkimdikalmkaaW.PrintLast
set_option linter.unusedSimpArgs false
set_option linter.unusedVariables false

section
variable {P : Program} {ops : Array Oper} {Q : Exit → Act → World → Prop} {S : World → Prop} {i j k m f : Nat} {oi oj ok om : Oper} {l : Array Bool} {a : Act} {w : World}
/-- What an operation that may come up leads to. -/
abbrev Next (P : Program) (ops : Array Oper) (Q : Exit → Act → World → Prop) (S : World → Prop) (f : Nat) (l' : Array Bool) (o : Oper) (a : Act) (w : World) : Prop :=
  ∀ K : Act → World → Prop, (∀ a' w', S w' → wpAnyLast P .any ops Q S [] f l' a' w' → K a' w') → Oper.wp P o a w K Q
theorem la_two (li lj : Array Bool) (hi : ops[i]? = some oi) (hj : ops[j]? = some oj) (hc : (Region.ready .any ops l == [i, j] && l.setIfInBounds i true == li && l.setIfInBounds j true == lj) = true)
    (hwi : Region.wanted oi (yielded ops a.tmps) = true) (hwj : Region.wanted oj (yielded ops a.tmps) = true) (h1 : Next P ops Q S f li oi a w) (h2 : Next P ops Q S f lj oj a w) : wpAnyLast P .any ops Q S [] (f + 1) l a w :=
  two_ li lj hi hj rfl rfl hc (by simp) (by simp)
    (fun K hK => by rw [if_pos hwi]; exact h1 K (fun a' w' hS hk => hK a' w' hS (fun _ => hk)))
    (fun K hK => by rw [if_pos hwj]; exact h2 K (fun a' w' hS hk => hK a' w' hS (fun _ => hk)))
theorem la_three (li lj lk : Array Bool) (hi : ops[i]? = some oi) (hj : ops[j]? = some oj) (hk : ops[k]? = some ok) (hc : (Region.ready .any ops l == [i, j, k] && l.setIfInBounds i true == li && l.setIfInBounds j true == lj && l.setIfInBounds k true == lk) = true)
    (hwi : Region.wanted oi (yielded ops a.tmps) = true) (hwj : Region.wanted oj (yielded ops a.tmps) = true) (hwk : Region.wanted ok (yielded ops a.tmps) = true) (h1 : Next P ops Q S f li oi a w) (h2 : Next P ops Q S f lj oj a w) (h3 : Next P ops Q S f lk ok a w) : wpAnyLast P .any ops Q S [] (f + 1) l a w :=
  three_ li lj lk hi hj hk rfl rfl rfl hc (by simp) (by simp) (by simp)
    (fun K hK => by rw [if_pos hwi]; exact h1 K (fun a' w' hS hk => hK a' w' hS (fun _ => hk)))
    (fun K hK => by rw [if_pos hwj]; exact h2 K (fun a' w' hS hk => hK a' w' hS (fun _ => hk)))
    (fun K hK => by rw [if_pos hwk]; exact h3 K (fun a' w' hS hk => hK a' w' hS (fun _ => hk)))
theorem la_next (li : Array Bool) (hi : ops[i]? = some oi) (hc : (Region.ready .any ops l == [i] && l.setIfInBounds i true == li) = true)
    (hwi : Region.wanted oi (yielded ops a.tmps) = true) (h1 : Next P ops Q S f li oi a w) : wpAnyLast P .any ops Q S [] (f + 1) l a w :=
  la_one li oi.dst hi rfl hc hwi h1
theorem ev_value {f : Nat} {l' : Array Bool} (N : Option Tmp) (hN : oi.dst = N) (v : Value) (w' : World) (hv : (execOp a.eval oi).run P w = .ok (.value v) w') (hS : S w') (h : wpAnyLast P .any ops Q S [] f l' (a.put N v) w') : Next P ops Q S f l' oi a w := fun K hK => by
  unfold Oper.wp
  rw [hv]
  simp only [Oper.upon]
  rw [hN]
  exact hK _ _ hS h
theorem ev_alloc {f : Nat} {l' : Array Bool} (N : Option Tmp) (hN : oi.dst = N) (T : TypeId) (ho : oi.op = .alloc T) (zs : List Value) (hz : (zeroValue T).run P w = .ok (.agg zs.toArray) w) (hS : S (w.alloc (.cells zs.toArray T)))
    (h : wpAnyLast P .any ops Q S [] f l' (a.put N (.pointer (some ⟨w.heap.size, 0, none⟩))) (w.alloc (.cells zs.toArray T))) : Next P ops Q S f l' oi a w := fun K hK => by
  unfold Oper.wp execOp
  simp only [ho]
  simp [Instr.alloc, hz, newVar, Value.cells]
  have hk := hK _ _ hS h
  rw [← hN] at hk
  exact hk
theorem ev_call {f : Nat} {l' : Array Bool} (N : Option Tmp) (hN : oi.dst = N) {g : FuncId} {fn : Func} {ags : Array Operand} {ts : Array TypeId} (hf : P.funcs[g]? = some fn) (hname : (fn.name == "runtime.NumGoroutine") = false) (hb : fn.body.isSome = true)
    (args : Array Value) (hop : oi.op = .call { callee := .value (.func g), args := ags, argTypes := ts }) (hargs : ags.map a.eval = args)
    (h : Calls P g args w fun e w' => ∃ v, e = .returned v ∧ S w' ∧ wpAnyLast P .any ops Q S [] f l' (a.put N v) w') : Next P ops Q S f l' oi a w := fun K hK => by
  have he := enters' hf hname hb args w
  have hrun : (execOp a.eval oi).run P w = .ok (.enter g args) w := by
    unfold execOp
    simp [hop, resolve, Deferred.ofValue, invoke, Act.eval, hargs, he]
  unfold Oper.wp
  rw [hrun]
  simp only [Oper.upon]
  exact h.mono fun e w' ⟨v, he, hS, hk⟩ => by subst he; rw [hN]; exact hK _ _ hS hk
theorem ev_make {α : Type} {f : Nat} {l' : Array Bool} (N : Tmp) (hN : oi.dst = some N) (hw : Region.wanted oi (yielded ops a.tmps) = true) (d : Kd α) {w0 : World} (base e : Nat) (t : TypeId) (x y : Operand) (ho : oi.op = .makeSlice t x y) (n : Int) (hx : a.eval x = .int .i64 n) (hy : a.eval y = .int .i64 n)
    (ht : P.underlying t = some (.slice e)) (z : Value) (bytes : Nat) (hinfo : (P.info? e).map (fun i => (i.zero, i.size, i.bytes)) = some (some z, d.sz, bytes)) (hz : z.cells.size = d.sz) (hs0 : 0 < d.sz) (hb0 : 0 < bytes)
    (z0 : α) {ok okp : Nat → Prop} (hzero : d.M w base okp z0 z.cells.toList) (hok : ∀ k, okp k → ok k) (hfresh : ok w.heap.size) (h0 : 0 ≤ n) (hl : n.toNat * bytes ≤ 281474976710656) (HB : Below base w0 w) (hbase : base ≤ w.heap.size)
    (h : ∀ v1 w1, d.R e w1 base ok v1 (List.replicate n.toNat z0) → Below base w0 w1 → S w1 ∧ wpAnyLast P .any ops Q S [] f l' (a.put (some N) v1) w1) : Next P ops Q S f l' oi a w := fun K hK => by
  have key := Kd.R_make_step (Kc := K) (Q := Q) (P := P) (ops := ops) (a := a) (o := oi) (w0 := w0) d base e hw hN t x y ho n hx hy ht z bytes hinfo hz hs0 hb0 z0 hzero hok hfresh h0 hl HB hbase (fun v1 w1 h1 h2 _ _ => by
    obtain ⟨hS, hk⟩ := h v1 w1 h1 h2
    rw [hN]
    exact hK _ _ hS hk)
  rw [if_pos hw] at key
  exact key
end
end Go.Proofs.Ytgdkimdikalmkaa
