/- Words of this claim's own: operations of a region that draws its order: maps, literals, single cells. No condition. -/
import Derived.Test.YtgdkimdikalmkaaEV
import Derived.Test.YtgdkimdikalmkaaG3
import Derived.Test.YtgdkimdikalmkaaK0
namespace Go.Proofs.Ytgdkimdikalmkaa
open Go.RowKit Go.Proofs.YtgdkimdikalmkaaW.PrintWords Go.Proofs.YtgdkimdikalmkaaW.PrintLast Go.Proofs.YtgdkimdikalmkaaW.PrintMore
set_option linter.unusedSimpArgs false
set_option linter.unusedVariables false

section
variable {P : Program} {ops : Array Oper} {Q : Exit → Act → World → Prop} {S : World → Prop} {i f : Nat} {oi : Oper} {l' : Array Bool} {a : Act} {w : World}
theorem ev_skip (N : Option Tmp) (hN : oi.dst = N) (w' : World) (hv : (execOp a.eval oi).run P w = .ok .skip w') (hS : S w') (h : wpAnyLast P .any ops Q S [] f l' (a.put N undef) w') : Next P ops Q S f l' oi a w := fun K hK => by
  unfold Oper.wp
  rw [hv]
  simp only [Oper.upon]
  rw [hN]
  exact hK _ _ hS h
theorem ev_lit {α : Type} (N : Tmp) (hN : oi.dst = some N) (hw : Region.wanted oi (yielded ops a.tmps) = true) (d : Kd α) {w0 : World} (base e : Nat) {xs : List α} {inner : List Value} {ok okp : Nat → Prop}
    (hrun : (execOp a.eval oi).run P w = .ok (.value (.slice (some ⟨w.heap.size, 0, none⟩) xs.length xs.length)) (w.alloc (.cells inner.toArray e)))
    (hrep : Reps (d.M w base okp) d.sz xs inner) (hok : ∀ k, okp k → ok k) (hfresh : ok w.heap.size) (HB : Below base w0 w) (hbase : base ≤ w.heap.size) (hm : xs.length ≤ 9223372036854775807)
    (h : ∀ v1 w1, d.R e w1 base ok v1 xs → Below base w0 w1 → w.grownBy w1 none → (∃ b, v1.ownBlock = some b ∧ w.heap.size ≤ b) → S w1 ∧ wpAnyLast P .any ops Q S [] f l' (a.put (some N) v1) w1) : Next P ops Q S f l' oi a w := fun K hK => by
  have key := Kd.R_lit_step (Kc := K) (Q := Q) (P := P) (ops := ops) (a := a) (o := oi) (w0 := w0) d base e hw hN hrun hrep hok hfresh HB hbase hm (fun v1 w1 h1 h2 h3 h4 => by
    obtain ⟨hS, hk⟩ := h v1 w1 h1 h2 h3 h4
    rw [hN]
    exact hK _ _ hS hk)
  rw [if_pos hw] at key
  exact key
end
theorem run_makeMap {P : Program} {a : Act} {o : Oper} {t : TypeId} (ho : o.op = .makeMap t none) (w : World) : (execOp a.eval o).run P w = .ok (.value (.map (some w.heap.size))) (w.alloc (.map #[] 0)) := by
  unfold execOp
  simp [ho, Instr.makeMap]
theorem run_insert {P : Program} {a : Act} {o : Oper} {t : TypeId} {m k x : Operand} {vm vk vx : Value} {w w' : World} (ho : o.op = .insert t m k x) (hm : a.eval m = vm) (hk : a.eval k = vk) (hx : a.eval x = vx) (hr : (Instr.mapUpdate t vm vk vx).run P w = .ok () w') : (execOp a.eval o).run P w = .ok .skip w' := by
  unfold execOp
  simp [ho, hm, hk, hx, hr]
theorem run_mapUpdate {P : Program} {a : Act} {o : Oper} {t : TypeId} {m k x : Operand} {vm vk vx : Value} {w w' : World} (ho : o.op = .mapUpdate t m k x) (hm : a.eval m = vm) (hk : a.eval k = vk) (hx : a.eval x = vx) (hr : (Instr.mapUpdate t vm vk vx).run P w = .ok () w') : (execOp a.eval o).run P w = .ok .skip w' := by
  unfold execOp
  simp [ho, hm, hk, hx, hr]
theorem run_alloc1 {P : Program} {a : Act} {o : Oper} {t : TypeId} {z : Value} (ho : o.op = .alloc t) (w : World) (hz : (zeroValue t).run P w = .ok z w) (hc : z.cells = #[z]) : (execOp a.eval o).run P w = .ok (.value (.pointer (some ⟨w.heap.size, 0, none⟩))) (w.alloc (.cells #[z] t)) := by
  unfold execOp
  simp [ho, Instr.alloc, hz, newVar, hc]
  rfl
end Go.Proofs.Ytgdkimdikalmkaa
