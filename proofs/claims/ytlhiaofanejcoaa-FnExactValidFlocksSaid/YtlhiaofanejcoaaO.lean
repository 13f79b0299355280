/- Words of this claim's own: slices of the call's own, apart from each other. No condition. -/
import Derived.Test.YtlhiaofanejcoaaJ
import Derived.Test.YtlhiaofanejcoaaWWords
import Derived.Test.YtlhiaofanejcoaaWKept
import Derived.Test.YtlhiaofanejcoaaWApart
namespace Go.Proofs.Ytlhiaofanejcoaa
open Go.RowKit Go.Proofs.YtlhiaofanejcoaaW.PrintWords Go.Proofs.YtlhiaofanejcoaaW.PrintLast
set_option linter.unusedSimpArgs false
set_option linter.unusedVariables false

section
variable {α β : Type} {d : Kd α} {d' : Kd β} {e e' b : Nat} {ok ok' : Nat → Prop} {w0 w w' : World} {v u : Value} {xs : List α} {ys : List β}
/-- A slice of the call's own, made since w0. -/
abbrev Ow (d : Kd α) (e : Nat) (w0 w : World) (v : Value) (xs : List α) : Prop := Kd.R d e w w0.heap.size (fun k => some k = v.ownBlock) v xs
/-- What is written through v leaves u alone. -/
def Apart (v u : Value) : Prop := ∀ k, some k = u.ownBlock → ¬ some k = v.ownBlock
theorem ow_new (hE : d.E = []) (h : Kd.R d e w' w.heap.size ok v xs) (hb : Below w0.heap.size w0 w) : Ow d e w0 w' v xs := Kd.R_lower (Kd.R_tight hE h) hb.size
theorem ow_below (h : Ow d e w0 w v xs) (hb : Below w.heap.size w w') : Ow d e w0 w' v xs := Kd.R_below h hb
theorem apart_new (h : Kd.R d e w' w.heap.size ok v xs) (hu : Kd.R d' e' w b ok' u ys) : Apart v u ∧ Apart u v :=
  ⟨fun k hk hv => by have h1 := Kd.R_base h k hv.symm; have h2 := Kd.R_lt hu k hk.symm; omega,
   fun k hv hk => by have h1 := Kd.R_base h k hv.symm; have h2 := Kd.R_lt hu k hk.symm; omega⟩
theorem ow_kept (h : Ow d e w0 w u xs) (hap : Apart v u) (hk : Go.Proofs.YtlhiaofanejcoaaW.PrintWords.Kept w w' (fun k => some k = v.ownBlock)) : Ow d e w0 w' u xs := Kd.R_kept h hk hap
theorem ow_tight (hE : d.E = []) (h : Kd.R d e w w0.heap.size ok v xs) : Ow d e w0 w v xs := Kd.R_tight hE h
theorem ow_C {A : Option Addr} {n c : Nat} (h : Ow d e w0 w (.slice A n c) xs) : Kd.C d w A xs.length xs := (Kd.R_reads' h).2.2
theorem ow_cap {A : Option Addr} {c : Nat} (h : Ow d e w0 w (.slice A xs.length c) xs) : xs.length ≤ c := (Kd.R_reads' h).2.1
end

/-- An append in a region that draws its order. -/
theorem la_append {P : Program} {ops : Array Oper} {Q : Exit → Act → World → Prop} {S : World → Prop} {i : Nat} {o : Oper} {f : Nat} {l : Array Bool} {a : Act} {α : Type} (l' : Array Bool) (N : Option Tmp) (hi : ops[i]? = some o) (hN : o.dst = N) (hc : Go.Proofs.YtlhiaofanejcoaaW.PrintLast.readyB .any ops l l' i = true)
    (d : Kd α) {w0 W : World} (base : Nat) (hw : Region.wanted o (yielded ops a.tmps) = true) (s x : Operand) (t e : TypeId) (z : Value) (bytes : Nat)
    (ho : o.op = .call { callee := .builtin .append, args := #[s, x], argTypes := #[t, t] })
    (ht : P.underlying t = some (.slice e)) (hinfo : (P.info? e).map (fun i => (i.zero, i.size, i.bytes)) = some (some z, d.sz, bytes)) (hz : z.cells.size = d.sz) (hs0 : 0 < d.sz) (hb0 : 0 < bytes)
    (v : Value) (xs : List α) (p : α) (cs : List Value) (ok okp : Nat → Prop) (hs : a.eval s = v) (hx : a.eval x = .slice (some ⟨W.heap.size, 0, none⟩) 1 1) (hp : d.M W base okp p cs) (hokp : ∀ k, okp k → ok k ∧ some k ≠ v.ownBlock) (hfresh : ∀ k, W.heap.size ≤ k → ok k)
    (HO : d.R e W base ok v xs) (HB : Below base w0 W) (hbase : base ≤ W.heap.size) (hl : (xs.length + 1) * bytes ≤ 140737488355328)
    (h : ∀ v1 w1, d.R e w1 base ok v1 (xs ++ [p]) → Below base w0 w1 → W.grownBy w1 v.ownBlock → (v1.ownBlock = v.ownBlock ∨ ∃ b, v1.ownBlock = some b ∧ W.heap.size ≤ b) → S w1 ∧ wpAnyLast P .any ops Q S [] f l' (a.put N v1) w1) :
    wpAnyLast P .any ops Q S [] (f + 1) l a (W.alloc (.cells cs.toArray e)) :=
  la_one l' N hi hN hc hw fun K hK => by
    have key := Kd.R_append_step (Kc := K) (Q := Q) (P := P) (ops := ops) (a := a) (o := o) d base hw s x t e z bytes ho ht hinfo hz hs0 hb0 v xs p cs ok okp hs hx hp hokp hfresh HO HB hbase hl (fun v1 w1 h1 h2 h3 h4 => by
      obtain ⟨hS, hk⟩ := h v1 w1 h1 h2 h3 h4
      rw [hN]
      exact hK _ _ hS hk)
    rw [if_pos hw] at key
    exact key
end Go.Proofs.Ytlhiaofanejcoaa
