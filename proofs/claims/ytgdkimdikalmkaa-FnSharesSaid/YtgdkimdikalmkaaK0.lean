/- Words of this claim's own: blocks, slices of the call's own, where no field is in sight. No condition. -/
import Derived.Test.YtgdkimdikalmkaaProg
import Derived.Deep.QuietTactic
import Derived.BigQuiet
import Derived.ChangeKeysEq
import Derived.Laws.StructEq
import Derived.Stop.BytesEq
import Derived.Deep.Slices
import Derived.Deep.Fields
import Derived.ChangeSame
import Derived.OpenShut
import Derived.Test.YtgdkimdikalmkaaGA
import Derived.Test.YtgdkimdikalmkaaV
import Derived.Lib.Hide
import Derived.KernelRfl
import Derived.Shelf.Abstract
namespace Go.Proofs.Ytgdkimdikalmkaa
open Go.RowKit Go.Proofs.YtgdkimdikalmkaaW.PrintWords Go.Proofs.YtgdkimdikalmkaaW.PrintLast Go.Proofs.YtgdkimdikalmkaaW.PrintMore
set_option linter.unusedSimpArgs false
set_option linter.unusedVariables false

/-- A slice of the call's own that holds these numbers. -/
def Made (w w' : World) (xs : List Int) (v : Value) : Prop := Kd.R (Kd.int .i64) 2 w' w.heap.size (fun _ => True) v xs

theorem made_cells {w w' : World} {xs : List Int} {v : Value} (h : Made w w' xs v) : ∃ A c, v = .slice A xs.length c ∧ ∀ i : Nat, i < xs.length → ∃ ad : Addr, A = some ad ∧ w.heap.size ≤ ad.block ∧ ad.block < w'.heap.size ∧ w'.cell? (ad.add i) = some (.int .i64 (rd xs i)) := by
  obtain ⟨inner, ho⟩ := Kd.R_own h
  obtain ⟨A, c, rfl, hl, hC⟩ := Kd.R_reads h
  refine ⟨A, c, rfl, fun i hi => ?_⟩
  obtain ⟨ad, rfl, hc⟩ := Kd.at_int hC (i : Int) (by omega) (by omega)
  rw [Int.toNat_natCast] at hc
  have hb : (Value.slice (some ad) xs.length c).ownBlock = some ad.block := rfl
  exact ⟨ad, rfl, own_base ho _ hb, own_lt ho _ hb, hc⟩

/-- All old blocks but g are as they were. -/
structure Kept (g : Nat) (w w' : World) : Prop where
  os : w'.os = w.os
  tape : w'.tape = w.tape
  output : w'.output = w.output
  size : w.heap.size ≤ w'.heap.size
  block : ∀ k, k < w.heap.size → k ≠ g → w'.heap[k]? = w.heap[k]?
theorem Kept.refl (g : Nat) (w : World) : Kept g w w := ⟨rfl, rfl, rfl, Nat.le_refl _, fun _ _ _ => rfl⟩
theorem Kept.set {g : Nat} {w w' : World} (h : Kept g w w') (i : Nat) (v : Value) : Kept g w (w'.setCell ⟨g, i, none⟩ v) :=
  ⟨h.os, h.tape, h.output, by rw [World.size_setCell]; exact h.size, fun k hl hk => (heap_setCell_other w' ⟨g, i, none⟩ k v hk).trans (h.block k hl hk)⟩
theorem Kept.drewN {g : Nat} {w w' : World} (h : Kept g w w') (n : Nat) : Kept g w (w'.drewN n) := ⟨h.os, h.tape, h.output, h.size, h.block⟩
theorem Kept.step {g : Nat} {w w' w'' : World} (h : Kept g w w') (hb : Below w'.heap.size w' w'') : Kept g w w'' :=
  ⟨hb.os.trans h.os, hb.tape.trans h.tape, hb.output.trans h.output, Nat.le_trans h.size hb.size, fun k hl hk => (hb.block k (Nat.lt_of_lt_of_le hl h.size)).trans (h.block k hl hk)⟩
theorem Kept.blk {g k : Nat} {w w' : World} {cs : List Value} {T : TypeId} (h : Kept g w w') (hB : Blk w k cs T) (hk : k ≠ g) : Blk w' k cs T := by
  unfold Blk
  rw [h.block k hB.lt hk]
  exact hB
theorem Kept.cell {g : Nat} {w w' : World} {a : Addr} {v : Value} (h : Kept g w w') (hc : w.cell? a = some v) (hl : a.block < w.heap.size) (ha : a.block ≠ g) : w'.cell? a = some v := by
  rw [← hc]
  unfold World.cell?
  rw [h.block _ hl ha]
theorem Kept.below {g B : Nat} {w0 w w' : World} (h : Kept g w w') (hb : Below B w0 w) (hg : B ≤ g) (hl : B ≤ w.heap.size) : Below B w0 w' :=
  ⟨h.os.trans hb.os, h.tape.trans hb.tape, h.output.trans hb.output, Nat.le_trans hb.size h.size, fun k hk => (h.block k (by omega) (by omega)).trans (hb.block k hk)⟩
theorem below_grown_none {w w1 : World} (h : w.grownBy w1 none) : Below w.heap.size w w1 := ⟨h.os, h.tape, h.output, h.size, fun i hi => h.block i hi (by simp)⟩
theorem boxed2 (w : World) (cs ds : List Value) (T U : TypeId) : Cls w [(w.heap.size, cs, T), (w.heap.size + 1, ds, U)] ((w.alloc (.cells cs.toArray T)).alloc (.cells ds.toArray U)) := by
  refine ⟨((Below.refl _ _).alloc (Nat.le_refl _) _).alloc (by simp) _, fun x hx => ?_⟩
  simp only [List.mem_cons, List.not_mem_nil, or_false] at hx
  rcases hx with rfl | rfl
  · exact (Blk.new' w cs T).alloc _
  · exact Blk.newAt (by simp)

section
variable {α β : Type} {d : Kd α} {d' : Kd β} {e e' b : Nat} {ok ok' : Nat → Prop} {w0 w w' : World} {v u : Value} {xs : List α} {ys : List β}
/-- A slice of the call's own, made since w0. -/
abbrev Ow (d : Kd α) (e : Nat) (w0 w : World) (v : Value) (xs : List α) : Prop := Kd.R d e w w0.heap.size (fun k => some k = v.ownBlock) v xs
/-- What is written through v leaves u alone. -/
def Apart (v u : Value) : Prop := ∀ k, some k = u.ownBlock → ¬ some k = v.ownBlock
theorem ow_new (hE : d.E = []) (h : Kd.R d e w' w.heap.size ok v xs) (hb : Below w0.heap.size w0 w) : Ow d e w0 w' v xs := Kd.R_lower (Kd.R_tight hE h) hb.size
theorem ow_below (h : Ow d e w0 w v xs) (hb : Below w.heap.size w w') : Ow d e w0 w' v xs := Kd.R_below h hb
theorem apart_new (h : Kd.R d e w' w.heap.size ok v xs) (hu : Kd.R d' e' w b ok' u ys) : Apart v u ∧ Apart u v :=
  ⟨fun k hk hv => by have h1 := Kd.R_base h k hv.symm; have h2 := Kd.R_lt hu k hk.symm; omega,
   fun k hv hk => by have h1 := Kd.R_base h k hv.symm; have h2 := Kd.R_lt hu k hk.symm; omega⟩
theorem ow_kept (h : Ow d e w0 w u xs) (hap : Apart v u) (hk : Go.Proofs.YtgdkimdikalmkaaW.PrintWords.Kept w w' (fun k => some k = v.ownBlock)) : Ow d e w0 w' u xs := Kd.R_kept h hk hap
theorem ow_tight (hE : d.E = []) (h : Kd.R d e w w0.heap.size ok v xs) : Ow d e w0 w v xs := Kd.R_tight hE h
theorem ow_C {A : Option Addr} {n c : Nat} (h : Ow d e w0 w (.slice A n c) xs) : Kd.C d w A xs.length xs := (Kd.R_reads' h).2.2
theorem ow_cap {A : Option Addr} {c : Nat} (h : Ow d e w0 w (.slice A xs.length c) xs) : xs.length ≤ c := (Kd.R_reads' h).2.1
end

/-- An append in a region that draws its order. -/
theorem la_append {P : Program} {ops : Array Oper} {Q : Exit → Act → World → Prop} {S : World → Prop} {i : Nat} {o : Oper} {f : Nat} {l : Array Bool} {a : Act} {α : Type} (l' : Array Bool) (N : Option Tmp) (hi : ops[i]? = some o) (hN : o.dst = N) (hc : Go.Proofs.YtgdkimdikalmkaaW.PrintLast.readyB .any ops l l' i = true)
    (d : Kd α) {w0 W : World} (base : Nat) (hw : Region.wanted o (yielded ops a.tmps) = true) (s x : Operand) (t e : TypeId) (z : Value) (bytes : Nat)
    (ho : o.op = .call { callee := .builtin .append, args := #[s, x], argTypes := #[t, t] })
    (ht : P.underlying t = some (.slice e)) (hinfo : (P.info? e).map (fun i => (i.zero, i.size, i.bytes)) = some (some z, d.sz, bytes)) (hz : z.cells.size = d.sz) (hs0 : 0 < d.sz) (hb0 : 0 < bytes)
    (v : Value) (xs : List α) (p : α) (cs : List Value) (ok okp : Nat → Prop) (hs : a.eval s = v) (hx : a.eval x = .slice (some ⟨W.heap.size, 0, none⟩) 1 1) (hp : d.M W base okp p cs) (hokp : ∀ k, okp k → ok k ∧ some k ≠ v.ownBlock) (hfresh : ∀ k, W.heap.size ≤ k → ok k)
    (HO : d.R e W base ok v xs) (HB : Below base w0 W) (hbase : base ≤ W.heap.size) (hl : (xs.length + 1) * bytes ≤ 140737488355328)
    (h : ∀ v1 w1, d.R e w1 base ok v1 (xs ++ [p]) → Below base w0 w1 → W.grownBy w1 v.ownBlock → (v1.ownBlock = v.ownBlock ∨ ∃ b, v1.ownBlock = some b ∧ W.heap.size ≤ b) → S w1 ∧ wpAnyLast P .any ops Q S [] f l' (a.put N v1) w1) :
    wpAnyLast P .any ops Q S [] (f + 1) l a (W.alloc (.cells cs.toArray e)) :=
  la_one l' N hi hN hc hw fun K hK => by
    have key := Kd.R_append_step (Kc := K) (Q := Q) (P := P) (ops := ops) (a := a) (o := o) d base hw s x t e z bytes ho ht hinfo hz hs0 hb0 v xs p cs ok okp hs hx hp hokp hfresh HO HB hbase hl (fun v1 w1 h1 h2 h3 h4 => by
      obtain ⟨hS, hk⟩ := h v1 w1 h1 h2 h3 h4
      rw [hN]
      exact hK _ _ hS hk)
    rw [if_pos hw] at key
    exact key
end Go.Proofs.Ytgdkimdikalmkaa
