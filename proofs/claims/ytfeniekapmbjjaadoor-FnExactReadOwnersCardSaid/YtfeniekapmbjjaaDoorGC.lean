/- Words and small walks of this claim's own, in one file; what each part says stands ahead of it. No condition but those that each theorem names. -/
import Derived.Test.YtfeniekapmbjjaaDoorGB
import Derived.Test.YtfeniekapmbjjaaDoorWWords
import Derived.Test.YtfeniekapmbjjaaDoorWMore
import Derived.Test.YtfeniekapmbjjaaDoorWLast
import Derived.Test.YtfeniekapmbjjaaDoorWInvWords
import Derived.Shelf.Abstract
import Derived.Test.YtfeniekapmbjjaaDoorGA
import Derived.Test.YtfeniekapmbjjaaDoorWKept
import Derived.Test.YtfeniekapmbjjaaDoorWApart
/- The cells of a field, as a list. No condition but that the numbers are within their kinds. -/
namespace Go.Proofs.YtfeniekapmbjjaaDoor
open Go.RowKit Go.Proofs.YtfeniekapmbjjaaDoorW.PrintWords Go.Proofs.YtfeniekapmbjjaaDoorW.PrintLast Go.Proofs.YtfeniekapmbjjaaDoorW.PrintMore
set_option linter.unusedSimpArgs false
set_option linter.unusedVariables false

/-- The cells below n. -/
def Fld.cellsTo (F : Fld) : Nat → List Int
  | 0 => []
  | i + 1 => if F.has (i : Int) = true then F.cellsTo i ++ [(i : Int)] else F.cellsTo i
theorem Fld.cellsTo_len (F : Fld) : ∀ i, (F.cellsTo i).length ≤ i
  | 0 => by simp [Fld.cellsTo]
  | i + 1 => by
    have := F.cellsTo_len i
    simp only [Fld.cellsTo]
    split
    · simp; omega
    · omega
theorem info_i64 : (Tryd.prog.info? 2).map (fun i => (i.zero, i.size, i.bytes)) = some (some (.int .i64 0), 1, 8) := by kernel_rfl

/-- A slice of the call's own that holds these numbers. -/
def Made (w w' : World) (xs : List Int) (v : Value) : Prop := Kd.R (Kd.int .i64) 2 w' w.heap.size (fun _ => True) v xs

end Go.Proofs.YtfeniekapmbjjaaDoor

/- A number put into a set of numbers, by the program and by the reference: the same. No condition but that the number is below 100. -/
namespace Go.Proofs.YtfeniekapmbjjaaDoor
open Go.RowKit
set_option linter.unusedSimpArgs false
set_option linter.unusedVariables false

/-- The set U with n put into it. -/
def putN (U : List Int) (n : Nat) : List Int := U.set (n / 64) (bits BinOp.or IntKind.u64 (nth U (n / 64)) (IntKind.u64.wrap (2 ^ (n % 64))))
def putV (U : List Int) (n : Nat) : Value := .int .u64 (bits BinOp.or IntKind.u64 (nth U (n / 64)) (IntKind.u64.wrap (2 ^ (n % 64))))
theorem putN_len (U : List Int) (n : Nat) : (putN U n).length = U.length := by simp [putN]
theorem putN_row (U : List Int) (n : Nat) : (vrow .u64 U).set (n / 64) (putV U n) = vrow .u64 (putN U n) := by simp [vrow, putN, putV, List.map_set]
theorem post_none {P : Program} {fn : Func} {R : Ending → World → Prop} {a : Act} {w : World} (hr : fn.results = #[]) (hd : a.defers = []) (h : R (.returned (.tuple #[])) w) : bodyPost P fn R .normal a w := by
  refine ⟨hd, _, ?_, h⟩
  simp [results, hr]

end Go.Proofs.YtfeniekapmbjjaaDoor

/- The cells of a field for which a closure answers yes, as a set. No condition but that the numbers are within their kinds. -/
namespace Go.Proofs.YtfeniekapmbjjaaDoor
open Go.RowKit Go.Proofs.YtfeniekapmbjjaaDoorW.PrintWords Go.Proofs.YtfeniekapmbjjaaDoorW.PrintLast Go.Proofs.YtfeniekapmbjjaaDoorW.PrintMore
set_option linter.unusedSimpArgs false
set_option linter.unusedVariables false

theorem made_cells {w w' : World} {xs : List Int} {v : Value} (h : Made w w' xs v) : ∃ A c, v = .slice A xs.length c ∧ ∀ i : Nat, i < xs.length → ∃ ad : Addr, A = some ad ∧ w.heap.size ≤ ad.block ∧ ad.block < w'.heap.size ∧ w'.cell? (ad.add i) = some (.int .i64 (rd xs i)) := by
  obtain ⟨inner, ho⟩ := Kd.R_own h
  obtain ⟨A, c, rfl, hl, hC⟩ := Kd.R_reads h
  refine ⟨A, c, rfl, fun i hi => ?_⟩
  obtain ⟨ad, rfl, hc⟩ := Kd.at_int hC (i : Int) (by omega) (by omega)
  rw [Int.toNat_natCast] at hc
  have hb : (Value.slice (some ad) xs.length c).ownBlock = some ad.block := rfl
  exact ⟨ad, rfl, own_base ho _ hb, own_lt ho _ hb, hc⟩

/-- All old blocks but g are as they were. -/
structure Kept (g : Nat) (w w' : World) : Prop where
  os : w'.os = w.os
  tape : w'.tape = w.tape
  output : w'.output = w.output
  size : w.heap.size ≤ w'.heap.size
  block : ∀ k, k < w.heap.size → k ≠ g → w'.heap[k]? = w.heap[k]?
theorem Kept.refl (g : Nat) (w : World) : Kept g w w := ⟨rfl, rfl, rfl, Nat.le_refl _, fun _ _ _ => rfl⟩
theorem Kept.set {g : Nat} {w w' : World} (h : Kept g w w') (i : Nat) (v : Value) : Kept g w (w'.setCell ⟨g, i, none⟩ v) :=
  ⟨h.os, h.tape, h.output, by rw [World.size_setCell]; exact h.size, fun k hl hk => (heap_setCell_other w' ⟨g, i, none⟩ k v hk).trans (h.block k hl hk)⟩
theorem Kept.drewN {g : Nat} {w w' : World} (h : Kept g w w') (n : Nat) : Kept g w (w'.drewN n) := ⟨h.os, h.tape, h.output, h.size, h.block⟩
theorem Kept.step {g : Nat} {w w' w'' : World} (h : Kept g w w') (hb : Below w'.heap.size w' w'') : Kept g w w'' :=
  ⟨hb.os.trans h.os, hb.tape.trans h.tape, hb.output.trans h.output, Nat.le_trans h.size hb.size, fun k hl hk => (hb.block k (Nat.lt_of_lt_of_le hl h.size)).trans (h.block k hl hk)⟩
theorem Kept.blk {g k : Nat} {w w' : World} {cs : List Value} {T : TypeId} (h : Kept g w w') (hB : Blk w k cs T) (hk : k ≠ g) : Blk w' k cs T := by
  unfold Blk
  rw [h.block k hB.lt hk]
  exact hB
theorem Kept.cell {g : Nat} {w w' : World} {a : Addr} {v : Value} (h : Kept g w w') (hc : w.cell? a = some v) (hl : a.block < w.heap.size) (ha : a.block ≠ g) : w'.cell? a = some v := by
  rw [← hc]
  unfold World.cell?
  rw [h.block _ hl ha]
theorem Kept.below {g B : Nat} {w0 w w' : World} (h : Kept g w w') (hb : Below B w0 w) (hg : B ≤ g) (hl : B ≤ w.heap.size) : Below B w0 w' :=
  ⟨h.os.trans hb.os, h.tape.trans hb.tape, h.output.trans hb.output, Nat.le_trans hb.size h.size, fun k hk => (h.block k (by omega) (by omega)).trans (hb.block k hk)⟩

/-- The numbers below n of which p holds, as a set. -/
def setTo (p : Nat → Bool) : Nat → List Int
  | 0 => [0, 0]
  | i + 1 => if p i = true then putN (setTo p i) i else setTo p i
theorem setTo_len (p : Nat → Bool) : ∀ i, (setTo p i).length = 2
  | 0 => rfl
  | i + 1 => by
    simp only [setTo]
    split
    · rw [putN_len, setTo_len p i]
    · exact setTo_len p i
theorem setTo_same {p q : Nat → Bool} : ∀ n, (∀ i, i < n → p i = q i) → setTo p n = setTo q n
  | 0, _ => rfl
  | n + 1, h => by
    simp only [setTo]
    rw [setTo_same n (fun i hi => h i (by omega)), h n (by omega)]
/-- The same by a list of numbers. -/
def setIn (p : Nat → Bool) (cs : List Int) : Nat → List Int
  | 0 => [0, 0]
  | j + 1 => if p (rd cs (j : Int)).toNat = true then putN (setIn p cs j) (rd cs (j : Int)).toNat else setIn p cs j
theorem setIn_len (p : Nat → Bool) (cs : List Int) : ∀ i, (setIn p cs i).length = 2
  | 0 => rfl
  | i + 1 => by
    simp only [setIn]
    split
    · rw [putN_len, setIn_len p cs i]
    · exact setIn_len p cs i
theorem rd_app_l (cs ds : List Int) {j : Nat} (h : j < cs.length) : rd (cs ++ ds) (j : Int) = rd cs (j : Int) := by
  simp only [rd, Int.toNat_natCast]
  rw [List.getD_eq_getElem?_getD, List.getD_eq_getElem?_getD, List.getElem?_append_left h]
theorem rd_app_r (cs : List Int) (x : Int) : rd (cs ++ [x]) (cs.length : Int) = x := by
  simp only [rd, Int.toNat_natCast]
  rw [List.getD_eq_getElem?_getD, List.getElem?_append_right (Nat.le_refl _)]
  simp
theorem setIn_app (p : Nat → Bool) (cs ds : List Int) : ∀ j, j ≤ cs.length → setIn p (cs ++ ds) j = setIn p cs j
  | 0, _ => rfl
  | j + 1, h => by
    simp only [setIn]
    rw [setIn_app p cs ds j (by omega), rd_app_l cs ds (by omega)]
theorem set_same (p : Nat → Bool) (F : Fld) : ∀ i, setIn p (F.cellsTo i) (F.cellsTo i).length = setTo (fun j => F.has (j : Int) && p j) i
  | 0 => rfl
  | i + 1 => by
    have ih := set_same p F i
    cases hx : F.has (i : Int)
    · have e : F.cellsTo (i + 1) = F.cellsTo i := by simp [Fld.cellsTo, hx]
      rw [e, ih]
      simp [setTo, hx]
    · have e : F.cellsTo (i + 1) = F.cellsTo i ++ [(i : Int)] := by simp [Fld.cellsTo, hx]
      rw [e, List.length_append]
      show setIn p (F.cellsTo i ++ [(i : Int)]) ((F.cellsTo i).length + 1) = _
      simp only [setIn, setTo]
      rw [setIn_app p _ _ _ (Nat.le_refl _), ih, rd_app_r, Int.toNat_natCast]
      simp [hx]
theorem cellsTo_in (F : Fld) : ∀ n i, i < (F.cellsTo n).length → ∃ k : Nat, rd (F.cellsTo n) (i : Int) = (k : Int) ∧ k < n
  | 0, i, h => by simp [Fld.cellsTo] at h
  | n + 1, i, h => by
    simp only [Fld.cellsTo] at h ⊢
    split at h
    case isTrue hx =>
      rw [if_pos hx]
      by_cases hl : i < (F.cellsTo n).length
      · obtain ⟨k, h1, h2⟩ := cellsTo_in F n i hl
        exact ⟨k, by rw [rd_app_l _ _ hl, h1], by omega⟩
      · have : i = (F.cellsTo n).length := by simp at h; omega
        subst this
        exact ⟨n, rd_app_r _ _, by omega⟩
    case isFalse hx =>
      rw [if_neg hx]
      obtain ⟨k, h1, h2⟩ := cellsTo_in F n i h
      exact ⟨k, h1, by omega⟩

end Go.Proofs.YtfeniekapmbjjaaDoor

/- The cells of a field for which a closure answers yes, as a set: the walk. No condition but that the numbers are within their kinds, and what the closure answers. -/
namespace Go.Proofs.YtfeniekapmbjjaaDoor
open Go.RowKit Go.Proofs.YtfeniekapmbjjaaDoorW.PrintWords Go.Proofs.YtfeniekapmbjjaaDoorW.PrintLast Go.Proofs.YtfeniekapmbjjaaDoorW.PrintMore
set_option linter.unusedSimpArgs false
set_option linter.unusedVariables false

end Go.Proofs.YtfeniekapmbjjaaDoor

/- Words of this claim's own: what is gathered over the cells of a field, one after the other, is what is gathered over all numbers. No program. No condition. -/
namespace Go.Proofs.YtfeniekapmbjjaaDoor
open Go.RowKit Go.Proofs.YtfeniekapmbjjaaDoorW.PrintWords
set_option linter.unusedSimpArgs false
set_option linter.unusedVariables false

section
variable {α : Type}
def foldN (f : α → Nat → α) (a : α) : Nat → α
  | 0 => a
  | i + 1 => f (foldN f a i) i
def foldIn (f : α → Nat → α) (a : α) (cs : List Int) : Nat → α
  | 0 => a
  | j + 1 => f (foldIn f a cs j) (rd cs (j : Int)).toNat
theorem foldIn_app (f : α → Nat → α) (a : α) (cs ds : List Int) : ∀ j, j ≤ cs.length → foldIn f a (cs ++ ds) j = foldIn f a cs j
  | 0, _ => rfl
  | j + 1, h => by
    simp only [foldIn]
    rw [foldIn_app f a cs ds j (by omega), rd_app_l cs ds (by omega)]
theorem foldN_same {f g : α → Nat → α} {a : α} : ∀ {n}, (∀ i, i < n → ∀ s, f s i = g s i) → foldN f a n = foldN g a n
  | 0, _ => rfl
  | n + 1, h => by
    simp only [foldN]
    rw [foldN_same (n := n) (fun i hi => h i (by omega)), h n (by omega)]
theorem fold_cells (F : Fld) (f : α → Nat → α) (a : α) : ∀ n, foldIn f a (F.cellsTo n) (F.cellsTo n).length = foldN (fun s i => if F.has (i : Int) = true then f s i else s) a n
  | 0 => rfl
  | n + 1 => by
    have ih := fold_cells F f a n
    cases hx : F.has (n : Int)
    · have e : F.cellsTo (n + 1) = F.cellsTo n := by simp [Fld.cellsTo, hx]
      rw [e, ih]
      simp [foldN, hx]
    · have e : F.cellsTo (n + 1) = F.cellsTo n ++ [(n : Int)] := by simp [Fld.cellsTo, hx]
      rw [e, List.length_append]
      show foldIn f a (F.cellsTo n ++ [(n : Int)]) ((F.cellsTo n).length + 1) = _
      simp only [foldIn, foldN]
      rw [foldIn_app f a _ _ _ (Nat.le_refl _), ih, rd_app_r, Int.toNat_natCast, if_pos hx]
end

/-- Two arrays of whole numbers held against each other, in a plain region. -/
theorem wpList_neq_row {P : Program} {ops : Array Oper} {Q : Exit → Act → World → Prop} {rest : List Oper} {oi : Oper} {a : Act} {w : World} (hg : oi.guard = none) (N : Option Tmp) (hd : oi.dst = N) (t t' : TypeId) (x y : Operand) (ho : oi.op = .binOp .neq t x y t')
    (e : TypeId) (k : IntKind) (n : Nat) (ht : P.underlying t = some (.array n e)) (he : P.underlying e = some (.int k)) (hsz : ∀ w, (sizeOf e).run P w = .ok 1 w) (hm : P.eqGuardType P.depth t = false)
    (xs ys : List Int) (hx : xs.length = n) (hy : ys.length = n) (hvx : a.eval x = .agg (vrow k xs).toArray) (hvy : a.eval y = .agg (vrow k ys).toArray)
    (h : wpList P ops Q rest (a.put N (.bool (!(xs == ys)))) w) : wpList P ops Q (oi :: rest) a w := by
  subst hd
  refine Kd.event_run hg ?_ h
  unfold execOp
  simp only [ho, hvx, hvy]
  simp [run_eqGuard_agg, hm, run_neq_row w t e k n ht he hsz xs ys hx hy]

theorem below_grown_none {w w1 : World} (h : w.grownBy w1 none) : Below w.heap.size w w1 := ⟨h.os, h.tape, h.output, h.size, fun i hi => h.block i hi (by simp)⟩
/-- A slice of numbers, read at a place. -/
theorem made_at {w : World} {b n c : Nat} {A : Option Addr} {e : TypeId} {k : IntKind} {ok : Nat → Prop} {xs : List Int} (h : Kd.R (Kd.int k) e w b ok (.slice A n c) xs) (i : Nat) (hi : i < xs.length) : ∃ ad : Addr, A = some ad ∧ w.cell? (ad.add i) = some (.int k (rd xs i)) := by
  obtain ⟨rfl, _, hC⟩ := Kd.R_reads' h
  obtain ⟨ad, rfl, hc⟩ := Kd.at_int hC (i : Int) (by omega) (by omega)
  rw [Int.toNat_natCast] at hc
  exact ⟨ad, rfl, hc⟩
/-- The numbers of the cells are numbers below 100. -/
theorem cells_at (F : Fld) {i : Nat} (h : i < (F.cellsTo 100).length) : ∃ k : Nat, rd (F.cellsTo 100) (i : Int) = (k : Int) ∧ k < 100 := cellsTo_in F 100 i h
end Go.Proofs.YtfeniekapmbjjaaDoor

/- The code of a field and of whether numbers are as told, by the program: whether they are is asked of a closure. No condition but that the numbers are within their kinds, and what the closure answers. -/
namespace Go.Proofs.YtfeniekapmbjjaaDoor
open Go.RowKit
set_option linter.unusedSimpArgs false
set_option linter.unusedVariables false

noncomputable def codeF (F : Fld) (q : Bool) : Int := if F.valid = true then (if q = true then 0 else 2) else 1
theorem codeF_0 {F : Fld} (h : F.valid = true) : codeF F true = 0 := by unfold codeF; rw [if_pos h]; rfl
theorem codeF_2 {F : Fld} (h : F.valid = true) : codeF F false = 2 := by unfold codeF; rw [if_pos h]; rfl
theorem codeF_1 {F : Fld} (h : F.valid = false) (q : Bool) : codeF F q = 1 := by unfold codeF; rw [if_neg (by rw [h]; decide)]

end Go.Proofs.YtfeniekapmbjjaaDoor

/- Words of this claim's own: slices of the call's own, apart from each other. No condition. -/
namespace Go.Proofs.YtfeniekapmbjjaaDoor
open Go.RowKit Go.Proofs.YtfeniekapmbjjaaDoorW.PrintWords Go.Proofs.YtfeniekapmbjjaaDoorW.PrintLast
set_option linter.unusedSimpArgs false
set_option linter.unusedVariables false

section
variable {α β : Type} {d : Kd α} {d' : Kd β} {e e' b : Nat} {ok ok' : Nat → Prop} {w0 w w' : World} {v u : Value} {xs : List α} {ys : List β}
/-- A slice of the call's own, made since w0. -/
abbrev Ow (d : Kd α) (e : Nat) (w0 w : World) (v : Value) (xs : List α) : Prop := Kd.R d e w w0.heap.size (fun k => some k = v.ownBlock) v xs
/-- What is written through v leaves u alone. -/
def Apart (v u : Value) : Prop := ∀ k, some k = u.ownBlock → ¬ some k = v.ownBlock
theorem ow_new (hE : d.E = []) (h : Kd.R d e w' w.heap.size ok v xs) (hb : Below w0.heap.size w0 w) : Ow d e w0 w' v xs := Kd.R_lower (Kd.R_tight hE h) hb.size
theorem ow_below (h : Ow d e w0 w v xs) (hb : Below w.heap.size w w') : Ow d e w0 w' v xs := Kd.R_below h hb
theorem apart_new (h : Kd.R d e w' w.heap.size ok v xs) (hu : Kd.R d' e' w b ok' u ys) : Apart v u ∧ Apart u v :=
  ⟨fun k hk hv => by have h1 := Kd.R_base h k hv.symm; have h2 := Kd.R_lt hu k hk.symm; omega,
   fun k hv hk => by have h1 := Kd.R_base h k hv.symm; have h2 := Kd.R_lt hu k hk.symm; omega⟩
theorem ow_kept (h : Ow d e w0 w u xs) (hap : Apart v u) (hk : Go.Proofs.YtfeniekapmbjjaaDoorW.PrintWords.Kept w w' (fun k => some k = v.ownBlock)) : Ow d e w0 w' u xs := Kd.R_kept h hk hap
theorem ow_tight (hE : d.E = []) (h : Kd.R d e w w0.heap.size ok v xs) : Ow d e w0 w v xs := Kd.R_tight hE h
theorem ow_C {A : Option Addr} {n c : Nat} (h : Ow d e w0 w (.slice A n c) xs) : Kd.C d w A xs.length xs := (Kd.R_reads' h).2.2
theorem ow_cap {A : Option Addr} {c : Nat} (h : Ow d e w0 w (.slice A xs.length c) xs) : xs.length ≤ c := (Kd.R_reads' h).2.1
end

/-- An append in a region that draws its order. -/
theorem la_append {P : Program} {ops : Array Oper} {Q : Exit → Act → World → Prop} {S : World → Prop} {i : Nat} {o : Oper} {f : Nat} {l : Array Bool} {a : Act} {α : Type} (l' : Array Bool) (N : Option Tmp) (hi : ops[i]? = some o) (hN : o.dst = N) (hc : Go.Proofs.YtfeniekapmbjjaaDoorW.PrintLast.readyB .any ops l l' i = true)
    (d : Kd α) {w0 W : World} (base : Nat) (hw : Region.wanted o (yielded ops a.tmps) = true) (s x : Operand) (t e : TypeId) (z : Value) (bytes : Nat)
    (ho : o.op = .call { callee := .builtin .append, args := #[s, x], argTypes := #[t, t] })
    (ht : P.underlying t = some (.slice e)) (hinfo : (P.info? e).map (fun i => (i.zero, i.size, i.bytes)) = some (some z, d.sz, bytes)) (hz : z.cells.size = d.sz) (hs0 : 0 < d.sz) (hb0 : 0 < bytes)
    (v : Value) (xs : List α) (p : α) (cs : List Value) (ok okp : Nat → Prop) (hs : a.eval s = v) (hx : a.eval x = .slice (some ⟨W.heap.size, 0, none⟩) 1 1) (hp : d.M W base okp p cs) (hokp : ∀ k, okp k → ok k ∧ some k ≠ v.ownBlock) (hfresh : ∀ k, W.heap.size ≤ k → ok k)
    (HO : d.R e W base ok v xs) (HB : Below base w0 W) (hbase : base ≤ W.heap.size) (hl : (xs.length + 1) * bytes ≤ 140737488355328)
    (h : ∀ v1 w1, d.R e w1 base ok v1 (xs ++ [p]) → Below base w0 w1 → W.grownBy w1 v.ownBlock → (v1.ownBlock = v.ownBlock ∨ ∃ b, v1.ownBlock = some b ∧ W.heap.size ≤ b) → S w1 ∧ wpAnyLast P .any ops Q S [] f l' (a.put N v1) w1) :
    wpAnyLast P .any ops Q S [] (f + 1) l a (W.alloc (.cells cs.toArray e)) :=
  la_one l' N hi hN hc hw fun K hK => by
    have key := Kd.R_append_step (Kc := K) (Q := Q) (P := P) (ops := ops) (a := a) (o := o) d base hw s x t e z bytes ho ht hinfo hz hs0 hb0 v xs p cs ok okp hs hx hp hokp hfresh HO HB hbase hl (fun v1 w1 h1 h2 h3 h4 => by
      obtain ⟨hS, hk⟩ := h v1 w1 h1 h2 h3 h4
      rw [hN]
      exact hK _ _ hS hk)
    rw [if_pos hw] at key
    exact key
end Go.Proofs.YtfeniekapmbjjaaDoor

/- Words of this claim's own: steps of a region that draws its order, in short. No condition. -/
namespace Go.Proofs.YtfeniekapmbjjaaDoor
open Go.RowKit
section
variable {P : Program} {ops : Array Oper} {C : World → Prop} {Qa : Act → Prop} {rest : List Oper} {oi : Oper} {a : Act}
/-- Two rows held against each other. -/
theorem q_eql_row (N : Option Tmp) (hd : oi.dst = N) (hw : Region.wanted oi (yielded ops a.tmps) = true) (t u : TypeId) (x y : Operand) (ho : oi.op = .binOp .eql t x y u) (e : TypeId) (k : IntKind) (n : Nat) (ht : P.underlying t = some (.array n e)) (he : P.underlying e = some (.int k)) (hsz : ∀ w, (sizeOf e).run P w = .ok 1 w) (hm : P.eqGuardType P.depth t = false)
    (xs ys : List Int) (hx : xs.length = n) (hy : ys.length = n) (hvx : a.eval x = .agg (vrow k xs).toArray) (hvy : a.eval y = .agg (vrow k ys).toArray) (h : wpQuiet P ops C Qa rest (a.put N (.bool (xs == ys)))) : wpQuiet P ops C Qa (oi :: rest) a := by
  refine q_value N hd hw _ (fun w hC => ?_) h
  unfold execOp
  simp only [ho, hvx, hvy]
  simp [run_eqGuard_agg, hm, run_eql_row w t e k n ht he hsz xs ys hx hy]
end
end Go.Proofs.YtfeniekapmbjjaaDoor
