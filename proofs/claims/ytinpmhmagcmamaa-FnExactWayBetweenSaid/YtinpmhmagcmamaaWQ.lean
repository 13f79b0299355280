/- A queue of cells and a table of how far they are, in memory; a list beside them. No program. No condition but those that each theorem names. -/
import Derived.Test.YtinpmhmagcmamaaWY
import Derived.Test.YtinpmhmagcmamaaG3
import Derived.Test.YtinpmhmagcmamaaEV
namespace Go.Proofs.Ytinpmhmagcmamaa
open Go.RowKit Go.Proofs.YtinpmhmagcmamaaW.PrintWords Go.Proofs.YtinpmhmagcmamaaW.PrintLast Go.Proofs.YtinpmhmagcmamaaW.PrintMore
set_option linter.unusedSimpArgs false
set_option linter.unusedVariables false

def icells (D : Nat → Int) : List Value := (List.range 100).map fun j => .int .i64 (D j)
theorem icells_len (D : Nat → Int) : (icells D).length = 100 := by simp [icells]
theorem icells_get (D : Nat → Int) {j : Nat} (h : j < 100) : (icells D)[j]? = some (.int .i64 (D j)) := by simp [icells, h]
theorem icells_set (D : Nat → Int) {j : Nat} (h : j < 100) (v : Int) : (icells D).set j (.int .i64 v) = icells (WY.upd D j v) := by
  refine List.ext_getElem? fun i => ?_
  rw [List.getElem?_set, icells_len]
  by_cases e : j = i
  · subst e
    rw [if_pos rfl, if_pos h, icells_get _ h]
    simp [WY.upd]
  · rw [if_neg e]
    rcases Nat.lt_or_ge i 100 with hi | hi
    · rw [icells_get _ hi, icells_get _ hi]
      have : i ≠ j := fun h => e h.symm
      simp [WY.upd, this]
    · rw [List.getElem?_eq_none (by rw [icells_len]; exact hi), List.getElem?_eq_none (by rw [icells_len]; exact hi)]
theorem icells_one (D : Nat → Int) : ∀ v ∈ icells D, v.oneCell' = true := by
  intro v hv
  simp only [icells, List.mem_map] at hv
  obtain ⟨j, _, rfl⟩ := hv
  rfl
abbrev kI : Kd Int := Kd.int .i64
/-- A queue of one's own whose block is none of g's. -/
abbrev QR (W : World) (g : Nat) (wr : World) (u : Value) (Q : List Int) : Prop := Kd.R kI 2 wr W.heap.size (fun k => k ≠ g) u Q
/-- A list of one's own whose block is neither g's nor the queue's. -/
abbrev LR (B g : Nat) (wr : World) (u : Value) (v : Value) (L : List Int) : Prop := Kd.R kI 2 wr B (fun k => k ≠ g ∧ some k ≠ u.ownBlock) v L
section
variable {W wr w' : World} {g B : Nat} {u u' v : Value} {Q L : List Int} {D : Nat → Int} {T : TypeId} {cs : List Value}
theorem QR.new (hm : Kd.R kI 2 w' W.heap.size (fun _ => True) v L) (hg : g < W.heap.size) : QR W g w' v L := Kd.R_mono (Kd.R_bound hm) (fun k hk => by have := hk.2.1; omega)
theorem LR.new {w5 : World} (hu : QR W g w5 u Q) (hg : g < w5.heap.size) (hm : Kd.R kI 2 w' w5.heap.size (fun _ => True) v L) : LR w5.heap.size g w' u v L :=
  Kd.R_mono (Kd.R_bound (Kd.R_newR hm hu)) (fun k hk => ⟨by have := hk.2.1; omega, hk.1.2⟩)
theorem QR.cell (h : QR W g wr u Q) (n : Nat) (x : Value) : QR W g (wr.setCell ⟨g, n, none⟩ x) u Q := Kd.R_far h (p := ⟨g, n, none⟩) (fun _ hk => hk) x
theorem LR.cell (h : LR B g wr u v L) (n : Nat) (x : Value) : LR B g (wr.setCell ⟨g, n, none⟩ x) u v L := Kd.R_far h (p := ⟨g, n, none⟩) (fun _ hk => hk.1) x
theorem QR.blk (h : QR W g wr u Q) (hB : Blk wr g cs T) (hg : wr.grownBy w' u.ownBlock) : Blk w' g cs T := by
  have hne : some g ≠ u.ownBlock := Kd.R_away h (fun _ hk => hk)
  exact (hg.block g hB.lt hne).trans hB
theorem LR.app (h : LR B g wr u v L) (hg : wr.grownBy w' u.ownBlock) (hat : u'.ownBlock = u.ownBlock ∨ ∃ b, u'.ownBlock = some b ∧ wr.heap.size ≤ b) : LR B g w' u' v L := Kd.R_after h hg hat
theorem QR.cls {Ls : List (Nat × List Value × TypeId)} {w : World} (h : QR W g wr u Q) (hC : Cls w Ls wr) (hW : ∀ x ∈ Ls, x.1 < W.heap.size) (hg : wr.grownBy w' u.ownBlock) (hb : Below w.heap.size w w') : Cls w Ls w' :=
  ⟨hb, fun x hx => by
    have hB := hC.blk x hx
    have hne : some x.1 ≠ u.ownBlock := fun e => by have := Kd.R_base h _ e.symm; have := hW x hx; omega
    exact (hg.block x.1 hB.lt hne).trans hB⟩
theorem QR.at {A : Option Addr} {n c : Nat} (h : QR W g wr (.slice A n c) Q) {i : Nat} (hi : i < Q.length) : n = Q.length ∧ ∃ ad, A = some ad ∧ wr.cell? (ad.add i) = some (.int .i64 (rd Q (i : Int))) := by
  obtain ⟨hn, _, hC⟩ := Kd.R_reads' h
  obtain ⟨ad, h1, h2⟩ := Kd.at_int hC (i : Int) (by omega) (by omega)
  exact ⟨hn, ad, h1, by simpa using h2⟩
theorem LR.at {A : Option Addr} {n c : Nat} (h : LR B g wr u (.slice A n c) L) {i : Nat} (hi : i < L.length) : n = L.length ∧ ∃ ad, A = some ad ∧ wr.cell? (ad.add i) = some (.int .i64 (rd L (i : Int))) := by
  obtain ⟨hn, _, hC⟩ := Kd.R_reads' h
  obtain ⟨ad, h1, h2⟩ := Kd.at_int hC (i : Int) (by omega) (by omega)
  exact ⟨hn, ad, h1, by simpa using h2⟩
end
theorem infoQ_i64 : (Try.prog.info? 2).map (fun i => (i.zero, i.size, i.bytes)) = some (some (.int .i64 0), 1, 8) := by kernel_rfl
/-- The way between two cells, and the code. -/
noncomputable def wyRes (F : Fld) (s t : Int) : List Int × Int :=
  if codeF F (F.has s && F.has t) = 0 then (if (F.way s && F.way t) = true then (if (WY.bfs F t.toNat 100).2 s.toNat = 0 then ([], 6) else (WY.pathL F (WY.bfs F t.toNat 100).2 s.toNat ((WY.bfs F t.toNat 100).2 s.toNat - 1).toNat, 0)) else ([], 4)) else ([], codeF F (F.has s && F.has t))
theorem codeF_in {F : Fld} {q : Bool} (h : codeF F q = 0) : F.valid = true ∧ q = true := by
  unfold codeF at h
  split at h
  · rename_i hv
    split at h
    · exact ⟨hv, by assumption⟩
    · cases h
  · cases h
theorem wy_code {F : Fld} {s t : Int} (h : codeF F (F.has s && F.has t) ≠ 0) : wyRes F s t = ([], codeF F (F.has s && F.has t)) := by unfold wyRes; rw [if_neg h]
theorem wy_state {F : Fld} {s t : Int} (h : codeF F (F.has s && F.has t) = 0) (hw : (F.way s && F.way t) = false) : wyRes F s t = ([], 4) := by unfold wyRes; rw [if_pos h, if_neg (by rw [hw]; decide)]
theorem wy_none {F : Fld} {s t : Nat} (h : codeF F (F.has (s : Int) && F.has (t : Int)) = 0) (hw : (F.way (s : Int) && F.way (t : Int)) = true) (h0 : (WY.bfs F t 100).2 s = 0) : wyRes F (s : Int) (t : Int) = ([], 6) := by
  unfold wyRes
  rw [Int.toNat_natCast, Int.toNat_natCast]
  rw [if_pos h, if_pos hw, if_pos h0]
theorem wy_way {F : Fld} {s t : Nat} (h : codeF F (F.has (s : Int) && F.has (t : Int)) = 0) (hw : (F.way (s : Int) && F.way (t : Int)) = true) (h0 : (WY.bfs F t 100).2 s ≠ 0) : wyRes F (s : Int) (t : Int) = (WY.pathL F (WY.bfs F t 100).2 s ((WY.bfs F t 100).2 s - 1).toNat, 0) := by
  unfold wyRes
  rw [Int.toNat_natCast, Int.toNat_natCast]
  rw [if_pos h, if_pos hw, if_neg h0]
theorem wyRes_len (F : Fld) (s t : Int) : (wyRes F s t).1.length ≤ 1048576 := by
  unfold wyRes
  split
  · rename_i hc
    split
    · rename_i hw
      split
      · simp
      · rw [Bool.and_eq_true] at hw
        have ht := way_has hw.2
        have hin := inB_iff.1 (has_in ht)
        obtain ⟨n, hn⟩ : ∃ n : Nat, t = (n : Int) := ⟨t.toNat, by omega⟩
        have hI := WY.BInv.bfs (F := F) (t := t.toNat) (by omega) (by rw [hn, Int.toNat_natCast]; rw [hn] at ht; exact ht) 100
        generalize WY.bfs F t.toNat 100 = S at *
        have h1 := hI.hi s.toNat
        have h2 := hI.len
        show (WY.pathL F S.2 s.toNat (S.2 s.toNat - 1).toNat).length ≤ _
        rw [WY.pathL_len]
        omega
    · simp
  · simp
end Go.Proofs.Ytinpmhmagcmamaa
