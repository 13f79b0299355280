/- The cells of a field for which a closure answers yes, as a set. No condition but that the numbers are within their kinds. -/
import Derived.Test.YtlhiaofanejcoaaP1
namespace Go.Proofs.Ytlhiaofanejcoaa
open Go.RowKit Go.Proofs.YtlhiaofanejcoaaW.PrintWords Go.Proofs.YtlhiaofanejcoaaW.PrintLast Go.Proofs.YtlhiaofanejcoaaW.PrintMore
set_option linter.unusedSimpArgs false
set_option linter.unusedVariables false

theorem made_cells {w w' : World} {xs : List Int} {v : Value} (h : Made w w' xs v) : ∃ A c, v = .slice A xs.length c ∧ ∀ i : Nat, i < xs.length → ∃ ad : Addr, A = some ad ∧ w.heap.size ≤ ad.block ∧ ad.block < w'.heap.size ∧ w'.cell? (ad.add i) = some (.int .i64 (rd xs i)) := by
  obtain ⟨inner, ho⟩ := Kd.R_own h
  obtain ⟨A, c, rfl, hl, hC⟩ := Kd.R_reads h
  refine ⟨A, c, rfl, fun i hi => ?_⟩
  obtain ⟨ad, rfl, hc⟩ := Kd.at_int hC (i : Int) (by omega) (by omega)
  rw [Int.toNat_natCast] at hc
  have hb : (Value.slice (some ad) xs.length c).ownBlock = some ad.block := rfl
  exact ⟨ad, rfl, own_base ho _ hb, own_lt ho _ hb, hc⟩

/-- All old blocks but g are as they were. -/
structure Kept (g : Nat) (w w' : World) : Prop where
  os : w'.os = w.os
  tape : w'.tape = w.tape
  output : w'.output = w.output
  size : w.heap.size ≤ w'.heap.size
  block : ∀ k, k < w.heap.size → k ≠ g → w'.heap[k]? = w.heap[k]?
theorem Kept.refl (g : Nat) (w : World) : Kept g w w := ⟨rfl, rfl, rfl, Nat.le_refl _, fun _ _ _ => rfl⟩
theorem Kept.set {g : Nat} {w w' : World} (h : Kept g w w') (i : Nat) (v : Value) : Kept g w (w'.setCell ⟨g, i, none⟩ v) :=
  ⟨h.os, h.tape, h.output, by rw [World.size_setCell]; exact h.size, fun k hl hk => (heap_setCell_other w' ⟨g, i, none⟩ k v hk).trans (h.block k hl hk)⟩
theorem Kept.drewN {g : Nat} {w w' : World} (h : Kept g w w') (n : Nat) : Kept g w (w'.drewN n) := ⟨h.os, h.tape, h.output, h.size, h.block⟩
theorem Kept.step {g : Nat} {w w' w'' : World} (h : Kept g w w') (hb : Below w'.heap.size w' w'') : Kept g w w'' :=
  ⟨hb.os.trans h.os, hb.tape.trans h.tape, hb.output.trans h.output, Nat.le_trans h.size hb.size, fun k hl hk => (hb.block k (Nat.lt_of_lt_of_le hl h.size)).trans (h.block k hl hk)⟩
theorem Kept.blk {g k : Nat} {w w' : World} {cs : List Value} {T : TypeId} (h : Kept g w w') (hB : Blk w k cs T) (hk : k ≠ g) : Blk w' k cs T := by
  unfold Blk
  rw [h.block k hB.lt hk]
  exact hB
theorem Kept.cell {g : Nat} {w w' : World} {a : Addr} {v : Value} (h : Kept g w w') (hc : w.cell? a = some v) (hl : a.block < w.heap.size) (ha : a.block ≠ g) : w'.cell? a = some v := by
  rw [← hc]
  unfold World.cell?
  rw [h.block _ hl ha]
theorem Kept.below {g B : Nat} {w0 w w' : World} (h : Kept g w w') (hb : Below B w0 w) (hg : B ≤ g) (hl : B ≤ w.heap.size) : Below B w0 w' :=
  ⟨h.os.trans hb.os, h.tape.trans hb.tape, h.output.trans hb.output, Nat.le_trans hb.size h.size, fun k hk => (h.block k (by omega) (by omega)).trans (hb.block k hk)⟩

/-- The numbers below n of which p holds, as a set. -/
def setTo (p : Nat → Bool) : Nat → List Int
  | 0 => [0, 0]
  | i + 1 => if p i = true then putN (setTo p i) i else setTo p i
theorem setTo_len (p : Nat → Bool) : ∀ i, (setTo p i).length = 2
  | 0 => rfl
  | i + 1 => by
    simp only [setTo]
    split
    · rw [putN_len, setTo_len p i]
    · exact setTo_len p i
theorem setTo_same {p q : Nat → Bool} : ∀ n, (∀ i, i < n → p i = q i) → setTo p n = setTo q n
  | 0, _ => rfl
  | n + 1, h => by
    simp only [setTo]
    rw [setTo_same n (fun i hi => h i (by omega)), h n (by omega)]
/-- The same by a list of numbers. -/
def setIn (p : Nat → Bool) (cs : List Int) : Nat → List Int
  | 0 => [0, 0]
  | j + 1 => if p (rd cs (j : Int)).toNat = true then putN (setIn p cs j) (rd cs (j : Int)).toNat else setIn p cs j
theorem setIn_len (p : Nat → Bool) (cs : List Int) : ∀ i, (setIn p cs i).length = 2
  | 0 => rfl
  | i + 1 => by
    simp only [setIn]
    split
    · rw [putN_len, setIn_len p cs i]
    · exact setIn_len p cs i
theorem rd_app_l (cs ds : List Int) {j : Nat} (h : j < cs.length) : rd (cs ++ ds) (j : Int) = rd cs (j : Int) := by
  simp only [rd, Int.toNat_natCast]
  rw [List.getD_eq_getElem?_getD, List.getD_eq_getElem?_getD, List.getElem?_append_left h]
theorem rd_app_r (cs : List Int) (x : Int) : rd (cs ++ [x]) (cs.length : Int) = x := by
  simp only [rd, Int.toNat_natCast]
  rw [List.getD_eq_getElem?_getD, List.getElem?_append_right (Nat.le_refl _)]
  simp
theorem setIn_app (p : Nat → Bool) (cs ds : List Int) : ∀ j, j ≤ cs.length → setIn p (cs ++ ds) j = setIn p cs j
  | 0, _ => rfl
  | j + 1, h => by
    simp only [setIn]
    rw [setIn_app p cs ds j (by omega), rd_app_l cs ds (by omega)]
theorem set_same (p : Nat → Bool) (F : Fld) : ∀ i, setIn p (F.cellsTo i) (F.cellsTo i).length = setTo (fun j => F.has (j : Int) && p j) i
  | 0 => rfl
  | i + 1 => by
    have ih := set_same p F i
    cases hx : F.has (i : Int)
    · have e : F.cellsTo (i + 1) = F.cellsTo i := by simp [Fld.cellsTo, hx]
      rw [e, ih]
      simp [setTo, hx]
    · have e : F.cellsTo (i + 1) = F.cellsTo i ++ [(i : Int)] := by simp [Fld.cellsTo, hx]
      rw [e, List.length_append]
      show setIn p (F.cellsTo i ++ [(i : Int)]) ((F.cellsTo i).length + 1) = _
      simp only [setIn, setTo]
      rw [setIn_app p _ _ _ (Nat.le_refl _), ih, rd_app_r, Int.toNat_natCast]
      simp [hx]
theorem cellsTo_in (F : Fld) : ∀ n i, i < (F.cellsTo n).length → ∃ k : Nat, rd (F.cellsTo n) (i : Int) = (k : Int) ∧ k < n
  | 0, i, h => by simp [Fld.cellsTo] at h
  | n + 1, i, h => by
    simp only [Fld.cellsTo] at h ⊢
    split at h
    case isTrue hx =>
      rw [if_pos hx]
      by_cases hl : i < (F.cellsTo n).length
      · obtain ⟨k, h1, h2⟩ := cellsTo_in F n i hl
        exact ⟨k, by rw [rd_app_l _ _ hl, h1], by omega⟩
      · have : i = (F.cellsTo n).length := by simp at h; omega
        subst this
        exact ⟨n, rd_app_r _ _, by omega⟩
    case isFalse hx =>
      rw [if_neg hx]
      obtain ⟨k, h1, h2⟩ := cellsTo_in F n i h
      exact ⟨k, h1, by omega⟩

end Go.Proofs.Ytlhiaofanejcoaa
