/- Words of this claim's own: how an argument of whole numbers (a struct, an array, a slice of structs) opens into its numbers. No condition. -/
import Derived.Deep.Slices
import Derived.Deep.Fields
import Derived.ChangeSame
import Derived.OpenShut
import Derived.KernelRfl
namespace Go.Proofs.Ytlhiaofanejcoaa.R
open Go.ChangeShapes Go.WideShapes Go.Deep
set_option linter.unusedSimpArgs false
set_option linter.unusedVariables false

/-- The cells are whole numbers of these kinds, each within its kind. -/
def Ints : List IntKind → List Value → Prop
  | [], [] => True
  | k :: ks, c :: cs => (∃ z, c = .int k z ∧ (Lit.int k z).wf = true) ∧ Ints ks cs
  | _, _ => False

theorem Ints.length : ∀ {ks : List IntKind} {cs : List Value}, Ints ks cs → cs.length = ks.length
  | [], [], _ => rfl
  | [], _ :: _, h => h.elim
  | _ :: _, [], h => h.elim
  | _ :: _, _ :: _, h => by simp [Ints.length h.2]

theorem Ints.cons {k : IntKind} {ks : List IntKind} {cs : List Value} (h : Ints (k :: ks) cs) : ∃ z c, cs = .int k z :: c ∧ (Lit.int k z).wf = true ∧ Ints ks c := by
  cases cs with
  | nil => exact h.elim
  | cons c cs =>
    obtain ⟨⟨z, rfl, hz⟩, h2⟩ := h
    exact ⟨z, cs, rfl, hz, h2⟩

theorem Ints.nil {cs : List Value} (h : Ints [] cs) : cs = [] := by
  cases cs with
  | nil => rfl
  | cons c cs => exact h.elim

theorem Ints.append : ∀ {k1 k2 : List IntKind} {c1 c2 : List Value}, Ints k1 c1 → Ints k2 c2 → Ints (k1 ++ k2) (c1 ++ c2)
  | [], _, [], _, _, h => h
  | [], _, _ :: _, _, h, _ => h.elim
  | _ :: _, _, [], _, h, _ => h.elim
  | _ :: _, _, _ :: _, _, h, h2 => ⟨h.1, Ints.append h.2 h2⟩

theorem Ints.split : ∀ {k1 k2 : List IntKind} {cs : List Value}, Ints (k1 ++ k2) cs → ∃ c1 c2, cs = c1 ++ c2 ∧ Ints k1 c1 ∧ Ints k2 c2
  | [], _, cs, h => ⟨[], cs, rfl, trivial, h⟩
  | _ :: _, _, [], h => h.elim
  | _ :: _, _, c :: _, h => by
    obtain ⟨c1, c2, rfl, h1, h2⟩ := Ints.split h.2
    exact ⟨c :: c1, c2, rfl, ⟨h.1, h1⟩, h2⟩

theorem Ints.same : ∀ {n : Nat} {k : IntKind} {cs : List Value}, Ints (List.replicate n k) cs → ∃ zs : List Int, zs.length = n ∧ cs = zs.map (Value.int k) ∧ ∀ z ∈ zs, (Lit.int k z).wf = true
  | 0, _, [], _ => ⟨[], rfl, rfl, by simp⟩
  | 0, _, _ :: _, h => h.elim
  | _ + 1, _, [], h => h.elim
  | n + 1, k, c :: cs, h => by
    obtain ⟨⟨z, rfl, hz⟩, h2⟩ := h
    obtain ⟨zs, hl, rfl, hw⟩ := Ints.same (n := n) h2
    exact ⟨z :: zs, by simp [hl], rfl, fun y hy => by rcases List.mem_cons.1 hy with rfl | hy; exact hz; exact hw y hy⟩

/-- The kinds of a struct's cells, field behind field. -/
def flatGo (P : Program) (fl : TypeId → Option (List IntKind)) (total : Nat) : Nat → List Field → Option (List IntKind)
  | off, [] => if off = total then some [] else none
  | off, f :: fs => match fl f.type with
    | some l => if f.offset = off ∧ P.cellsOf f.type = l.length then (flatGo P fl total (off + l.length) fs).map (l ++ ·) else none
    | none => none

/-- The kinds of a type's cells, if all of them are whole numbers. -/
def flat (P : Program) : Nat → TypeId → Option (List IntKind)
  | 0, _ => none
  | n + 1, t => match P.underlying t with
    | some (.int k) => some [k]
    | some (.array m e) => match flat P n e with
      | some l => if P.cellsOf e = l.length ∧ P.cellsOf t = m * l.length then some (List.replicate m l).flatten else none
      | none => none
    | some (.struct fs) => flatGo P (flat P n) (P.cellsOf t) 0 fs.toList
    | _ => none

section
variable {H : Type} {enc : TypeId × Value → H} {P : Program} {w : World} {base : Nat} {spare : Nat → Bool} {held : Bool}

theorem chunks {l : List IntKind} : ∀ (m : Nat) (cs : List Value), cs.length = m * l.length → (∀ i, i < m → Ints l ((cs.drop (i * l.length)).take l.length)) → Ints (List.replicate m l).flatten cs
  | 0, cs, hl, _ => by
    have : cs = [] := List.length_eq_zero_iff.1 (by simpa using hl)
    subst this
    exact trivial
  | m + 1, cs, hl, h => by
    have h0 := h 0 (by omega)
    simp only [Nat.zero_mul, List.drop_zero] at h0
    have h1 := chunks (l := l) m (cs.drop l.length) (by rw [List.length_drop, hl, Nat.succ_mul]; omega) (fun i hi => by
      have := h (i + 1) (by omega)
      rw [List.drop_drop]
      rw [Nat.succ_mul, Nat.add_comm] at this
      exact this)
    have h2 := Ints.append h0 h1
    rw [List.take_append_drop] at h2
    rw [List.replicate_succ, List.flatten_cons]
    exact h2

theorem flat_trod : ∀ (n : Nat) {t : TypeId} {ks : List IntKind} {fuel : Nat} {cs : List Value} {x : DataW H × List MemPlace},
    flat P n t = some ks → DataW.trod enc P w base spare held fuel t cs = some x → Ints ks cs
  | 0, _, _, _, _, _, h, _ => by simp [flat] at h
  | n + 1, t, ks, fuel, cs, x, h, ht => by
    unfold flat at h
    split at h
    · rename_i k hu
      obtain rfl := Option.some.inj h
      obtain ⟨z, rfl, _, hz⟩ := DataW.trod_int hu ht
      exact ⟨⟨z, rfl, hz⟩, trivial⟩
    · rename_i m e hu
      split at h
      · rename_i l hl
        split at h
        · rename_i hc
          obtain rfl := Option.some.inj h
          obtain ⟨xs, m', _, _, hlen, hxl, hx⟩ := DataW.trod_array hu ht
          refine chunks m cs (by rw [hlen, hc.2]) (fun i hi => ?_)
          have h1 := hx i hi
          rw [hc.1, List.getElem?_eq_getElem (by omega)] at h1
          exact flat_trod n hl h1
        · cases h
      · cases h
    · rename_i fs hu
      obtain ⟨xs, m', _, _, hlen, hxl, hx⟩ := DataW.trod_struct hu ht
      have key : ∀ (gs : List Field) (off : Nat) (ks : List IntKind), (∀ f ∈ gs, ∃ y, DataW.trod enc P w base spare held m' f.type ((cs.drop f.offset).take (P.cellsOf f.type)) = some y) →
          flatGo P (flat P n) (P.cellsOf t) off gs = some ks → Ints ks (cs.drop off) := by
        intro gs
        induction gs with
        | nil =>
          intro off ks _ hg
          unfold flatGo at hg
          split at hg
          · rename_i ho
            obtain rfl := Option.some.inj hg
            rw [List.drop_eq_nil_iff.2 (by omega)]
            exact trivial
          · cases hg
        | cons f gs ih =>
          intro off ks hf hg
          unfold flatGo at hg
          split at hg
          · rename_i l hl
            split at hg
            · rename_i hc
              rw [Option.map_eq_some_iff] at hg
              obtain ⟨ks', hg, rfl⟩ := hg
              obtain ⟨y, hy⟩ := hf f (by simp)
              have h1 := flat_trod n hl hy
              rw [hc.1, hc.2] at h1
              have h2 := ih (off + l.length) ks' (fun f hf' => hf f (by simp [hf'])) hg
              rw [← List.drop_drop] at h2
              have h3 := Ints.append h1 h2
              rw [List.take_append_drop] at h3
              exact h3
            · cases hg
          · cases hg
      have := key fs.toList 0 ks (fun f hf => by
        obtain ⟨i, hi, rfl⟩ := List.mem_iff_getElem.1 hf
        have hi' : i < fs.size := by simpa using hi
        have h1 := hx i (fs.toList[i]) (by simp [hi'])
        rw [List.getElem?_eq_getElem (by omega)] at h1
        exact ⟨_, h1⟩) h
      simpa using this
    · cases h

/-- A parameter that is a struct or an array of whole numbers. -/
theorem open_flat {r : Reach} {b0 : Nat} {t : TypeId} {ks : List IntKind} {v : Value} {d : DataW H} {p : List MemPlace} (n : Nat) (hf : flat P n t = some ks)
    (hu : (match P.underlying t with | some (.struct _) | some (.array _ _) => true | _ => false) = true) (hv : Value.okWide P w r b0 t v) (h : DataW.Trod enc P w base spare held t v d p) :
    ∃ cs : List Value, v = .agg cs.toArray ∧ Ints ks cs := by
  have hagg : ∃ a, v = .agg a := by
    unfold Value.okWide at hv
    split at hv
    · obtain ⟨cs, rfl, _⟩ := hv; exact ⟨_, rfl⟩
    · obtain ⟨cs, rfl, _⟩ := hv; exact ⟨_, rfl⟩
    · rename_i h1 h2
      split at hu
      · rename_i fs hfs; exact absurd hfs (h1 fs)
      · rename_i m e hfs; exact absurd hfs (h2 m e)
      · cases hu
  obtain ⟨a, rfl⟩ := hagg
  obtain ⟨fuel, hfu⟩ := h
  exact ⟨a.toList, by simp, flat_trod n hf hfu⟩

/-- A parameter that is a slice of structs of whole numbers: its elements' cells. -/
theorem open_rows {t e : TypeId} {ks : List IntKind} {fuel : Nat} {cs : List Value} {x : DataW H × List MemPlace} (n : Nat) (ht : P.underlying t = some (.slice e)) (hf : flat P n e = some ks) (hC : P.cellsOf e = ks.length)
    (h : DataW.trod enc P w base spare held fuel t cs = some x) :
    (cs = [.slice none 0 0]) ∨
    ∃ (a : Addr) (len cap : Nat), cs = [.slice (some a) len cap] ∧ len ≤ cap ∧ cap ≤ maxLen ∧ ∀ i, i < len → ∃ c : List Value, Ints ks c ∧ ∀ j u, c[j]? = some u → w.cell? (a.add (i * ks.length + j)) = some u := by
  rcases open_slice ht h with h0 | ⟨a, len, cap, m, n', D, Pl, hcs, hb, hl, hm, hmm, hx, hi⟩
  · exact .inl h0.1
  · refine .inr ⟨a, len, cap, hcs, hl, hm, fun i hil => ?_⟩
    have him : i < m := by rw [hmm]; split <;> omega
    obtain ⟨c, hc, ht'⟩ := hi i him
    rw [hC] at hc
    obtain ⟨_, hcl, hat⟩ := World.cells?_some hc
    have hI := flat_trod n hf ht'
    refine ⟨c, hI, fun j u hj => ?_⟩
    have hjl : j < ks.length := by have := (List.getElem?_eq_some_iff.1 hj).1; rw [hI.length] at this; exact this
    rw [← Go.Deep.add_add, hat j hjl, ← hj]
end
end Go.Proofs.Ytlhiaofanejcoaa.R
