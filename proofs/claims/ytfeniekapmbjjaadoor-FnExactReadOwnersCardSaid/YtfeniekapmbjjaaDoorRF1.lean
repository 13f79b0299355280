/- Texts read: strings cut, words read as cells. The model of reading, plain; what the library's and the reference's functions answer. No condition but those that each theorem names. -/
import Derived.Test.YtfeniekapmbjjaaDoorSPN
import Derived.Test.YtfeniekapmbjjaaDoorST3
namespace Go.Proofs.YtfeniekapmbjjaaDoor
open Go.RowKit Go.Proofs.YtfeniekapmbjjaaDoorW.PrintWords Go.Proofs.YtfeniekapmbjjaaDoorW.PrintLast Go.Proofs.YtfeniekapmbjjaaDoorW.PrintMore Go.Proofs.YtfeniekapmbjjaaDoor.PAll
set_option linter.unusedSimpArgs false
set_option linter.unusedVariables false

/-! ### strings in a row -/
structure Strs (w : World) (ad : Addr) (L : List ByteArray) : Prop where
  lt : ad.block < w.heap.size
  c : ∀ i (h : i < L.length), w.cell? (ad.add i) = some (.string L[i])
theorem addr_blockR (ad : Addr) (i : Nat) : (ad.add i).block = ad.block := by unfold Addr.add; split <;> rfl
theorem cell_same {w w1 : World} {a : Addr} {v : Value} (h : w.cell? a = some v) (hb : w1.heap[a.block]? = w.heap[a.block]?) : w1.cell? a = some v := by
  rw [← h]
  unfold World.cell?
  rw [hb]
theorem Strs.below {w w1 : World} {ad : Addr} {L : List ByteArray} (h : Strs w ad L) (hb : Below w.heap.size w w1) : Strs w1 ad L :=
  ⟨Nat.lt_of_lt_of_le h.lt hb.size, fun i hi => cell_same (h.c i hi) (by rw [addr_blockR]; exact hb.block _ h.lt)⟩
theorem Strs.set {w : World} {ad : Addr} {L : List ByteArray} (h : Strs w ad L) {g : Nat} (hg : ad.block ≠ g) (j : Nat) (v : Value) : Strs (w.setCell ⟨g, j, none⟩ v) ad L :=
  ⟨by rw [World.size_setCell]; exact h.lt, fun i hi => cell_same (h.c i hi) (by rw [addr_blockR]; exact heap_setCell_other w ⟨g, j, none⟩ ad.block v hg)⟩
theorem strs_C {w : World} {A : Option Addr} {n : Nat} {L : List ByteArray} (h : Kd.C Kd.string w A n L) (hn : 0 < n) : ∃ ad, A = some ad ∧ Strs w ad L := by
  obtain ⟨ad, rfl, hc⟩ := h.2.2 hn
  have hcells : ∀ (j : Nat) y, L[j]? = some y → w.cell? (ad.add j) = some (.string y) := fun j y hj => by
    obtain ⟨cs, h1, h2, h3⟩ := hc j y hj
    have h2 : cs = [.string y] := h2
    subst h2
    have := h3 0 (.string y) rfl
    have e1 : j * Kd.string.sz + 0 = j := by show j * 1 + 0 = j; omega
    rw [e1] at this
    exact this
  refine ⟨ad, rfl, ⟨?_, fun i hi => hcells i _ (List.getElem?_eq_getElem hi)⟩⟩
  have h0 : 0 < L.length := by rw [h.1]; exact hn
  have := hcells 0 _ (List.getElem?_eq_getElem h0)
  rcases Nat.lt_or_ge ad.block w.heap.size with hl | hl
  · exact hl
  · unfold World.cell? at this
    rw [addr_blockR, Array.getElem?_eq_none hl] at this
    cases this
def cutS (c : UInt8) (s : ByteArray) : List ByteArray := strs (sp c s.data.toList)
theorem cutS_pos (c : UInt8) (s : ByteArray) : 0 < (cutS c s).length := by
  unfold cutS
  rw [strs_len]
  exact List.length_pos_iff.2 (sp_ne c _)
theorem cutS_len (c : UInt8) (s : ByteArray) : (cutS c s).length ≤ s.size + 1 := by
  unfold cutS
  rw [strs_len]
  have := sp_len c s.data.toList
  have e : s.data.toList.length = s.size := by rw [Lib.size_eq]
  omega
theorem cutS_mem (c : UInt8) (s : ByteArray) {p : ByteArray} (h : p ∈ cutS c s) : p.size ≤ s.size := by
  unfold cutS strs at h
  obtain ⟨l, hl, rfl⟩ := List.mem_map.1 h
  have := sp_mem_len c _ l hl
  have e : s.data.toList.length = s.size := by rw [Lib.size_eq]
  show l.toArray.size ≤ _
  simp only [List.size_toArray]
  omega
/-- A call that brings strings in a row of its own. -/
def BringS (w : World) (L : List ByteArray) (e : Ending) (w' : World) : Prop :=
  ∃ ad c, e = .returned (.slice (some ad) L.length c) ∧ L.length ≤ c ∧ Strs w' ad L ∧ w.heap.size ≤ ad.block ∧ Below w.heap.size w w'
theorem bring_of {w w' : World} {L : List ByteArray} {v : Value} (hL : 0 < L.length) (h : Kd.R Kd.string 9 w' w.heap.size (fun _ => True) v L) (hb : Below w.heap.size w w') : BringS w L (.returned v) w' := by
  obtain ⟨A, c, rfl, hc, hC⟩ := Kd.R_reads (Kd.R_bound h)
  obtain ⟨ad, rfl, hs⟩ := strs_C hC hL
  have hbd := (Kd.R_bound h).1
  refine ⟨ad, c, rfl, hc, hs, ?_, hb⟩
  have h2 := h.2
  have hg : (Value.slice (some ad) L.length c).ownBlock = some ad.block := by
    obtain ⟨inner, ho, -⟩ := h2
    rcases ho.2 with ⟨h1, h3⟩ | ⟨g, cap, cur, h1, h3⟩
    · cases h1
    · injection h1 with h4 h5 h6
      injection h4 with h7
      subst h7
      rfl
  exact (hbd _ hg).2.1
theorem iSplit_any (s : ByteArray) (c : UInt8) (hs : s.size ≤ 4000000000) (w : World) (hG : Glob w) :
    Calls Tryd.prog 28 #[.string s, .string ⟨#[c]⟩] w (BringS w (cutS c s)) := by
  refine (split_any s c hs w hG).mono ?_
  rintro e w' ⟨v, rfl, h1, h2⟩
  exact bring_of (cutS_pos c s) h1 h2
theorem sSplit_any (s : ByteArray) (c : UInt8) (hs : s.size ≤ 1048576) (w : World) :
    Calls Tryd.prog 23 #[.string s, .int .u8 c.toNat] w (BringS w (cutS c s)) := by
  obtain ⟨k, hk⟩ := split_ev s c hs
  refine (spec_l01Split.calls k s _ _ w (hk k (Nat.le_refl _))).mono ?_
  rintro e w' ⟨v, rfl, h1, h2⟩
  exact bring_of (cutS_pos c s) h1 h2
/-- A word read as a number, by the reference: it is a decimal up to the bound, or it is none or beyond. -/
theorem sNumber_any (s : ByteArray) (hi : Int) (hh : hi ≤ 1000000) : ∃ r : Int × Bool, (∀ w, Calls Tryd.prog 25 #[.string s] w fun e w' => e = .returned (.tuple #[.int .i64 r.1, .bool r.2]) ∧ Below w.heap.size w w') ∧
    ((∃ v, 0 ≤ v ∧ v ≤ hi ∧ r = (v, true) ∧ parseF s 0 hi = (v, true)) ∨ ((r.2 = false ∨ hi < r.1) ∧ (parseF s 0 hi).2 = false)) := by
  obtain ⟨r, ⟨k, hk⟩, h1, h2⟩ := number_ev s
  refine ⟨r, fun w => ?_, ?_⟩
  · refine (spec_l01Number.calls k s r.1 r.2 w (hk k (Nat.le_refl _))).mono ?_
    rintro e w' ⟨rfl, n, rfl⟩
    exact ⟨rfl, pw_below_drewN (Below.refl _ _) n⟩
  · have no : (∀ v : Int, 0 ≤ v → v ≤ hi → r ≠ (v, true)) → (parseF s 0 hi).2 = false := fun h => parse_no fun v h0 hv e => h v h0 hv (h2 v h0 (by omega) e)
    cases hr : r.2 with
    | false =>
      refine .inr ⟨.inl rfl, no fun v _ _ e => ?_⟩
      rw [e] at hr
      cases hr
    | true =>
      obtain ⟨a, b, c⟩ := h1 hr
      by_cases hb : r.1 ≤ hi
      · refine .inl ⟨r.1, a, hb, ?_, ?_⟩
        · rw [← hr]
        · rw [c]
          exact parse_yes a hb hh
      · refine .inr ⟨.inr (by omega), no fun v _ hv e => ?_⟩
        rw [e] at hb
        exact hb hv

/-! ### fields changed -/
def Fld.setK (F : Fld) (i : Nat) (k : Int) : Fld := { F with kinds := F.kinds.set i k }
def Fld.setS (F : Fld) (i : Nat) (k : Int) : Fld := { F with seeds := F.seeds.set i k }
def Fld.setW (F : Fld) (k : Int) : Fld := { F with wide := k }
theorem Fld.Ok.setK {F : Fld} (h : F.Ok) (i : Nat) {k : Int} (h0 : 0 ≤ k) (h1 : k ≤ 255) : (F.setK i k).Ok :=
  ⟨h.w0, h.w1, h.h0, h.h1, by simp [Fld.setK, h.kl], h.sl, fun z hz => by
    rcases List.mem_or_eq_of_mem_set hz with hz | rfl
    · exact h.k z hz
    · exact ⟨h0, h1⟩, h.s⟩
theorem Fld.Ok.setS {F : Fld} (h : F.Ok) (i : Nat) {k : Int} (h0 : -32768 ≤ k) (h1 : k ≤ 32767) : (F.setS i k).Ok :=
  ⟨h.w0, h.w1, h.h0, h.h1, h.kl, by simp [Fld.setS, h.sl], h.k, fun z hz => by
    rcases List.mem_or_eq_of_mem_set hz with hz | rfl
    · exact h.s z hz
    · exact ⟨h0, h1⟩⟩
theorem Fld.Ok.setW {F : Fld} (h : F.Ok) {k : Int} (h0 : -128 ≤ k) (h1 : k ≤ 127) : (F.setW k).Ok := ⟨h0, h1, h.h0, h.h1, h.kl, h.sl, h.k, h.s⟩
theorem Fld.vals_setW (F : Fld) (k : Int) : F.vals.set 0 (.int .i8 k) = (F.setW k).vals := rfl
theorem Fld.vals_setK {F : Fld} (h : F.Ok) {i : Nat} (hi : i < 100) (k : Int) : F.vals.set (2 + i) (.int .u8 k) = (F.setK i k).vals := by
  have hl : i < (F.kinds.map (Value.int .u8)).length := by simp [h.kl, hi]
  unfold Fld.vals Fld.setK
  rw [Nat.add_comm]
  simp only [List.set_cons_succ]
  rw [List.set_append_left _ _ hl, ← List.map_set]
theorem Fld.vals_setS {F : Fld} (h : F.Ok) {i : Nat} (k : Int) : F.vals.set (102 + i) (.int .i16 k) = (F.setS i k).vals := by
  unfold Fld.vals Fld.setS
  rw [show 102 + i = (100 + i) + 2 by omega]
  simp only [List.set_cons_succ]
  rw [List.set_append_right _ _ (by simp [h.kl]), ← List.map_set]
  simp [h.kl]
/-- Block b holds F; a cell of it is set. -/
theorem isF_setK {w : World} {b : Nat} {F : Fld} (h : IsF w b F) (ho : F.Ok) {i : Nat} (hi : i < 100) (k : Int) : IsF (w.setCell ⟨b, 2 + i, none⟩ (.int .u8 k)) b (F.setK i k) := by
  have := Blk.set h (2 + i) (.int .u8 k)
  rw [Fld.vals_setK ho hi] at this
  exact this
theorem isF_setS {w : World} {b : Nat} {F : Fld} (h : IsF w b F) (ho : F.Ok) {i : Nat} (k : Int) : IsF (w.setCell ⟨b, 102 + i, none⟩ (.int .i16 k)) b (F.setS i k) := by
  have := Blk.set h (102 + i) (.int .i16 k)
  rw [Fld.vals_setS ho] at this
  exact this
theorem isF_setW {w : World} {b : Nat} {F : Fld} (h : IsF w b F) (k : Int) : IsF (w.setCell ⟨b, 0, none⟩ (.int .i8 k)) b (F.setW k) := by
  have := Blk.set h 0 (.int .i8 k)
  rw [Fld.vals_setW] at this
  exact this

/-! ### the model of reading -/
def hB : ByteArray := ⟨#[104]⟩
def pB : ByteArray := ⟨#[112]⟩
def tB : ByteArray := ⟨#[116]⟩
/-- One word into one cell. -/
def cellF (F : Fld) (i : Nat) (s : ByteArray) : Option Fld :=
  if s = hB then some (F.setK i 1) else if s = pB then some (F.setK i 2) else if s = tB then some (F.setK i 3)
  else if (parseF s 0 1000).2 = true then some (F.setS i (parseF s 0 1000).1) else none
/-- A row's words, from the x-th on. -/
def rowF (y : Nat) : Fld → Nat → List ByteArray → Option Fld
  | F, _, [] => some F
  | F, x, s :: l => (cellF F (x + 10 * y) s).bind fun F => rowF y F (x + 1) l
/-- Lines, from the y-th on; strict: each as wide as the one before. -/
def linesF (strict : Bool) : Fld → Nat → List ByteArray → Option Fld
  | F, _, [] => some F
  | F, y, s :: l =>
    if 10 < (cutS 32 s).length ∨ (strict = true ∧ 0 < y ∧ ((cutS 32 s).length : Int) ≠ F.wide) then none
    else (rowF y (F.setW (cutS 32 s).length) 0 (cutS 32 s)).bind fun F => linesF strict F (y + 1) l
def Fld.tall (n : Nat) : Fld := { zfld with high := n }
/-- The reference's reading. -/
def sRead (t : ByteArray) : Option Fld :=
  if (cutS 10 t).getD ((cutS 10 t).length - 1) emptyB ≠ emptyB ∨ (cutS 10 t).length - 1 < 1 ∨ 10 < (cutS 10 t).length - 1 then none
  else linesF true (Fld.tall ((cutS 10 t).length - 1)) 0 ((cutS 10 t).take ((cutS 10 t).length - 1))
/-- A field kept if it is valid and prints the text. -/
noncomputable def keepF (t : ByteArray) (F : Fld) : Option Fld := @ite _ (F.Valid ∧ fldText F = t) (Classical.propDecidable _) (some F) none
theorem keepF_yes {t : ByteArray} {F : Fld} (h : F.Valid) (h2 : fldText F = t) : keepF t F = some F := by unfold keepF; rw [if_pos ⟨h, h2⟩]
theorem keepF_no {t : ByteArray} {F : Fld} (h : ¬ (F.Valid ∧ fldText F = t)) : keepF t F = none := by unfold keepF; rw [if_neg h]
/-- The program's reading. -/
noncomputable def iRead (t : ByteArray) : Option Fld :=
  if 600 < t.size ∨ (cutS 10 t).length - 1 < 1 ∨ 10 < (cutS 10 t).length - 1 then none
  else (linesF false (Fld.tall ((cutS 10 t).length - 1)) 0 ((cutS 10 t).take ((cutS 10 t).length - 1))).bind (keepF t)
theorem cellF_ok {F G : Fld} {i : Nat} {s : ByteArray} (h : F.Ok) (e : cellF F i s = some G) : G.Ok := by
  unfold cellF at e
  split at e
  · cases e; exact h.setK i (by decide) (by decide)
  · split at e
    · cases e; exact h.setK i (by decide) (by decide)
    · split at e
      · cases e; exact h.setK i (by decide) (by decide)
      · split at e
        · rename_i hp
          cases e
          have hb : 0 ≤ (parseF s 0 1000).1 ∧ (parseF s 0 1000).1 ≤ 1000 := by
            unfold parseF at hp ⊢
            split at hp
            · simp only [Bool.and_eq_true, decide_eq_true_eq] at hp
              exact hp.1
            · cases hp
            · cases hp
          exact h.setS i (by omega) (by omega)
        · cases e
end Go.Proofs.YtfeniekapmbjjaaDoor
