/- Strings built, joined and written in decimal, by the library's functions: contracts in this claim's words. No condition but those that each theorem names. -/
import Derived.Test.YtfeniekapmbjjaaDoorSh
import Derived.Test.YtfeniekapmbjjaaDoorTX
import Derived.Test.YtfeniekapmbjjaaDoorGC
import Derived.Test.YtfeniekapmbjjaaDoorWWords
import Derived.Test.YtfeniekapmbjjaaDoorWMore
import Derived.Test.YtfeniekapmbjjaaDoorWLast
import Derived.WalkSmall
import Derived.Lib.AppendIntMem
namespace Go.Proofs.YtfeniekapmbjjaaDoor
open Go.RowKit Go.Proofs.YtfeniekapmbjjaaDoorW.PrintWords Go.Proofs.YtfeniekapmbjjaaDoorW.PrintLast Go.Proofs.YtfeniekapmbjjaaDoorW.PrintMore
set_option linter.unusedSimpArgs false
set_option linter.unusedVariables false

/-- A builder of the call's own, in block b, that holds s. -/
def Bld (b : Nat) (s : ByteArray) (w : World) : Prop := Lib.IsBuilder 50 5 b b (Lib.byteCells s.data.toList) w
theorem Bld.fresh (w : World) : Bld w.heap.size emptyB (w.alloc (.cells #[.pointer none, .slice none 0 0] 50)) := Lib.fresh_isBuilder 50 5 w
theorem bat_below {b : Nat} {p : Value} {bs : List Value} {w w' : World} (h : Lib.BuilderAt 50 5 b b p bs w) (hb : Below w.heap.size w w') : Lib.BuilderAt 50 5 b b p bs w' := by
  obtain ⟨h1, v, h2, h3, h4⟩ := h
  have hlt : b < w.heap.size := by
    rcases Nat.lt_or_ge b w.heap.size with h | h
    · exact h
    · rw [Array.getElem?_eq_none h] at h2; cases h2
  exact ⟨h1, v, (hb.block b hlt).trans h2, own_move h3 (fun k hk => hb.block k (own_lt h3 k hk)), h4⟩
theorem Bld.below {b : Nat} {s : ByteArray} {w w' : World} (h : Bld b s w) (hb : Below w.heap.size w w') : Bld b s w' := by
  rcases h with h | h
  · exact .inl (bat_below h hb)
  · exact .inr (bat_below h hb)
theorem Bld.lt {b : Nat} {s : ByteArray} {w : World} (h : Bld b s w) : b < w.heap.size := by
  have key : ∀ {p : Value} {bs : List Value}, Lib.BuilderAt 50 5 b b p bs w → b < w.heap.size := fun h => by
    obtain ⟨h1, v, h2, h3, h4⟩ := h
    rcases Nat.lt_or_ge b w.heap.size with h | h
    · exact h
    · rw [Array.getElem?_eq_none h] at h2; cases h2
  rcases h with h | h
  · exact key h
  · exact key h
theorem write_any (b : Nat) (s t : ByteArray) (w : World) (h : Bld b s w) (hl : s.size + t.size ≤ 140737488355328) :
    Calls Tryd.prog 19 #[.pointer (some ⟨b, 0, none⟩), .string t] w fun e w' => e = .returned (.tuple #[.int .i64 t.size, .nilIface]) ∧ Bld b (s ++ t) w' ∧ Below b w w' := by
  refine (Tryd.Builder_WriteString b b (Lib.byteCells s.data.toList) t w h (by rw [Lib.byteCells_length, ← Lib.size_eq]; exact hl) (Nat.le_of_lt h.lt)).mono ?_
  rintro e w' ⟨rfl, h1, h2⟩
  refine ⟨rfl, .inr ?_, h2⟩
  have e1 : Lib.byteCells (s ++ t).data.toList = Lib.byteCells s.data.toList ++ Lib.strCells t := by
    rw [Lib.strCells_eq, ← Lib.byteCells_append]
    simp
  rw [e1]
  exact h1
theorem string_any (b : Nat) (s : ByteArray) (w : World) (h : Bld b s w) :
    Calls Tryd.prog 21 #[.pointer (some ⟨b, 0, none⟩)] w fun e w' => e = .returned (.string s) ∧ Below b w w' := by
  by_cases h0 : s.data.toList = []
  · have h' : Lib.IsBuilder 50 5 b b [] w := by
      have h1 : Lib.IsBuilder 50 5 b b (Lib.byteCells s.data.toList) w := h
      rw [h0] at h1
      exact h1
    have es : s = ⟨#[]⟩ := ba_eq (by rw [h0])
    rw [es]
    exact Tryd.Builder_String_empty b b w h' (Nat.le_of_lt h.lt)
  · refine (Tryd.Builder_String b b s.data.toList w h h0).mono ?_
    rintro e w' ⟨rfl, hb⟩
    exact ⟨by simp, hb⟩
theorem join_any (A : Option Addr) (c : Nat) (l : List ByteArray) (sep : ByteArray) (w : World) (hr : Kd.C Kd.string w A l.length l) (hc : l.length ≤ c) (hn : l.length ≤ 1000000) (hl : (joined l sep).size ≤ 140737488355328) :
    Calls Tryd.prog 20 #[.slice A l.length c, .string sep] w fun e w' => e = .returned (.string (joined l sep)) ∧ Below w.heap.size w w' := by
  cases l with
  | nil =>
    refine (Tryd.strings_Join_none A c sep w).mono ?_
    rintro e w' ⟨rfl, rfl⟩
    exact ⟨rfl, Below.refl _ _⟩
  | cons x xs =>
    obtain ⟨ad, rfl, hcell⟩ := hr.2.2 (by simp)
    have hcells : ∀ (j : Nat) y, (x :: xs)[j]? = some y → w.cell? (ad.add j) = some (.string y) := fun j y hj => by
      obtain ⟨cs, h1, h2, h3⟩ := hcell j y hj
      have h2 : cs = [.string y] := h2
      subst h2
      have := h3 0 (.string y) rfl
      have e1 : j * Kd.string.sz + 0 = j := by show j * 1 + 0 = j; omega
      rw [e1] at this
      exact this
    have h0 := hcells 0 x rfl
    have ea : ad.add 0 = ad := rfl
    rw [ea] at h0
    obtain ⟨b, o, sp⟩ := ad
    have hs : sp = none := by
      unfold World.cell? at h0
      cases sp with
      | none => rfl
      | some v =>
        simp only at h0
        split at h0
        · simp at h0
        · cases h0
    subst hs
    have hb : b < w.heap.size := by
      rcases Nat.lt_or_ge b w.heap.size with h | h
      · exact h
      · unfold World.cell? at h0
        simp only [Array.getElem?_eq_none h] at h0
        cases h0
    refine Tryd.strings_Join b o c (x :: xs) sep w (fun j y hj => ?_) hb (by omega) hc (by simpa [joined, ByteArray.size] using hl)
    have := hcells j y hj
    unfold Addr.add at this
    by_cases e : j = 0
    · subst e
      rw [if_pos rfl] at this
      exact this
    · rw [if_neg e] at this; exact this

/-! ### decimals -/
theorem gTab : Tryd.prog.globalNamed "internal/strconv.uint64pow10" = some 1 := by kernel_rfl
/-- The library's table of powers of ten. -/
def TabW (w : World) : Prop := Lib.TabIs Tryd.prog w "internal/strconv.uint64pow10" .u64 Lib.pow10Tab
theorem TabW.below {w w1 : World} (h : TabW w) (hb : Below w.heap.size w w1) : TabW w1 := by
  have hlt : 1 < w.heap.size := by
    have h1 := h
    unfold TabW Lib.TabIs World.var? at h1
    simp only [gTab, Option.bind_some] at h1
    rcases Nat.lt_or_ge 1 w.heap.size with h' | h'
    · exact h'
    · rw [Array.getElem?_eq_none h'] at h1; cases h1
  exact var?_below hb gTab hlt h
theorem formatT_any (n : Int) (h0 : 0 ≤ n) (h1 : n ≤ 1000000) (w : World) (hT : TabW w) : Calls Tryd.prog 39 #[.int .i64 n, .int .i64 10] w fun e w' => e = .returned (.string (dec n)) ∧ Below w.heap.size w w' := by
  refine (Tryd.strconv_FormatInt_10 n (by omega) (by omega) w hT).mono ?_
  rintro e w' ⟨rfl, k, os, rfl⟩
  have e : Lib.itoa n = Lib.decDigits n.toNat := by unfold Lib.itoa; rw [if_neg (by omega)]
  exact ⟨by rw [e]; rfl, Lib.below_grow _ _ (Nat.le_refl _) _ _⟩
theorem decimal16_any (i : Int) (h0 : 0 ≤ i) (h1 : i ≤ 1000) (w : World) (hT : TabW w) : Calls Tryd.prog 42 #[.int .i16 i] w fun e w' => e = .returned (.string (dec i)) ∧ Below w.heap.size w w' := by
  have e : wrap64 i = i := by unfold wrap64; omega
  have hc := fun w1 (h : Below w.heap.size w w1) => (formatT_any i h0 (by omega) w1 (hT.below h)).mono (R' := fun e w' => e = .returned (.string (dec i)) ∧ Below w.heap.size w w') (fun e w' ⟨a, b⟩ => ⟨a, h.trans (b.mono h.size)⟩)
  go_enter Tryd.func42, Tryd.ntmps42
  go_wp2_with (go_at_call 39; refine (hc _ (by repeat (first | (with_reducible first | exact Below.refl _ _ | apply below_alloc | apply pw_below_drewN | apply below_drew1)))).mono ?_; rintro e w' ⟨rfl, hb⟩)
  go_ret
  exact ⟨rfl, hb⟩
theorem decimal8_any (i : Int) (h0 : 0 ≤ i) (h1 : i < 100) (w : World) : Calls Tryd.prog 18 #[.int .i8 i] w fun e w' => e = .returned (.string (dec i)) ∧ Below w.heap.size w w' := by
  have e : wrap64 i = i := by unfold wrap64; omega
  have hc := Tryd.strconv_FormatInt_10_small i.toNat (by omega)
  rw [Int.toNat_of_nonneg h0] at hc
  go_enter Tryd.func18, Tryd.ntmps18
  go_wp2_with (go_at_call 39; refine (hc _).mono ?_; rintro e w' ⟨rfl, rfl⟩)
  go_ret
  exact ⟨rfl, by repeat (first | (with_reducible first | exact Below.refl _ _ | apply below_alloc | apply pw_below_drewN | apply below_drew1))⟩
theorem info_str : (Tryd.prog.info? 9).map (fun i => (i.zero, i.size, i.bytes)) = some (some (.string ⟨#[]⟩), 1, 16) := by kernel_rfl
/-- Strings in a slice of the call's own. -/
def MadeS (w w' : World) (xs : List ByteArray) (v : Value) : Prop := Kd.R Kd.string 9 w' w.heap.size (fun _ => True) v xs
end Go.Proofs.YtfeniekapmbjjaaDoor
