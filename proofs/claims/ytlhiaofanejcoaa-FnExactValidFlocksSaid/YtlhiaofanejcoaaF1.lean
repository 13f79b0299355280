/- What small functions of the program and of the reference come to: bounds, cells of a field, arguments copied. No condition but those that each theorem names. -/
import Derived.Test.YtlhiaofanejcoaaProg
import Derived.Test.YtlhiaofanejcoaaB
import Derived.KernelRfl
import Derived.Lib.Hide
import Derived.Deep.QuietTactic
import Derived.BigQuiet
namespace Go.Proofs.Ytlhiaofanejcoaa
open Go.RowKit
set_option linter.unusedSimpArgs false
set_option linter.unusedVariables false

def inB (a b c : Int) : Bool := decide (b ≤ a) && decide (a ≤ c)
theorem inB_iff {a b c : Int} : inB a b c = true ↔ b ≤ a ∧ a ≤ c := by unfold inB; simp

theorem within_any (a b c : Int) (w : World) : Calls Try.prog 75 #[.int .i64 a, .int .i64 b, .int .i64 c] w fun e w' => e = .returned (.bool (inB a b c)) ∧ w = w' := by
  unfold inB
  by_cases h : b ≤ a
  · have hb : decide (b ≤ a) = true := decide_eq_true h
    rw [hb]
    go_enter Try.func75, Try.ntmps75
    go_wp2
    go_ret
    exact ⟨by simp, rfl⟩
  · have hb : decide (b ≤ a) = false := decide_eq_false h
    rw [hb]
    go_enter Try.func75, Try.ntmps75
    go_wp2
    go_ret
    exact ⟨by simp, rfl⟩

theorem in_any (a b c : Int) (w : World) : Calls Try.prog 74 #[.int .i64 a, .int .i64 b, .int .i64 c] w fun e w' => e = .returned (.bool (inB a b c)) ∧ w = w' := by
  unfold inB
  by_cases h : b ≤ a
  · have hb : decide (b ≤ a) = true := decide_eq_true h
    rw [hb]
    go_enter Try.func74, Try.ntmps74
    go_wp2
    go_ret
    exact ⟨by simp, rfl⟩
  · have hb : decide (b ≤ a) = false := decide_eq_false h
    rw [hb]
    go_enter Try.func74, Try.ntmps74
    go_wp2
    go_ret
    exact ⟨by simp, rfl⟩

/-- A field's numbers. -/
structure Fld where
  wide : Int
  high : Int
  kinds : List Int
  seeds : List Int
/-- Each is within its kind. -/
structure Fld.Ok (F : Fld) : Prop where
  w0 : -128 ≤ F.wide
  w1 : F.wide ≤ 127
  h0 : -128 ≤ F.high
  h1 : F.high ≤ 127
  kl : F.kinds.length = 100
  sl : F.seeds.length = 100
  k : ∀ z ∈ F.kinds, 0 ≤ z ∧ z ≤ 255
  s : ∀ z ∈ F.seeds, -32768 ≤ z ∧ z ≤ 32767

def Fld.vals (F : Fld) : List Value := .int .i8 F.wide :: .int .i8 F.high :: (F.kinds.map (Value.int .u8) ++ F.seeds.map (Value.int .i16))
theorem Fld.Ok.len {F : Fld} (h : F.Ok) : F.vals.length = 202 := by simp [Fld.vals, h.kl, h.sl]
theorem Fld.one (F : Fld) : ∀ v ∈ F.vals, v.oneCell' = true := by
  intro v hv
  simp only [Fld.vals, List.mem_cons, List.mem_append] at hv
  rcases hv with rfl | rfl | hv | hv
  · rfl
  · rfl
  · exact one_ints _ _ v hv
  · exact one_ints _ _ v hv

/-- Block b holds the field F. -/
abbrev IsF (w : World) (b : Nat) (F : Fld) : Prop := Blk w b F.vals 30
section
variable {w w' : World} {b B : Nat} {F : Fld}
theorem IsF.lt (h : IsF w b F) : b < w.heap.size := Blk.lt h
theorem IsF.below (h : IsF w b F) (hb : Below B w w') (hg : b < B) : IsF w' b F := Blk.below h hb hg
theorem IsF.below' (h : IsF w b F) (hb : Below w.heap.size w w') : IsF w' b F := Blk.below h hb h.lt
theorem IsF.alloc (h : IsF w b F) (o : Obj) : IsF (w.alloc o) b F := Blk.alloc h o
theorem IsF.drewN (h : IsF w b F) (n : Nat) : IsF (w.drewN n) b F := h
theorem IsF.c0 (h : IsF w b F) : w.cell? ⟨b, 0, none⟩ = some (.int .i8 F.wide) := Blk.cell h (by simp [Fld.vals])
theorem IsF.c1 (h : IsF w b F) : w.cell? ⟨b, 1, none⟩ = some (.int .i8 F.high) := Blk.cell h (by simp [Fld.vals])

/-- The kind, the seeds of a number. -/
def Fld.kind (F : Fld) (i : Nat) : Int := F.kinds.getD i 0
def Fld.seed (F : Fld) (i : Nat) : Int := F.seeds.getD i 0
theorem Fld.Ok.kb (h : F.Ok) (i : Nat) : 0 ≤ F.kind i ∧ F.kind i ≤ 255 := by
  unfold Fld.kind
  rw [List.getD_eq_getElem?_getD]
  rcases Nat.lt_or_ge i F.kinds.length with hl | hl
  · rw [List.getElem?_eq_getElem hl]
    exact h.k _ (List.getElem_mem hl)
  · rw [List.getElem?_eq_none hl]
    exact ⟨Int.le_refl _, by decide⟩
theorem Fld.Ok.sb (h : F.Ok) (i : Nat) : -32768 ≤ F.seed i ∧ F.seed i ≤ 32767 := by
  unfold Fld.seed
  rw [List.getD_eq_getElem?_getD]
  rcases Nat.lt_or_ge i F.seeds.length with hl | hl
  · rw [List.getElem?_eq_getElem hl]
    exact h.s _ (List.getElem_mem hl)
  · rw [List.getElem?_eq_none hl]
    exact ⟨by decide, by decide⟩
theorem Fld.vk (h : F.Ok) {i : Nat} (hi : i < 100) : F.vals[2 + i]? = some (.int .u8 (F.kind i)) := by
  have hl : i < F.kinds.length := by rw [h.kl]; exact hi
  rw [Nat.add_comm]
  simp only [Fld.vals, List.getElem?_cons_succ]
  rw [List.getElem?_append_left (by simpa using hl), List.getElem?_map, List.getElem?_eq_getElem hl]
  simp [Fld.kind, List.getD_eq_getElem?_getD, List.getElem?_eq_getElem hl]
theorem Fld.vs (h : F.Ok) {i : Nat} (hi : i < 100) : F.vals[102 + i]? = some (.int .i16 (F.seed i)) := by
  have hl : i < F.seeds.length := by rw [h.sl]; exact hi
  rw [show 102 + i = (100 + i) + 2 by omega]
  simp only [Fld.vals, List.getElem?_cons_succ]
  rw [List.getElem?_append_right (by simp [h.kl]), List.getElem?_map, List.length_map, h.kl, Nat.add_sub_cancel_left, List.getElem?_eq_getElem hl]
  simp [Fld.seed, List.getD_eq_getElem?_getD, List.getElem?_eq_getElem hl]
theorem IsF.ck (h : IsF w b F) (ho : F.Ok) {i : Nat} (hi : i < 100) : w.cell? ⟨b, 2 + i, none⟩ = some (.int .u8 (F.kind i)) := Blk.cell h (Fld.vk ho hi)
theorem IsF.cs (h : IsF w b F) (ho : F.Ok) {i : Nat} (hi : i < 100) : w.cell? ⟨b, 102 + i, none⟩ = some (.int .i16 (F.seed i)) := Blk.cell h (Fld.vs ho hi)
end

/-- Whether a field has a cell. -/
def Fld.has (F : Fld) (c : Int) : Bool := inB c 0 99 && (decide (c % 10 < F.wide) && decide (c / 10 < F.high))

theorem has_any (F : Fld) (b : Nat) (c : Int) (w : World) (hf : IsF w b F) (ho : F.Ok) :
    Calls Try.prog 89 #[.pointer (some ⟨b, 0, none⟩), .int .i64 c] w fun e w' => e = .returned (.bool (F.has c)) ∧ w = w' := by
  have hc0 := hf.c0
  have hc1 := hf.c1
  have h1 := ho.w0
  have h2 := ho.w1
  have h3 := ho.h0
  have h4 := ho.h1
  clear hf ho
  unfold Fld.has
  cases hb : inB c 0 99
  · go_enter Try.func89, Try.ntmps89
    go_wp2_with (go_at_call 75; refine (within_any _ _ _ _).mono ?_; rintro e w' ⟨rfl, rfl⟩)
    go_ret
    exact ⟨by simp, rfl⟩
  · obtain ⟨g0, g1⟩ := inB_iff.1 hb
    go_enter Try.func89, Try.ntmps89
    go_wp2_with (go_at_call 75; refine (within_any _ _ _ _).mono ?_; rintro e w' ⟨rfl, rfl⟩)
    all_goals
      go_ret
      exact ⟨by first | (simp [*]; done) | (simp [*]; omega), rfl⟩

theorem is_any (F : Fld) (b : Nat) (c : Int) (w : World) (hf : IsF w b F) (ho : F.Ok) :
    Calls Try.prog 88 #[.pointer (some ⟨b, 0, none⟩), .int .i64 c] w fun e w' => e = .returned (.bool (F.has c)) ∧ w = w' := by
  have hc0 := hf.c0
  have hc1 := hf.c1
  have h1 := ho.w0
  have h2 := ho.w1
  have h3 := ho.h0
  have h4 := ho.h1
  clear hf ho
  unfold Fld.has
  cases hb : inB c 0 99
  · go_enter Try.func88, Try.ntmps88
    go_wp2_with (go_at_call 74; refine (in_any _ _ _ _).mono ?_; rintro e w' ⟨rfl, rfl⟩)
    go_ret
    exact ⟨by simp, rfl⟩
  · obtain ⟨g0, g1⟩ := inB_iff.1 hb
    go_enter Try.func88, Try.ntmps88
    go_wp2_with (go_at_call 74; refine (in_any _ _ _ _).mono ?_; rintro e w' ⟨rfl, rfl⟩)
    all_goals
      go_ret
      exact ⟨by first | (simp [*]; done) | (simp [*]; omega), rfl⟩
end Go.Proofs.Ytlhiaofanejcoaa
