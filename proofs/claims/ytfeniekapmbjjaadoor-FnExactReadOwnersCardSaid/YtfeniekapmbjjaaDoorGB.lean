/- Words and small walks of this claim's own, in one file; what each part says stands ahead of it. No condition but those that each theorem names. -/
import Derived.Test.YtfeniekapmbjjaaDoorProg
import Derived.Test.YtfeniekapmbjjaaDoorGA
import Derived.KernelRfl
import Derived.Lib.Hide
import Derived.Deep.QuietTactic
import Derived.BigQuiet
import Derived.ChangeKeysEq
import Derived.Laws.StructEq
import Derived.Stop.BytesEq
import Derived.Deep.Slices
import Derived.Deep.Fields
import Derived.ChangeSame
import Derived.OpenShut
/- What small functions of the program and of the reference come to: bounds, cells of a field, arguments copied. No condition but those that each theorem names. -/
namespace Go.Proofs.YtfeniekapmbjjaaDoor
open Go.RowKit
set_option linter.unusedSimpArgs false
set_option linter.unusedVariables false

def inB (a b c : Int) : Bool := decide (b ≤ a) && decide (a ≤ c)
theorem inB_iff {a b c : Int} : inB a b c = true ↔ b ≤ a ∧ a ≤ c := by unfold inB; simp

theorem within_any (a b c : Int) (w : World) : Calls Tryd.prog 44 #[.int .i64 a, .int .i64 b, .int .i64 c] w fun e w' => e = .returned (.bool (inB a b c)) ∧ w = w' := by
  unfold inB
  by_cases h : b ≤ a
  · have hb : decide (b ≤ a) = true := decide_eq_true h
    rw [hb]
    go_enter Tryd.func44, Tryd.ntmps44
    go_wp2
    go_ret
    exact ⟨by simp, rfl⟩
  · have hb : decide (b ≤ a) = false := decide_eq_false h
    rw [hb]
    go_enter Tryd.func44, Tryd.ntmps44
    go_wp2
    go_ret
    exact ⟨by simp, rfl⟩

theorem in_any (a b c : Int) (w : World) : Calls Tryd.prog 34 #[.int .i64 a, .int .i64 b, .int .i64 c] w fun e w' => e = .returned (.bool (inB a b c)) ∧ w = w' := by
  unfold inB
  by_cases h : b ≤ a
  · have hb : decide (b ≤ a) = true := decide_eq_true h
    rw [hb]
    go_enter Tryd.func34, Tryd.ntmps34
    go_wp2
    go_ret
    exact ⟨by simp, rfl⟩
  · have hb : decide (b ≤ a) = false := decide_eq_false h
    rw [hb]
    go_enter Tryd.func34, Tryd.ntmps34
    go_wp2
    go_ret
    exact ⟨by simp, rfl⟩

/-- A field's numbers. -/
structure Fld where
  wide : Int
  high : Int
  kinds : List Int
  seeds : List Int
/-- Each is within its kind. -/
structure Fld.Ok (F : Fld) : Prop where
  w0 : -128 ≤ F.wide
  w1 : F.wide ≤ 127
  h0 : -128 ≤ F.high
  h1 : F.high ≤ 127
  kl : F.kinds.length = 100
  sl : F.seeds.length = 100
  k : ∀ z ∈ F.kinds, 0 ≤ z ∧ z ≤ 255
  s : ∀ z ∈ F.seeds, -32768 ≤ z ∧ z ≤ 32767

def Fld.vals (F : Fld) : List Value := .int .i8 F.wide :: .int .i8 F.high :: (F.kinds.map (Value.int .u8) ++ F.seeds.map (Value.int .i16))
theorem Fld.Ok.len {F : Fld} (h : F.Ok) : F.vals.length = 202 := by simp [Fld.vals, h.kl, h.sl]
theorem Fld.one (F : Fld) : ∀ v ∈ F.vals, v.oneCell' = true := by
  intro v hv
  simp only [Fld.vals, List.mem_cons, List.mem_append] at hv
  rcases hv with rfl | rfl | hv | hv
  · rfl
  · rfl
  · exact one_ints _ _ v hv
  · exact one_ints _ _ v hv

/-- Block b holds the field F. -/
abbrev IsF (w : World) (b : Nat) (F : Fld) : Prop := Blk w b F.vals 30
section
variable {w w' : World} {b B : Nat} {F : Fld}
theorem IsF.lt (h : IsF w b F) : b < w.heap.size := Blk.lt h
theorem IsF.below (h : IsF w b F) (hb : Below B w w') (hg : b < B) : IsF w' b F := Blk.below h hb hg
theorem IsF.below' (h : IsF w b F) (hb : Below w.heap.size w w') : IsF w' b F := Blk.below h hb h.lt
theorem IsF.alloc (h : IsF w b F) (o : Obj) : IsF (w.alloc o) b F := Blk.alloc h o
theorem IsF.drewN (h : IsF w b F) (n : Nat) : IsF (w.drewN n) b F := h
theorem IsF.c0 (h : IsF w b F) : w.cell? ⟨b, 0, none⟩ = some (.int .i8 F.wide) := Blk.cell h (by simp [Fld.vals])
theorem IsF.c1 (h : IsF w b F) : w.cell? ⟨b, 1, none⟩ = some (.int .i8 F.high) := Blk.cell h (by simp [Fld.vals])

/-- The kind, the seeds of a number. -/
def Fld.kind (F : Fld) (i : Nat) : Int := F.kinds.getD i 0
def Fld.seed (F : Fld) (i : Nat) : Int := F.seeds.getD i 0
theorem Fld.Ok.kb (h : F.Ok) (i : Nat) : 0 ≤ F.kind i ∧ F.kind i ≤ 255 := by
  unfold Fld.kind
  rw [List.getD_eq_getElem?_getD]
  rcases Nat.lt_or_ge i F.kinds.length with hl | hl
  · rw [List.getElem?_eq_getElem hl]
    exact h.k _ (List.getElem_mem hl)
  · rw [List.getElem?_eq_none hl]
    exact ⟨Int.le_refl _, by decide⟩
theorem Fld.Ok.sb (h : F.Ok) (i : Nat) : -32768 ≤ F.seed i ∧ F.seed i ≤ 32767 := by
  unfold Fld.seed
  rw [List.getD_eq_getElem?_getD]
  rcases Nat.lt_or_ge i F.seeds.length with hl | hl
  · rw [List.getElem?_eq_getElem hl]
    exact h.s _ (List.getElem_mem hl)
  · rw [List.getElem?_eq_none hl]
    exact ⟨by decide, by decide⟩
theorem Fld.vk (h : F.Ok) {i : Nat} (hi : i < 100) : F.vals[2 + i]? = some (.int .u8 (F.kind i)) := by
  have hl : i < F.kinds.length := by rw [h.kl]; exact hi
  rw [Nat.add_comm]
  simp only [Fld.vals, List.getElem?_cons_succ]
  rw [List.getElem?_append_left (by simpa using hl), List.getElem?_map, List.getElem?_eq_getElem hl]
  simp [Fld.kind, List.getD_eq_getElem?_getD, List.getElem?_eq_getElem hl]
theorem Fld.vs (h : F.Ok) {i : Nat} (hi : i < 100) : F.vals[102 + i]? = some (.int .i16 (F.seed i)) := by
  have hl : i < F.seeds.length := by rw [h.sl]; exact hi
  rw [show 102 + i = (100 + i) + 2 by omega]
  simp only [Fld.vals, List.getElem?_cons_succ]
  rw [List.getElem?_append_right (by simp [h.kl]), List.getElem?_map, List.length_map, h.kl, Nat.add_sub_cancel_left, List.getElem?_eq_getElem hl]
  simp [Fld.seed, List.getD_eq_getElem?_getD, List.getElem?_eq_getElem hl]
theorem IsF.ck (h : IsF w b F) (ho : F.Ok) {i : Nat} (hi : i < 100) : w.cell? ⟨b, 2 + i, none⟩ = some (.int .u8 (F.kind i)) := Blk.cell h (Fld.vk ho hi)
theorem IsF.cs (h : IsF w b F) (ho : F.Ok) {i : Nat} (hi : i < 100) : w.cell? ⟨b, 102 + i, none⟩ = some (.int .i16 (F.seed i)) := Blk.cell h (Fld.vs ho hi)
end

/-- Whether a field has a cell. -/
def Fld.has (F : Fld) (c : Int) : Bool := inB c 0 99 && (decide (c % 10 < F.wide) && decide (c / 10 < F.high))

theorem has_any (F : Fld) (b : Nat) (c : Int) (w : World) (hf : IsF w b F) (ho : F.Ok) :
    Calls Tryd.prog 49 #[.pointer (some ⟨b, 0, none⟩), .int .i64 c] w fun e w' => e = .returned (.bool (F.has c)) ∧ w = w' := by
  have hc0 := hf.c0
  have hc1 := hf.c1
  have h1 := ho.w0
  have h2 := ho.w1
  have h3 := ho.h0
  have h4 := ho.h1
  clear hf ho
  unfold Fld.has
  cases hb : inB c 0 99
  · go_enter Tryd.func49, Tryd.ntmps49
    go_wp2_with (go_at_call 44; refine (within_any _ _ _ _).mono ?_; rintro e w' ⟨rfl, rfl⟩)
    go_ret
    exact ⟨by simp, rfl⟩
  · obtain ⟨g0, g1⟩ := inB_iff.1 hb
    go_enter Tryd.func49, Tryd.ntmps49
    go_wp2_with (go_at_call 44; refine (within_any _ _ _ _).mono ?_; rintro e w' ⟨rfl, rfl⟩)
    all_goals
      go_ret
      exact ⟨by first | (simp [*]; done) | (simp [*]; omega), rfl⟩

theorem is_any (F : Fld) (b : Nat) (c : Int) (w : World) (hf : IsF w b F) (ho : F.Ok) :
    Calls Tryd.prog 33 #[.pointer (some ⟨b, 0, none⟩), .int .i64 c] w fun e w' => e = .returned (.bool (F.has c)) ∧ w = w' := by
  have hc0 := hf.c0
  have hc1 := hf.c1
  have h1 := ho.w0
  have h2 := ho.w1
  have h3 := ho.h0
  have h4 := ho.h1
  clear hf ho
  unfold Fld.has
  cases hb : inB c 0 99
  · go_enter Tryd.func33, Tryd.ntmps33
    go_wp2_with (go_at_call 34; refine (in_any _ _ _ _).mono ?_; rintro e w' ⟨rfl, rfl⟩)
    go_ret
    exact ⟨by simp, rfl⟩
  · obtain ⟨g0, g1⟩ := inB_iff.1 hb
    go_enter Tryd.func33, Tryd.ntmps33
    go_wp2_with (go_at_call 34; refine (in_any _ _ _ _).mono ?_; rintro e w' ⟨rfl, rfl⟩)
    all_goals
      go_ret
      exact ⟨by first | (simp [*]; done) | (simp [*]; omega), rfl⟩
end Go.Proofs.YtfeniekapmbjjaaDoor

/- Arguments copied, number by number: what comes is what was. No condition but the lengths. -/
namespace Go.Proofs.YtfeniekapmbjjaaDoor
open Go.RowKit
set_option linter.unusedSimpArgs false
set_option linter.unusedVariables false

def zrow (k : IntKind) (n : Nat) : List Value := List.replicate n (.int k 0)
theorem zrow_len (k : IntKind) (n : Nat) : (zrow k n).length = n := by simp [zrow]
def vrow (k : IntKind) (zs : List Int) : List Value := zs.map (Value.int k)
theorem vrow_len (k : IntKind) (zs : List Int) : (vrow k zs).length = zs.length := by simp [vrow]
theorem vrow_get {k : IntKind} {zs : List Int} {i : Nat} (h : i < zs.length) : (vrow k zs)[i]? = some (.int k (nth zs i)) := by
  simp [vrow, nth, List.getElem?_eq_getElem h, List.getD_eq_getElem?_getD]
theorem vrow_one (k : IntKind) (zs : List Int) : ∀ v ∈ vrow k zs, v.oneCell' = true := one_ints k zs

/-- Half copied. -/
def half (k : IntKind) (zs : List Int) (n i : Nat) : List Value := (vrow k zs).take i ++ (zrow k n).drop i
theorem half_len {k : IntKind} {zs : List Int} {n i : Nat} (hl : zs.length = n) (hi : i ≤ n) : (half k zs n i).length = n := by
  simp [half, vrow_len, zrow_len, hl]; omega
theorem half_zero (k : IntKind) (zs : List Int) (n : Nat) : half k zs n 0 = zrow k n := by simp [half]
theorem half_all {k : IntKind} {zs : List Int} {n : Nat} (hl : zs.length = n) : half k zs n n = vrow k zs := by
  unfold half
  rw [List.take_of_length_le (by rw [vrow_len]; omega), List.drop_eq_nil_iff.2 (by rw [zrow_len]; omega), List.append_nil]
theorem half_set {k : IntKind} {zs : List Int} {n i : Nat} (hl : zs.length = n) (hi : i < n) : (half k zs n i).set i (.int k (nth zs i)) = half k zs n (i + 1) := by
  unfold half
  have hv : i < (vrow k zs).length := by rw [vrow_len]; omega
  have hz : i < (zrow k n).length := by rw [zrow_len]; omega
  rw [List.set_append_right _ _ (by rw [List.length_take]; omega), List.length_take, Nat.min_eq_left (by omega), Nat.sub_self, List.drop_eq_getElem_cons hz, List.set_cons_zero,
    List.take_succ_eq_append_getElem hv, List.append_assoc, List.singleton_append]
  have h1 := vrow_get (k := k) (zs := zs) (i := i) (by omega)
  rw [List.getElem?_eq_getElem hv] at h1
  rw [Option.some.inj h1]

/-- toByteA100: what comes is what was. -/
theorem bytes_any (zs : List Int) (hl : zs.length = 100) (w : World) :
    Calls Tryd.prog 15 #[.agg (vrow .u8 zs).toArray] w fun e w' => e = .returned (.agg (vrow .u8 zs).toArray) ∧ Below w.heap.size w w' := by
  have hz : ∀ w, (zeroValue 23).run Tryd.prog w = .ok (.agg (zrow .u8 100).toArray) w := fun w => (zero_of_info (by kernel_rfl : (Tryd.prog.info? 23).map (fun i => (i.zero, i.size)) = some (some (.agg (zrow .u8 100).toArray), 100))).1 w
  go_enter Tryd.func15, Tryd.ntmps15
  go_wp2
  go_loopw [4] (fun t wr => ∃ i : Nat, i ≤ 100 ∧ t = .int .i64 i ∧ Blk wr w.heap.size (vrow .u8 zs) 23 ∧ Blk wr (w.heap.size + 1) (zrow .u8 100) 23 ∧ Blk wr (w.heap.size + 1 + 1) (half .u8 zs 100 i) 23 ∧ Below w.heap.size w wr) (fun t _ => 100 - (intOf t).toNat)
  case atStart =>
    refine ⟨0, by omega, rfl, ?_, ?_, ?_, ?_⟩
    · exact ((Blk.new' _ _ _).alloc _).alloc _
    · exact (Blk.newAt (by simp)).alloc _
    · rw [half_zero]; exact Blk.newAt (by simp)
    · exact (((Below.refl _ _).alloc (Nat.le_refl _) _).alloc (by simp) _).alloc (by simp; omega) _
  case round =>
    obtain ⟨i, hi, rfl, HA0, HR0, HL0, HB0⟩ := hrel
    have HA := Lib.hid HA0
    have HR := Lib.hid HR0
    have HL := Lib.hid HL0
    have HB := Lib.hid HB0
    by_cases hlt : i < 100
    · have c1 := HA0.cell (vrow_get (k := .u8) (zs := zs) (i := i) (by omega))
      have c2 := HL0.cell (List.getElem?_eq_getElem (show i < (half .u8 zs 100 i).length by rw [half_len hl hi]; exact hlt))
      have f2 := HL0.free i
      clear HA0 HR0 HL0 HB0
      go_wp2
      go_roundw
      case rel =>
        refine ⟨i + 1, by omega, by go_num, HA.out.setOther (by omega) _ _, HR.out.setOther (by omega) _ _, ?_, below_setCell HB.out (by omega) _ _⟩
        rw [← half_set hl hlt]
        exact HL.out.set _ _
      case measure => simp [intOf]; omega
    · have e : i = 100 := by omega
      have HL' : Blk wr (w.heap.size + 1 + 1) (vrow .u8 zs) 23 := by rw [← half_all hl]; rw [e] at HL0; exact HL0
      have HW := Lib.hid HL'
      clear HA0 HR0 HL0 HB0 HL' e
      go_wp2_with (first
        | (with_reducible refine wpList_load_blk rfl 23 (.tmp 3) rfl _ 0 rfl (vrow .u8 zs) _ HW.out (by rw [List.drop_zero, List.take_length]) Tryd.underlying23 rfl (by rw [vrow_len, hl]; kernel_rfl) ?_)
        | (with_reducible refine wpList_store_all rfl 23 (.tmp 2) (.tmp 14) rfl _ (vrow .u8 zs) rfl rfl HR.out (by rw [vrow_len, zrow_len, hl]) (by rw [vrow_len, hl]; kernel_rfl) (vrow_one _ _) ?_))
      exact post_blk (p := 2) (T := 23) rfl rfl rfl (HR.out.row _) Tryd.underlying23 rfl (by rw [vrow_len, hl]; kernel_rfl) ⟨rfl, below_setRow HB.out (by omega) _⟩

/-- toInt16A100: what comes is what was. -/
theorem int16s_any (zs : List Int) (hl : zs.length = 100) (w : World) :
    Calls Tryd.prog 16 #[.agg (vrow .i16 zs).toArray] w fun e w' => e = .returned (.agg (vrow .i16 zs).toArray) ∧ Below w.heap.size w w' := by
  have hz : ∀ w, (zeroValue 25).run Tryd.prog w = .ok (.agg (zrow .i16 100).toArray) w := fun w => (zero_of_info (by kernel_rfl : (Tryd.prog.info? 25).map (fun i => (i.zero, i.size)) = some (some (.agg (zrow .i16 100).toArray), 100))).1 w
  go_enter Tryd.func16, Tryd.ntmps16
  go_wp2
  go_loopw [4] (fun t wr => ∃ i : Nat, i ≤ 100 ∧ t = .int .i64 i ∧ Blk wr w.heap.size (vrow .i16 zs) 25 ∧ Blk wr (w.heap.size + 1) (zrow .i16 100) 25 ∧ Blk wr (w.heap.size + 1 + 1) (half .i16 zs 100 i) 25 ∧ Below w.heap.size w wr) (fun t _ => 100 - (intOf t).toNat)
  case atStart =>
    refine ⟨0, by omega, rfl, ?_, ?_, ?_, ?_⟩
    · exact ((Blk.new' _ _ _).alloc _).alloc _
    · exact (Blk.newAt (by simp)).alloc _
    · rw [half_zero]; exact Blk.newAt (by simp)
    · exact (((Below.refl _ _).alloc (Nat.le_refl _) _).alloc (by simp) _).alloc (by simp; omega) _
  case round =>
    obtain ⟨i, hi, rfl, HA0, HR0, HL0, HB0⟩ := hrel
    have HA := Lib.hid HA0
    have HR := Lib.hid HR0
    have HL := Lib.hid HL0
    have HB := Lib.hid HB0
    by_cases hlt : i < 100
    · have c1 := HA0.cell (vrow_get (k := .i16) (zs := zs) (i := i) (by omega))
      have c2 := HL0.cell (List.getElem?_eq_getElem (show i < (half .i16 zs 100 i).length by rw [half_len hl hi]; exact hlt))
      have f2 := HL0.free i
      clear HA0 HR0 HL0 HB0
      go_wp2
      go_roundw
      case rel =>
        refine ⟨i + 1, by omega, by go_num, HA.out.setOther (by omega) _ _, HR.out.setOther (by omega) _ _, ?_, below_setCell HB.out (by omega) _ _⟩
        rw [← half_set hl hlt]
        exact HL.out.set _ _
      case measure => simp [intOf]; omega
    · have e : i = 100 := by omega
      have HL' : Blk wr (w.heap.size + 1 + 1) (vrow .i16 zs) 25 := by rw [← half_all hl]; rw [e] at HL0; exact HL0
      have HW := Lib.hid HL'
      clear HA0 HR0 HL0 HB0 HL' e
      go_wp2_with (first
        | (with_reducible refine wpList_load_blk rfl 25 (.tmp 3) rfl _ 0 rfl (vrow .i16 zs) _ HW.out (by rw [List.drop_zero, List.take_length]) Tryd.underlying25 rfl (by rw [vrow_len, hl]; kernel_rfl) ?_)
        | (with_reducible refine wpList_store_all rfl 25 (.tmp 2) (.tmp 14) rfl _ (vrow .i16 zs) rfl rfl HR.out (by rw [vrow_len, zrow_len, hl]) (by rw [vrow_len, hl]; kernel_rfl) (vrow_one _ _) ?_))
      exact post_blk (p := 2) (T := 25) rfl rfl rfl (HR.out.row _) Tryd.underlying25 rfl (by rw [vrow_len, hl]; kernel_rfl) ⟨rfl, below_setRow HB.out (by omega) _⟩

/-- toOwners: what comes is what was. -/
theorem toOwners_any (zs : List Int) (hl : zs.length = 100) (w : World) :
    Calls Tryd.prog 7 #[.agg (vrow .i8 zs).toArray] w fun e w' => e = .returned (.agg (vrow .i8 zs).toArray) ∧ Below w.heap.size w w' := by
  have hz : ∀ w, (zeroValue 32).run Tryd.prog w = .ok (.agg (zrow .i8 100).toArray) w := fun w => (zero_of_info (by kernel_rfl : (Tryd.prog.info? 32).map (fun i => (i.zero, i.size)) = some (some (.agg (zrow .i8 100).toArray), 100))).1 w
  go_enter Tryd.func7, Tryd.ntmps7
  go_wp2
  go_loopw [4] (fun t wr => ∃ i : Nat, i ≤ 100 ∧ t = .int .i64 i ∧ Blk wr w.heap.size (vrow .i8 zs) 28 ∧ Blk wr (w.heap.size + 1) (zrow .i8 100) 32 ∧ Blk wr (w.heap.size + 1 + 1) (half .i8 zs 100 i) 32 ∧ Below w.heap.size w wr) (fun t _ => 100 - (intOf t).toNat)
  case atStart =>
    refine ⟨0, by omega, rfl, ?_, ?_, ?_, ?_⟩
    · exact ((Blk.new' _ _ _).alloc _).alloc _
    · exact (Blk.newAt (by simp)).alloc _
    · rw [half_zero]; exact Blk.newAt (by simp)
    · exact (((Below.refl _ _).alloc (Nat.le_refl _) _).alloc (by simp) _).alloc (by simp; omega) _
  case round =>
    obtain ⟨i, hi, rfl, HA0, HR0, HL0, HB0⟩ := hrel
    have HA := Lib.hid HA0
    have HR := Lib.hid HR0
    have HL := Lib.hid HL0
    have HB := Lib.hid HB0
    by_cases hlt : i < 100
    · have c1 := HA0.cell (vrow_get (k := .i8) (zs := zs) (i := i) (by omega))
      have c2 := HL0.cell (List.getElem?_eq_getElem (show i < (half .i8 zs 100 i).length by rw [half_len hl hi]; exact hlt))
      have f2 := HL0.free i
      clear HA0 HR0 HL0 HB0
      go_wp2
      go_roundw
      case rel =>
        refine ⟨i + 1, by omega, by go_num, HA.out.setOther (by omega) _ _, HR.out.setOther (by omega) _ _, ?_, below_setCell HB.out (by omega) _ _⟩
        rw [← half_set hl hlt]
        exact HL.out.set _ _
      case measure => simp [intOf]; omega
    · have e : i = 100 := by omega
      have HL' : Blk wr (w.heap.size + 1 + 1) (vrow .i8 zs) 32 := by rw [← half_all hl]; rw [e] at HL0; exact HL0
      have HW := Lib.hid HL'
      clear HA0 HR0 HL0 HB0 HL' e
      go_wp2_with (first
        | (with_reducible refine wpList_load_blk rfl 32 (.tmp 3) rfl _ 0 rfl (vrow .i8 zs) _ HW.out (by rw [List.drop_zero, List.take_length]) Tryd.underlying32 rfl (by rw [vrow_len, hl]; kernel_rfl) ?_)
        | (with_reducible refine wpList_store_all rfl 32 (.tmp 2) (.tmp 14) rfl _ (vrow .i8 zs) rfl rfl HR.out (by rw [vrow_len, zrow_len, hl]) (by rw [vrow_len, hl]; kernel_rfl) (vrow_one _ _) ?_))
      exact post_blk (p := 2) (T := 32) rfl rfl rfl (HR.out.row _) Tryd.underlying32 rfl (by rw [vrow_len, hl]; kernel_rfl) ⟨rfl, below_setRow HB.out (by omega) _⟩

end Go.Proofs.YtfeniekapmbjjaaDoor

/- A field, copied: what comes is what was. No condition but that the numbers are within their kinds. -/
namespace Go.Proofs.YtfeniekapmbjjaaDoor
open Go.RowKit
set_option linter.unusedSimpArgs false
set_option linter.unusedVariables false

def zfld : Fld := ⟨0, 0, List.replicate 100 0, List.replicate 100 0⟩
theorem zfld_ok : zfld.Ok := ⟨by decide, by decide, by decide, by decide, by simp [zfld], by simp [zfld], fun z hz => by rw [List.eq_of_mem_replicate hz]; decide, fun z hz => by rw [List.eq_of_mem_replicate hz]; decide⟩
theorem Fld.Ok.kpart {F : Fld} (h : F.Ok) : (F.vals.drop 2).take (vrow .u8 F.kinds).length = vrow .u8 F.kinds := by
  simp [Fld.vals, vrow]
theorem Fld.Ok.spart {F : Fld} (h : F.Ok) : (F.vals.drop 102).take (vrow .i16 F.seeds).length = vrow .i16 F.seeds := by
  have : F.vals.drop 102 = vrow .i16 F.seeds := by
    simp only [Fld.vals, List.drop_succ_cons, vrow]
    rw [List.drop_append_of_le_length (by simp [h.kl])]
    rw [List.drop_eq_nil_iff.2 (by simp [h.kl])]; simp
  rw [this, List.take_length]

/-- What is built, part by part. -/
def part1 (F : Fld) : List Value := (zfld.vals.set 0 (.int .i8 F.wide)).set 1 (.int .i8 F.high)
def part2 (F : Fld) : List Value := (part1 F).take 2 ++ vrow .u8 F.kinds ++ (part1 F).drop (2 + (vrow .u8 F.kinds).length)
def part3 (F : Fld) : List Value := (part2 F).take 102 ++ vrow .i16 F.seeds ++ (part2 F).drop (102 + (vrow .i16 F.seeds).length)
theorem part1_len (F : Fld) : (part1 F).length = 202 := by simp [part1, zfld_ok.len]
theorem part2_len {F : Fld} (h : F.Ok) : (part2 F).length = 202 := by simp [part2, part1_len, vrow_len, h.kl]
theorem part1_two (F : Fld) : (part1 F).take 2 = [.int .i8 F.wide, .int .i8 F.high] := rfl
theorem part3_eq {F : Fld} (h : F.Ok) : part3 F = F.vals := by
  have e : (part2 F).take 102 = [.int .i8 F.wide, .int .i8 F.high] ++ vrow .u8 F.kinds := by
    unfold part2
    rw [part1_two, List.take_append_of_le_length (by simp [vrow_len, h.kl]), List.take_of_length_le (by simp [vrow_len, h.kl])]
  unfold part3
  rw [e, List.drop_eq_nil_iff.2 (by rw [part2_len h, vrow_len, h.sl]; omega), List.append_nil]
  rfl

theorem toField_any (F : Fld) (ho : F.Ok) (w : World) :
    Calls Tryd.prog 6 #[.agg F.vals.toArray] w fun e w' => e = .returned (.agg F.vals.toArray) ∧ Below w.heap.size w w' := by
  have hz : ∀ w, (zeroValue 30).run Tryd.prog w = .ok (.agg zfld.vals.toArray) w := fun w => (zero_of_info (by kernel_rfl : (Tryd.prog.info? 30).map (fun i => (i.zero, i.size)) = some (some (.agg zfld.vals.toArray), 202))).1 w
  go_enter Tryd.func6, Tryd.ntmps6
  go_upto_region 2 with (fail)
  obtain ⟨W, hW⟩ : ∃ W, W = ((w.alloc (.cells F.vals.toArray 27)).alloc (.cells zfld.vals.toArray 30)).alloc (.cells zfld.vals.toArray 30) := ⟨_, rfl⟩
  have HA0 : Blk W w.heap.size F.vals 27 := by rw [hW]; exact ((Blk.new' _ _ _).alloc _).alloc _
  have HR0 : Blk W (w.heap.size + 1) zfld.vals 30 := by rw [hW]; exact (Blk.newAt (by simp)).alloc _
  have HL0 : Blk W (w.heap.size + 1 + 1) zfld.vals 30 := by rw [hW]; exact Blk.newAt (by simp)
  have HB0 : Below w.heap.size w W := by rw [hW]; exact (((Below.refl _ _).alloc (Nat.le_refl _) _).alloc (by simp) _).alloc (by simp; omega) _
  have HA := Lib.hid HA0
  have HR := Lib.hid HR0
  have HL := Lib.hid HL0
  have HB := Lib.hid HB0
  rw [← hW]
  have c1 : W.cell? ⟨w.heap.size, 0, none⟩ = some (.int .i8 F.wide) := HA0.cell (by simp [Fld.vals])
  have c2 : W.cell? ⟨w.heap.size + 1 + 1, 0, none⟩ = some (.int .i8 0) := HL0.cell rfl
  have f2 := HL0.free 0
  clear hW HA0 HR0 HL0 HB0
  go_upto_region 3 with (fail)
  obtain ⟨W1, hW⟩ : ∃ W1, W1 = W.setCell ⟨w.heap.size + 1 + 1, 0, none⟩ (.int .i8 F.wide) := ⟨_, rfl⟩
  have HA0 : Blk W1 w.heap.size F.vals 27 := by rw [hW]; exact HA.out.setOther (by omega) _ _
  have HR0 : Blk W1 (w.heap.size + 1) zfld.vals 30 := by rw [hW]; exact HR.out.setOther (by omega) _ _
  have HL0 : Blk W1 (w.heap.size + 1 + 1) (zfld.vals.set 0 (.int .i8 F.wide)) 30 := by rw [hW]; exact HL.out.set _ _
  have HB0 : Below w.heap.size w W1 := by rw [hW]; exact below_setCell HB.out (by omega) _ _
  clear HA HR HL HB c1 c2 f2
  have HA := Lib.hid HA0
  have HR := Lib.hid HR0
  have HL := Lib.hid HL0
  have HB := Lib.hid HB0
  rw [← hW]
  have c1 : W1.cell? ⟨w.heap.size, 1, none⟩ = some (.int .i8 F.high) := HA0.cell (by simp [Fld.vals])
  have c2 : W1.cell? ⟨w.heap.size + 1 + 1, 1, none⟩ = some (.int .i8 0) := HL0.cell rfl
  have f2 := HL0.free 1
  clear hW HA0 HR0 HL0 HB0
  go_upto_region 4 with (fail)
  obtain ⟨W2, hW⟩ : ∃ W2, W2 = W1.setCell ⟨w.heap.size + 1 + 1, 1, none⟩ (.int .i8 F.high) := ⟨_, rfl⟩
  have HA0 : Blk W2 w.heap.size F.vals 27 := by rw [hW]; exact HA.out.setOther (by omega) _ _
  have HR0 : Blk W2 (w.heap.size + 1) zfld.vals 30 := by rw [hW]; exact HR.out.setOther (by omega) _ _
  have HL0 : Blk W2 (w.heap.size + 1 + 1) (part1 F) 30 := by rw [hW]; exact HL.out.set _ _
  have HB0 : Below w.heap.size w W2 := by rw [hW]; exact below_setCell HB.out (by omega) _ _
  clear HA HR HL HB c1 c2 f2
  have HA := Lib.hid HA0
  have HR := Lib.hid HR0
  have HL := Lib.hid HL0
  have HB := Lib.hid HB0
  rw [← hW]
  clear hW HA0 HR0 HL0 HB0
  go_upto_region 5 with (first
    | (with_reducible refine wpList_load_blk rfl 23 (.tmp 10) rfl _ 2 rfl (vrow .u8 F.kinds) _ HA.out ho.kpart Tryd.underlying23 rfl (by rw [vrow_len, ho.kl]; kernel_rfl) ?_)
    | (go_at_call 15; (with_reducible refine (bytes_any F.kinds ho.kl _).mono ?_); rintro e W3 ⟨rfl, hb3⟩; have HA3 := Lib.hid (HA.out.below hb3 HA.out.lt); have HR3 := Lib.hid (HR.out.below hb3 HR.out.lt); have HL3 := Lib.hid (HL.out.below hb3 HL.out.lt); have HB3 := Lib.hid (HB.out.trans (hb3.mono HB.out.size)); clear hb3)
    | (with_reducible refine wpList_store_blk rfl 23 (.tmp 13) (.tmp 12) rfl _ 2 (vrow .u8 F.kinds) rfl rfl HL3.out (by simp [vrow_len, ho.kl, part1_len]) (by rw [vrow_len, ho.kl]; kernel_rfl) (vrow_one _ _) ?_))
  obtain ⟨W4, hW⟩ : ∃ W4, W4 = W3.setRow (w.heap.size + 1 + 1) (part2 F).toArray := ⟨_, rfl⟩
  have HA0 : Blk W4 w.heap.size F.vals 27 := by rw [hW]; exact HA3.out.rowOther (by omega) _
  have HR0 : Blk W4 (w.heap.size + 1) zfld.vals 30 := by rw [hW]; exact HR3.out.rowOther (by omega) _
  have HL0 : Blk W4 (w.heap.size + 1 + 1) (part2 F) 30 := by rw [hW]; exact HL3.out.row _
  have HB0 : Below w.heap.size w W4 := by rw [hW]; exact below_setRow HB3.out (by omega) _
  clear HA HR HL HB HA3 HR3 HL3 HB3
  have HA := Lib.hid HA0
  have HR := Lib.hid HR0
  have HL := Lib.hid HL0
  have HB := Lib.hid HB0
  have hW' : W3.setRow (w.heap.size + 1 + 1) ((part1 F).take 2 ++ vrow .u8 F.kinds ++ (part1 F).drop (2 + (vrow .u8 F.kinds).length)).toArray = W4 := hW.symm
  rw [hW']
  clear hW hW' HA0 HR0 HL0 HB0
  go_upto_region 6 with (first
    | (with_reducible refine wpList_load_blk rfl 25 (.tmp 14) rfl _ 102 rfl (vrow .i16 F.seeds) _ HA.out ho.spart Tryd.underlying25 rfl (by rw [vrow_len, ho.sl]; kernel_rfl) ?_)
    | (go_at_call 16; (with_reducible refine (int16s_any F.seeds ho.sl _).mono ?_); rintro e W3 ⟨rfl, hb3⟩; have HA3 := Lib.hid (HA.out.below hb3 HA.out.lt); have HR3 := Lib.hid (HR.out.below hb3 HR.out.lt); have HL3 := Lib.hid (HL.out.below hb3 HL.out.lt); have HB3 := Lib.hid (HB.out.trans (hb3.mono HB.out.size)); clear hb3)
    | (with_reducible refine wpList_store_blk rfl 25 (.tmp 17) (.tmp 16) rfl _ 102 (vrow .i16 F.seeds) rfl rfl HL3.out (by rw [vrow_len, ho.sl, part2_len ho]; omega) (by rw [vrow_len, ho.sl]; kernel_rfl) (vrow_one _ _) ?_))
  obtain ⟨W5, hW⟩ : ∃ W5, W5 = W3.setRow (w.heap.size + 1 + 1) (part3 F).toArray := ⟨_, rfl⟩
  have HR0 : Blk W5 (w.heap.size + 1) zfld.vals 30 := by rw [hW]; exact HR3.out.rowOther (by omega) _
  have HL0 : Blk W5 (w.heap.size + 1 + 1) F.vals 30 := by rw [hW, ← part3_eq ho]; exact HL3.out.row _
  have HB0 : Below w.heap.size w W5 := by rw [hW]; exact below_setRow HB3.out (by omega) _
  clear HA HR HL HB HA3 HR3 HL3 HB3
  have HR := Lib.hid HR0
  have HL := Lib.hid HL0
  have HB := Lib.hid HB0
  have hW' : W3.setRow (w.heap.size + 1 + 1) ((part2 F).take 102 ++ vrow .i16 F.seeds ++ (part2 F).drop (102 + (vrow .i16 F.seeds).length)).toArray = W5 := hW.symm
  rw [hW']
  clear hW hW' HR0 HL0 HB0
  go_wp2_with (first
    | (with_reducible refine wpList_load_blk rfl 30 (.tmp 3) rfl _ 0 rfl F.vals _ HL.out (by rw [List.drop_zero, List.take_length]) Tryd.underlying30 rfl (by rw [ho.len]; kernel_rfl) ?_)
    | (with_reducible refine wpList_store_all rfl 30 (.tmp 2) (.tmp 18) rfl _ F.vals rfl rfl HR.out (by rw [ho.len, zfld_ok.len]) (by rw [ho.len]; kernel_rfl) F.one ?_))
  exact post_blk (p := 2) (T := 30) rfl rfl rfl (HR.out.row _) Tryd.underlying30 rfl (by rw [ho.len]; kernel_rfl) ⟨rfl, below_setRow HB.out (by omega) _⟩
end Go.Proofs.YtfeniekapmbjjaaDoor

/- Which fields are valid, by the program and by the reference: the same. No condition but that the numbers are within their kinds. -/
namespace Go.Proofs.YtfeniekapmbjjaaDoor
open Go.RowKit
set_option linter.unusedSimpArgs false
set_option linter.unusedVariables false

structure Fld.CellOk (F : Fld) (i : Nat) : Prop where
  k0 : 0 ≤ F.kind i
  k3 : F.kind i ≤ 3
  s0 : 0 ≤ F.seed i
  s1 : F.seed i ≤ 1000
  ks : F.kind i ≠ 0 → F.seed i = 0
  hk : F.has (i : Int) = false → F.kind i = 0
  hs : F.has (i : Int) = false → F.seed i = 0
structure Fld.Valid (F : Fld) : Prop where
  w : inB F.wide 1 10 = true
  h : inB F.high 1 10 = true
  c : ∀ i, i < 100 → F.CellOk i
open Classical in
noncomputable def Fld.valid (F : Fld) : Bool := decide F.Valid
theorem Fld.valid_iff {F : Fld} : F.valid = true ↔ F.Valid := by unfold Fld.valid; simp
theorem Fld.valid_yes {F : Fld} (h : F.Valid) : F.valid = true := valid_iff.2 h
theorem Fld.valid_no {F : Fld} (h : ¬ F.Valid) : F.valid = false := by
  rw [Bool.eq_false_iff]
  exact fun e => h (valid_iff.1 e)

/-- One number's test, as the program makes it. -/
def cellB (x : Bool) (k s : Int) : Bool := !((!x && k != 0) || decide (3 < k)) && (!(x && k == 0 && !inB s 0 1000) && !((!x || k != 0) && s != 0))
theorem cellB_iff {F : Fld} (ho : F.Ok) (i : Nat) : cellB (F.has (i : Int)) (F.kind i) (F.seed i) = true ↔ F.CellOk i := by
  have kb := ho.kb i
  unfold cellB inB
  cases hx : F.has (i : Int)
  · simp only [Bool.not_false, Bool.true_and, Bool.false_and, Bool.true_or, Bool.not_eq_true', Bool.and_eq_true, Bool.or_eq_false_iff, bne_eq_false_iff_eq, decide_eq_false_iff_not, true_and]
    exact ⟨fun ⟨⟨a, b⟩, c⟩ => ⟨by omega, by omega, by omega, by omega, fun _ => c, fun _ => a, fun _ => c⟩, fun h => ⟨⟨h.hk hx, by have := h.k3; omega⟩, h.hs hx⟩⟩
  · by_cases hk : F.kind i = 0
    · simp only [hk, Bool.not_true, Bool.false_and, Bool.false_or, Bool.true_and, Bool.not_eq_true', Bool.and_eq_true, bne_self_eq_false, beq_self_eq_true, decide_eq_false_iff_not, decide_eq_true_eq, Bool.not_eq_false', Bool.not_not]
      exact ⟨fun ⟨_, b, _⟩ => ⟨by omega, by omega, b.1, b.2, fun h => absurd hk h, fun h => absurd (hx.symm.trans h) (by decide), fun h => absurd (hx.symm.trans h) (by decide)⟩, fun h => ⟨by omega, ⟨h.s0, h.s1⟩, trivial⟩⟩
    · have hk' : (F.kind i == 0) = false := by simp [hk]
      have hk2 : (F.kind i != 0) = true := by simp [hk]
      simp only [hk', hk2, Bool.not_true, Bool.false_and, Bool.false_or, Bool.and_false, Bool.true_and, Bool.not_eq_true', Bool.and_eq_true, Bool.not_false, decide_eq_false_iff_not, bne_eq_false_iff_eq]
      exact ⟨fun ⟨a, b⟩ => ⟨by omega, by omega, by omega, by omega, fun _ => b, fun h => absurd (hx.symm.trans h) (by decide), fun h => absurd (hx.symm.trans h) (by decide)⟩, fun h => ⟨by have := h.k3; omega, h.ks hk⟩⟩

set_option maxHeartbeats 4000000 in
theorem validField_any (F : Fld) (ho : F.Ok) (w : World) :
    Calls Tryd.prog 37 #[.agg F.vals.toArray] w fun e w' => e = .returned (.bool F.valid) ∧ Below w.heap.size w w' := by
  go_enter Tryd.func37, Tryd.ntmps37
  go_upto_region 1 with (fail)
  obtain ⟨W, hW⟩ : ∃ W, W = w.alloc (.cells F.vals.toArray 30) := ⟨_, rfl⟩
  have HF0 : IsF W w.heap.size F := by rw [hW]; exact Blk.new' _ _ _
  have HB0 : Below w.heap.size w W := by rw [hW]; exact (Below.refl _ _).alloc (Nat.le_refl _) _
  rw [← hW]
  have HF := Lib.hid HF0
  have HB := Lib.hid HB0
  have HO := Lib.hid ho
  have hc0 := HF0.c0
  have hc1 := HF0.c1
  have h1 := ho.w0
  have h2 := ho.w1
  have h3 := ho.h0
  have h4 := ho.h1
  clear hW HF0 HB0 ho
  cases hw : inB F.wide 1 10
  · have HV := Lib.hid (Fld.valid_no (F := F) fun h => by rw [h.w] at hw; cases hw)
    go_wp2_with (go_at_call 44; refine (within_any _ _ _ _).mono ?_; rintro e w' ⟨rfl, rfl⟩)
    go_ret
    exact ⟨ret_bool HV.out.symm, HB.out⟩
  cases hh : inB F.high 1 10
  · have HV := Lib.hid (Fld.valid_no (F := F) fun h => by rw [h.h] at hh; cases hh)
    go_wp2_with (first | (go_at_call 44; refine (within_any _ _ _ _).mono ?_; rintro e w' ⟨rfl, rfl⟩))
    go_ret
    exact ⟨ret_bool HV.out.symm, HB.out⟩
  go_upto_region 3 with (go_at_call 44; refine (within_any _ _ _ _).mono ?_; rintro e w' ⟨rfl, rfl⟩)
  have HW := Lib.hid hw
  have HH := Lib.hid hh
  clear hw hh
  go_wp2
  go_loopw [18] (fun v wr => ∃ i : Nat, i ≤ 100 ∧ v = .int .i64 i ∧ Hid (∀ j, j < i → F.CellOk j) ∧ ∃ n, wr = W.drewN n) (fun v _ => 100 - (intOf v).toNat)
  case atStart => exact ⟨0, by omega, rfl, Lib.hid (fun j hj => by omega), 0, rfl⟩
  case round =>
    obtain ⟨i, hi, rfl, HP, n, rfl⟩ := hrel
    by_cases hlt : i < 100
    · have ck := HF.out.ck HO.out hlt
      have cs := HF.out.cs HO.out hlt
      have kb := HO.out.kb i
      have sb := HO.out.sb i
      obtain ⟨kb0, kb1⟩ := kb
      obtain ⟨sb0, sb1⟩ := sb
      have HQ := Lib.hid (cellB_iff HO.out i)
      cases hx : F.has (i : Int) <;> cases b2 : (F.kind i != 0) <;> cases d3 : decide (3 < F.kind i) <;> cases b4 : (F.seed i != 0) <;> cases hr : inB (F.seed i) 0 1000
      all_goals
        have b1 : (F.kind i == 0) = !(F.kind i != 0) := by simp [bne]
        rw [b2] at b1
        simp only [Bool.not_true, Bool.not_false] at b1
        have HX := Lib.hid hx
        have HR := Lib.hid hr
        cases hc : cellB (F.has (i : Int)) (F.kind i) (F.seed i)
        · first
          | (exfalso; revert hc; simp [cellB, hx, b1, b2, d3, b4, hr]; done)
          | (have HD : Hid (F.valid = false) := Lib.hid (Fld.valid_no fun h => by have := HQ.out.2 (h.c i hlt); rw [hc] at this; cases this)
             clear hx hr hc
             go_wp2
             go_quiet (fail)
             go_wp2_with (first
               | (go_at_call 49; refine (has_any F _ _ _ (HF.out.drewN _) HO.out).mono ?_; rintro e w' ⟨rfl, rfl⟩; rw [HX.out])
               | (go_at_call 44; refine (within_any _ _ _ _).mono ?_; rintro e w' ⟨rfl, rfl⟩; rw [HR.out]))
             go_ret
             exact ⟨ret_bool HD.out.symm, below_drewN HB.out _⟩)
        · first
          | (exfalso; revert hc; simp [cellB, hx, b1, b2, d3, b4, hr]; done)
          | (have HD := Lib.hid (HQ.out.1 hc)
             clear hx hr hc
             go_wp2
             go_quiet (fail)
             go_wp2_with (first
               | (go_at_call 49; refine (has_any F _ _ _ (HF.out.drewN _) HO.out).mono ?_; rintro e w' ⟨rfl, rfl⟩; rw [HX.out])
               | (go_at_call 44; refine (within_any _ _ _ _).mono ?_; rintro e w' ⟨rfl, rfl⟩; rw [HR.out]))
             go_roundw
             case rel => exact ⟨i + 1, by omega, by go_num, Lib.hid (fun j hj => by
                rcases Nat.lt_or_ge j i with h | h
                · exact HP.out j h
                · have e : j = i := by omega
                  rw [e]; exact HD.out), _, rfl⟩
             case measure => simp [intOf]; omega)
    · have HV : Hid (F.valid = true) := Lib.hid (Fld.valid_yes ⟨HW.out, HH.out, fun j hj => HP.out j (by omega)⟩)
      go_wp2
      go_ret
      exact ⟨ret_bool HV.out.symm, below_drewN HB.out _⟩
end Go.Proofs.YtfeniekapmbjjaaDoor

/- Which fields are valid, by the reference. No condition but that the numbers are within their kinds. -/
namespace Go.Proofs.YtfeniekapmbjjaaDoor
open Go.RowKit
set_option linter.unusedSimpArgs false
set_option linter.unusedVariables false

theorem l01Kind_any (a : Int) (w : World) : Calls Tryd.prog 47 #[.int .i64 a] w fun e w' => e = .returned (.bool (inB a 0 3)) ∧ w = w' := by
  go_enter Tryd.func47, Tryd.ntmps47
  go_wp2_with (go_at_call 34; refine (in_any _ _ _ _).mono ?_; rintro e w' ⟨rfl, rfl⟩)
  go_ret
  exact ⟨rfl, rfl⟩

theorem l01Seeds_any (a : Int) (w : World) : Calls Tryd.prog 48 #[.int .i64 a] w fun e w' => e = .returned (.bool (inB a 0 1000)) ∧ w = w' := by
  go_enter Tryd.func48, Tryd.ntmps48
  go_wp2_with (go_at_call 34; refine (in_any _ _ _ _).mono ?_; rintro e w' ⟨rfl, rfl⟩)
  go_ret
  exact ⟨rfl, rfl⟩

/-- One number's test, as the reference makes it. -/
def cellS (x : Bool) (k s : Int) : Bool := !(!inB k 0 3 || (!inB s 0 1000 || (k != 0 && s != 0))) && !(!x && (k != 0 || s != 0))
theorem cellS_iff {F : Fld} (i : Nat) : cellS (F.has (i : Int)) (F.kind i) (F.seed i) = true ↔ F.CellOk i := by
  unfold cellS inB
  constructor
  · intro h
    simp only [Bool.and_eq_true, Bool.not_eq_true', Bool.or_eq_false_iff, Bool.and_eq_false_iff, bne_eq_false_iff_eq, Bool.not_eq_false', decide_eq_true_eq, Bool.not_eq_false] at h
    obtain ⟨⟨⟨a, b⟩, ⟨c, d⟩, e⟩, f⟩ := h
    exact ⟨a, b, c, d, fun hk => e.resolve_left hk, fun hx => by rcases f with f | f; exact absurd (f.symm.trans hx) (by decide); exact f.1, fun hx => by rcases f with f | f; exact absurd (f.symm.trans hx) (by decide); exact f.2⟩
  · intro h
    have := h.k0; have := h.k3; have := h.s0; have := h.s1
    simp only [Bool.and_eq_true, Bool.not_eq_true', Bool.or_eq_false_iff, Bool.and_eq_false_iff, bne_eq_false_iff_eq, Bool.not_eq_false', decide_eq_true_eq, Bool.not_eq_false]
    refine ⟨⟨⟨by omega, by omega⟩, ⟨by omega, by omega⟩, ?_⟩, ?_⟩
    · by_cases hk : F.kind i = 0
      · exact .inl hk
      · exact .inr (h.ks hk)
    · cases hx : F.has (i : Int)
      · exact .inr ⟨h.hk hx, h.hs hx⟩
      · exact .inl rfl

set_option maxHeartbeats 4000000 in
theorem l01Ok_any (F : Fld) (ho : F.Ok) (b : Nat) (w : World) (hf : IsF w b F) :
    Calls Tryd.prog 32 #[.pointer (some ⟨b, 0, none⟩)] w fun e w' => e = .returned (.bool F.valid) ∧ w = w' := by
  have HF := Lib.hid hf
  have HO := Lib.hid ho
  have hc0 := hf.c0
  have hc1 := hf.c1
  have h1 := ho.w0
  have h2 := ho.w1
  have h3 := ho.h0
  have h4 := ho.h1
  clear hf ho
  go_enter Tryd.func32, Tryd.ntmps32
  cases hw : inB F.wide 1 10
  · have HV := Lib.hid (Fld.valid_no (F := F) fun h => by rw [h.w] at hw; cases hw)
    go_wp2_with (go_at_call 34; refine (in_any _ _ _ _).mono ?_; rintro e w' ⟨rfl, rfl⟩)
    go_ret
    exact ⟨ret_bool HV.out.symm, rfl⟩
  cases hh : inB F.high 1 10
  · have HV := Lib.hid (Fld.valid_no (F := F) fun h => by rw [h.h] at hh; cases hh)
    go_wp2_with (go_at_call 34; refine (in_any _ _ _ _).mono ?_; rintro e w' ⟨rfl, rfl⟩)
    go_ret
    exact ⟨ret_bool HV.out.symm, rfl⟩
  go_upto_region 3 with (go_at_call 34; refine (in_any _ _ _ _).mono ?_; rintro e w' ⟨rfl, rfl⟩)
  have HW := Lib.hid hw
  have HH := Lib.hid hh
  clear hw hh
  go_wp2
  go_loop [3] (fun v => ∃ i : Nat, i ≤ 100 ∧ v = .int .i64 i ∧ Hid (∀ j, j < i → F.CellOk j)) (fun v => 100 - (intOf v).toNat)
  case atStart => exact ⟨0, by omega, rfl, Lib.hid (fun j hj => by omega)⟩
  case round =>
    obtain ⟨i, hi, rfl, HP⟩ := hrel
    by_cases hlt : i < 100
    · have ck := HF.out.ck HO.out hlt
      have cs := HF.out.cs HO.out hlt
      have kb := HO.out.kb i
      have sb := HO.out.sb i
      obtain ⟨kb0, kb1⟩ := kb
      obtain ⟨sb0, sb1⟩ := sb
      have HQ := Lib.hid (cellS_iff (F := F) i)
      cases hx : F.has (i : Int) <;> cases b2 : (F.kind i != 0) <;> cases d3 : inB (F.kind i) 0 3 <;> cases b4 : (F.seed i != 0) <;> cases hr : inB (F.seed i) 0 1000
      all_goals
        have HX := Lib.hid hx
        have HR := Lib.hid hr
        have HK := Lib.hid d3
        cases hc : cellS (F.has (i : Int)) (F.kind i) (F.seed i)
        · first
          | (exfalso; revert hc; simp [cellS, hx, b2, d3, b4, hr]; done)
          | (have HD : Hid (F.valid = false) := Lib.hid (Fld.valid_no fun h => by have := HQ.out.2 (h.c i hlt); rw [hc] at this; cases this)
             clear hx hr hc d3
             go_wp2_with (first
               | (go_at_call 33; refine (is_any F _ _ _ HF.out HO.out).mono ?_; rintro e w' ⟨rfl, rfl⟩; rw [HX.out])
               | (go_at_call 47; refine (l01Kind_any _ _).mono ?_; rintro e w' ⟨rfl, rfl⟩; rw [HK.out])
               | (go_at_call 48; refine (l01Seeds_any _ _).mono ?_; rintro e w' ⟨rfl, rfl⟩; rw [HR.out]))
             go_ret
             exact ⟨ret_bool HD.out.symm, rfl⟩)
        · first
          | (exfalso; revert hc; simp [cellS, hx, b2, d3, b4, hr]; done)
          | (have HD := Lib.hid (HQ.out.1 hc)
             clear hx hr hc d3
             go_wp2_with (first
               | (go_at_call 33; refine (is_any F _ _ _ HF.out HO.out).mono ?_; rintro e w' ⟨rfl, rfl⟩; rw [HX.out])
               | (go_at_call 47; refine (l01Kind_any _ _).mono ?_; rintro e w' ⟨rfl, rfl⟩; rw [HK.out])
               | (go_at_call 48; refine (l01Seeds_any _ _).mono ?_; rintro e w' ⟨rfl, rfl⟩; rw [HR.out]))
             go_round
             case rel => exact ⟨i + 1, by omega, by go_num, Lib.hid (fun j hj => by
                rcases Nat.lt_or_ge j i with h | h
                · exact HP.out j h
                · have e : j = i := by omega
                  rw [e]; exact HD.out)⟩
             case measure => simp [intOf]; omega)
    · have HV : Hid (F.valid = true) := Lib.hid (Fld.valid_yes ⟨HW.out, HH.out, fun j hj => HP.out j (by omega)⟩)
      go_wp2
      go_ret
      exact ⟨ret_bool HV.out.symm, rfl⟩
end Go.Proofs.YtfeniekapmbjjaaDoor

/- A cell of a field is a number below 100. No condition. -/
namespace Go.Proofs.YtfeniekapmbjjaaDoor
theorem has_nat {F : Fld} {c : Int} (h : F.has c = true) : ∃ k : Nat, c = (k : Int) ∧ k < 100 := by
  unfold Fld.has at h
  rw [Bool.and_eq_true] at h
  obtain ⟨a, b⟩ := inB_iff.1 h.1
  exact ⟨c.toNat, by omega, by omega⟩
end Go.Proofs.YtfeniekapmbjjaaDoor

/- Words of this claim's own: arrays of whole numbers held against each other. No condition. -/
namespace Go.Proofs.YtfeniekapmbjjaaDoor
open Go.RowKit
set_option linter.unusedSimpArgs false
set_option linter.unusedVariables false

theorem all_nth (xs ys : List Int) (h : xs.length = ys.length) : ((List.range xs.length).all fun i => nth xs i == nth ys i) = (xs == ys) := by
  rw [Bool.eq_iff_iff, List.all_eq_true]
  simp only [List.mem_range, beq_iff_eq]
  constructor
  · intro hi
    refine List.ext_getElem h fun i h1 h2 => ?_
    have := hi i h1
    simpa [nth, List.getD_eq_getElem?_getD, List.getElem?_eq_getElem h1, List.getElem?_eq_getElem h2] using this
  · rintro rfl i _
    rfl

section
variable {P : Program}
theorem run_equalIn_row (w : World) (d : Nat) (t e : TypeId) (k : IntKind) (n : Nat) (ht : P.underlying t = some (.array n e)) (he : P.underlying e = some (.int k)) (hsz : ∀ w, (sizeOf e).run P w = .ok 1 w)
    (xs ys : List Int) (hx : xs.length = n) (hy : ys.length = n) :
    (Op.equalIn (d + 2) t (.agg (vrow k xs).toArray) (.agg (vrow k ys).toArray)).run P w = .ok (xs == ys) w := by
  rw [← all_nth xs ys (hx.trans hy.symm), hx, List.range_eq_range', Op.equalIn]
  simp only [Sem.run_bind, run_underlying ht, Result.andThen_ok, hsz, Std.Legacy.Range.forIn_eq_forIn_range', Std.Legacy.Range.size, Nat.sub_zero, Nat.add_sub_cancel, Nat.div_one]
  have hl : ∀ i ∈ List.range' 0 n 1, i < n := fun i hi => by simpa using (List.mem_range'_1.1 hi).2
  generalize List.range' 0 n 1 = l at hl ⊢
  induction l with
  | nil => simp
  | cons i l ih =>
    have hi : i < n := hl i (by simp)
    have px : (part e (vrow k xs).toArray (i * 1)).run P w = .ok (.int k (nth xs i)) w := by
      simp [part, isAgg, run_underlying he, vrow, nth, List.getD, List.getElem?_eq_getElem (show i < xs.length by omega)]
    have py : (part e (vrow k ys).toArray (i * 1)).run P w = .ok (.int k (nth ys i)) w := by
      simp [part, isAgg, run_underlying he, vrow, nth, List.getD, List.getElem?_eq_getElem (show i < ys.length by omega)]
    have pe : (Op.equalIn (d + 1) e (.int k (nth xs i)) (.int k (nth ys i))).run P w = .ok (nth xs i == nth ys i) w := by
      rw [run_equalIn_int w d e k k _ _ he]
    simp only [List.forIn_cons, Sem.run_bind, px, py, pe, Result.andThen_ok, List.all_cons]
    cases hb : (nth xs i == nth ys i)
    · simp
    · simp only [Bool.not_true, Bool.false_eq_true, if_false, Sem.run_pure, Result.andThen_ok, Bool.true_and]
      exact ih fun j hj => hl j (by simp [hj])

theorem run_neq_row (w : World) (t e : TypeId) (k : IntKind) (n : Nat) (ht : P.underlying t = some (.array n e)) (he : P.underlying e = some (.int k)) (hsz : ∀ w, (sizeOf e).run P w = .ok 1 w)
    (xs ys : List Int) (hx : xs.length = n) (hy : ys.length = n) :
    (binOp .neq t (.agg (vrow k xs).toArray) (.agg (vrow k ys).toArray)).run P w = .ok (.bool (!(xs == ys))) w := by
  rw [run_neq_struct, run_equalIn_row w 9998 t e k n ht he hsz xs ys hx hy]
  rfl

theorem run_eql_row (w : World) (t e : TypeId) (k : IntKind) (n : Nat) (ht : P.underlying t = some (.array n e)) (he : P.underlying e = some (.int k)) (hsz : ∀ w, (sizeOf e).run P w = .ok 1 w)
    (xs ys : List Int) (hx : xs.length = n) (hy : ys.length = n) :
    (binOp .eql t (.agg (vrow k xs).toArray) (.agg (vrow k ys).toArray)).run P w = .ok (.bool (xs == ys)) w := by
  rw [run_eql_struct, run_equalIn_row w 9998 t e k n ht he hsz xs ys hx hy]
  rfl
end
end Go.Proofs.YtfeniekapmbjjaaDoor

/- Words of this claim's own: how an argument of whole numbers (a struct, an array, a slice of structs) opens into its numbers. No condition. -/
namespace Go.Proofs.YtfeniekapmbjjaaDoor.R
open Go.ChangeShapes Go.WideShapes Go.Deep
set_option linter.unusedSimpArgs false
set_option linter.unusedVariables false

/-- The cells are whole numbers of these kinds, each within its kind. -/
def Ints : List IntKind → List Value → Prop
  | [], [] => True
  | k :: ks, c :: cs => (∃ z, c = .int k z ∧ (Lit.int k z).wf = true) ∧ Ints ks cs
  | _, _ => False

theorem Ints.length : ∀ {ks : List IntKind} {cs : List Value}, Ints ks cs → cs.length = ks.length
  | [], [], _ => rfl
  | [], _ :: _, h => h.elim
  | _ :: _, [], h => h.elim
  | _ :: _, _ :: _, h => by simp [Ints.length h.2]

theorem Ints.cons {k : IntKind} {ks : List IntKind} {cs : List Value} (h : Ints (k :: ks) cs) : ∃ z c, cs = .int k z :: c ∧ (Lit.int k z).wf = true ∧ Ints ks c := by
  cases cs with
  | nil => exact h.elim
  | cons c cs =>
    obtain ⟨⟨z, rfl, hz⟩, h2⟩ := h
    exact ⟨z, cs, rfl, hz, h2⟩

theorem Ints.nil {cs : List Value} (h : Ints [] cs) : cs = [] := by
  cases cs with
  | nil => rfl
  | cons c cs => exact h.elim

theorem Ints.append : ∀ {k1 k2 : List IntKind} {c1 c2 : List Value}, Ints k1 c1 → Ints k2 c2 → Ints (k1 ++ k2) (c1 ++ c2)
  | [], _, [], _, _, h => h
  | [], _, _ :: _, _, h, _ => h.elim
  | _ :: _, _, [], _, h, _ => h.elim
  | _ :: _, _, _ :: _, _, h, h2 => ⟨h.1, Ints.append h.2 h2⟩

theorem Ints.split : ∀ {k1 k2 : List IntKind} {cs : List Value}, Ints (k1 ++ k2) cs → ∃ c1 c2, cs = c1 ++ c2 ∧ Ints k1 c1 ∧ Ints k2 c2
  | [], _, cs, h => ⟨[], cs, rfl, trivial, h⟩
  | _ :: _, _, [], h => h.elim
  | _ :: _, _, c :: _, h => by
    obtain ⟨c1, c2, rfl, h1, h2⟩ := Ints.split h.2
    exact ⟨c :: c1, c2, rfl, ⟨h.1, h1⟩, h2⟩

theorem Ints.same : ∀ {n : Nat} {k : IntKind} {cs : List Value}, Ints (List.replicate n k) cs → ∃ zs : List Int, zs.length = n ∧ cs = zs.map (Value.int k) ∧ ∀ z ∈ zs, (Lit.int k z).wf = true
  | 0, _, [], _ => ⟨[], rfl, rfl, by simp⟩
  | 0, _, _ :: _, h => h.elim
  | _ + 1, _, [], h => h.elim
  | n + 1, k, c :: cs, h => by
    obtain ⟨⟨z, rfl, hz⟩, h2⟩ := h
    obtain ⟨zs, hl, rfl, hw⟩ := Ints.same (n := n) h2
    exact ⟨z :: zs, by simp [hl], rfl, fun y hy => by rcases List.mem_cons.1 hy with rfl | hy; exact hz; exact hw y hy⟩

/-- The kinds of a struct's cells, field behind field. -/
def flatGo (P : Program) (fl : TypeId → Option (List IntKind)) (total : Nat) : Nat → List Field → Option (List IntKind)
  | off, [] => if off = total then some [] else none
  | off, f :: fs => match fl f.type with
    | some l => if f.offset = off ∧ P.cellsOf f.type = l.length then (flatGo P fl total (off + l.length) fs).map (l ++ ·) else none
    | none => none

/-- The kinds of a type's cells, if all of them are whole numbers. -/
def flat (P : Program) : Nat → TypeId → Option (List IntKind)
  | 0, _ => none
  | n + 1, t => match P.underlying t with
    | some (.int k) => some [k]
    | some (.array m e) => match flat P n e with
      | some l => if P.cellsOf e = l.length ∧ P.cellsOf t = m * l.length then some (List.replicate m l).flatten else none
      | none => none
    | some (.struct fs) => flatGo P (flat P n) (P.cellsOf t) 0 fs.toList
    | _ => none

section
variable {H : Type} {enc : TypeId × Value → H} {P : Program} {w : World} {base : Nat} {spare : Nat → Bool} {held : Bool}

theorem chunks {l : List IntKind} : ∀ (m : Nat) (cs : List Value), cs.length = m * l.length → (∀ i, i < m → Ints l ((cs.drop (i * l.length)).take l.length)) → Ints (List.replicate m l).flatten cs
  | 0, cs, hl, _ => by
    have : cs = [] := List.length_eq_zero_iff.1 (by simpa using hl)
    subst this
    exact trivial
  | m + 1, cs, hl, h => by
    have h0 := h 0 (by omega)
    simp only [Nat.zero_mul, List.drop_zero] at h0
    have h1 := chunks (l := l) m (cs.drop l.length) (by rw [List.length_drop, hl, Nat.succ_mul]; omega) (fun i hi => by
      have := h (i + 1) (by omega)
      rw [List.drop_drop]
      rw [Nat.succ_mul, Nat.add_comm] at this
      exact this)
    have h2 := Ints.append h0 h1
    rw [List.take_append_drop] at h2
    rw [List.replicate_succ, List.flatten_cons]
    exact h2

theorem flat_trod : ∀ (n : Nat) {t : TypeId} {ks : List IntKind} {fuel : Nat} {cs : List Value} {x : DataW H × List MemPlace},
    flat P n t = some ks → DataW.trod enc P w base spare held fuel t cs = some x → Ints ks cs
  | 0, _, _, _, _, _, h, _ => by simp [flat] at h
  | n + 1, t, ks, fuel, cs, x, h, ht => by
    unfold flat at h
    split at h
    · rename_i k hu
      obtain rfl := Option.some.inj h
      obtain ⟨z, rfl, _, hz⟩ := DataW.trod_int hu ht
      exact ⟨⟨z, rfl, hz⟩, trivial⟩
    · rename_i m e hu
      split at h
      · rename_i l hl
        split at h
        · rename_i hc
          obtain rfl := Option.some.inj h
          obtain ⟨xs, m', _, _, hlen, hxl, hx⟩ := DataW.trod_array hu ht
          refine chunks m cs (by rw [hlen, hc.2]) (fun i hi => ?_)
          have h1 := hx i hi
          rw [hc.1, List.getElem?_eq_getElem (by omega)] at h1
          exact flat_trod n hl h1
        · cases h
      · cases h
    · rename_i fs hu
      obtain ⟨xs, m', _, _, hlen, hxl, hx⟩ := DataW.trod_struct hu ht
      have key : ∀ (gs : List Field) (off : Nat) (ks : List IntKind), (∀ f ∈ gs, ∃ y, DataW.trod enc P w base spare held m' f.type ((cs.drop f.offset).take (P.cellsOf f.type)) = some y) →
          flatGo P (flat P n) (P.cellsOf t) off gs = some ks → Ints ks (cs.drop off) := by
        intro gs
        induction gs with
        | nil =>
          intro off ks _ hg
          unfold flatGo at hg
          split at hg
          · rename_i ho
            obtain rfl := Option.some.inj hg
            rw [List.drop_eq_nil_iff.2 (by omega)]
            exact trivial
          · cases hg
        | cons f gs ih =>
          intro off ks hf hg
          unfold flatGo at hg
          split at hg
          · rename_i l hl
            split at hg
            · rename_i hc
              rw [Option.map_eq_some_iff] at hg
              obtain ⟨ks', hg, rfl⟩ := hg
              obtain ⟨y, hy⟩ := hf f (by simp)
              have h1 := flat_trod n hl hy
              rw [hc.1, hc.2] at h1
              have h2 := ih (off + l.length) ks' (fun f hf' => hf f (by simp [hf'])) hg
              rw [← List.drop_drop] at h2
              have h3 := Ints.append h1 h2
              rw [List.take_append_drop] at h3
              exact h3
            · cases hg
          · cases hg
      have := key fs.toList 0 ks (fun f hf => by
        obtain ⟨i, hi, rfl⟩ := List.mem_iff_getElem.1 hf
        have hi' : i < fs.size := by simpa using hi
        have h1 := hx i (fs.toList[i]) (by simp [hi'])
        rw [List.getElem?_eq_getElem (by omega)] at h1
        exact ⟨_, h1⟩) h
      simpa using this
    · cases h

/-- A parameter that is a struct or an array of whole numbers. -/
theorem open_flat {r : Reach} {b0 : Nat} {t : TypeId} {ks : List IntKind} {v : Value} {d : DataW H} {p : List MemPlace} (n : Nat) (hf : flat P n t = some ks)
    (hu : (match P.underlying t with | some (.struct _) | some (.array _ _) => true | _ => false) = true) (hv : Value.okWide P w r b0 t v) (h : DataW.Trod enc P w base spare held t v d p) :
    ∃ cs : List Value, v = .agg cs.toArray ∧ Ints ks cs := by
  have hagg : ∃ a, v = .agg a := by
    unfold Value.okWide at hv
    split at hv
    · obtain ⟨cs, rfl, _⟩ := hv; exact ⟨_, rfl⟩
    · obtain ⟨cs, rfl, _⟩ := hv; exact ⟨_, rfl⟩
    · rename_i h1 h2
      split at hu
      · rename_i fs hfs; exact absurd hfs (h1 fs)
      · rename_i m e hfs; exact absurd hfs (h2 m e)
      · cases hu
  obtain ⟨a, rfl⟩ := hagg
  obtain ⟨fuel, hfu⟩ := h
  exact ⟨a.toList, by simp, flat_trod n hf hfu⟩

/-- A parameter that is a slice of structs of whole numbers: its elements' cells. -/
theorem open_rows {t e : TypeId} {ks : List IntKind} {fuel : Nat} {cs : List Value} {x : DataW H × List MemPlace} (n : Nat) (ht : P.underlying t = some (.slice e)) (hf : flat P n e = some ks) (hC : P.cellsOf e = ks.length)
    (h : DataW.trod enc P w base spare held fuel t cs = some x) :
    (cs = [.slice none 0 0]) ∨
    ∃ (a : Addr) (len cap : Nat), cs = [.slice (some a) len cap] ∧ len ≤ cap ∧ cap ≤ maxLen ∧ ∀ i, i < len → ∃ c : List Value, Ints ks c ∧ ∀ j u, c[j]? = some u → w.cell? (a.add (i * ks.length + j)) = some u := by
  rcases open_slice ht h with h0 | ⟨a, len, cap, m, n', D, Pl, hcs, hb, hl, hm, hmm, hx, hi⟩
  · exact .inl h0.1
  · refine .inr ⟨a, len, cap, hcs, hl, hm, fun i hil => ?_⟩
    have him : i < m := by rw [hmm]; split <;> omega
    obtain ⟨c, hc, ht'⟩ := hi i him
    rw [hC] at hc
    obtain ⟨_, hcl, hat⟩ := World.cells?_some hc
    have hI := flat_trod n hf ht'
    refine ⟨c, hI, fun j u hj => ?_⟩
    have hjl : j < ks.length := by have := (List.getElem?_eq_some_iff.1 hj).1; rw [hI.length] at this; exact this
    rw [← Go.Deep.add_add, hat j hjl, ← hj]
end
end Go.Proofs.YtfeniekapmbjjaaDoor.R

/- Which owners are valid, by the program and by the reference: the same. No condition but that the numbers are within their kinds. -/
namespace Go.Proofs.YtfeniekapmbjjaaDoor
open Go.RowKit
set_option linter.unusedSimpArgs false
set_option linter.unusedVariables false

/-- One number's owner, tested. -/
def ownB (x : Bool) (o : Int) : Bool := !((x && !inB o 0 9) || (!x && o != -1))
/-- All numbers' owners. -/
def ownAll (F : Fld) (os : List Int) : Bool := allB 100 fun i => ownB (F.has (i : Int)) (nth os i)
/-- Owners' numbers, each within its kind. -/
structure OsOk (os : List Int) : Prop where
  len : os.length = 100
  b : ∀ z ∈ os, -128 ≤ z ∧ z ≤ 127
theorem OsOk.nb {os : List Int} (h : OsOk os) {i : Nat} (hi : i < 100) : -128 ≤ nth os i ∧ nth os i ≤ 127 := by
  have hl : i < os.length := by rw [h.len]; exact hi
  unfold nth
  rw [List.getD_eq_getElem?_getD, List.getElem?_eq_getElem hl]
  exact h.b _ (List.getElem_mem hl)

set_option maxHeartbeats 1000000 in
theorem areOwners_any (F : Fld) (ho : F.Ok) (os : List Int) (hs : OsOk os) (b c : Nat) (w : World) (hf : IsF w b F) (hc : Blk w c (vrow .i8 os) 32) :
    Calls Tryd.prog 38 #[.pointer (some ⟨b, 0, none⟩), .pointer (some ⟨c, 0, none⟩)] w fun e w' => e = .returned (.bool (ownAll F os)) ∧ Below w.heap.size w w' := by
  have HF := Lib.hid hf
  have HO := Lib.hid ho
  have HS := Lib.hid hs
  have HC := Lib.hid hc
  clear hf ho hs hc
  go_enter Tryd.func38, Tryd.ntmps38
  go_wp2
  go_loopw [8] (fun v wr => ∃ i : Nat, i ≤ 100 ∧ v = .int .i64 i ∧ Hid (∀ j, j < i → ownB (F.has (j : Int)) (nth os j) = true) ∧ ∃ n, wr = w.drewN n) (fun v _ => 100 - (intOf v).toNat)
  case atStart => exact ⟨0, by omega, rfl, Lib.hid (fun j hj => by omega), 0, rfl⟩
  case round =>
    obtain ⟨i, hi, rfl, HP, n, rfl⟩ := hrel
    by_cases hlt : i < 100
    · have ck := HC.out.cell (vrow_get (k := .i8) (zs := os) (i := i) (by rw [HS.out.len]; exact hlt))
      have kb := HS.out.nb hlt
      obtain ⟨kb0, kb1⟩ := kb
      cases hx : F.has (i : Int) <;> cases hr : inB (nth os i) 0 9 <;> cases b2 : (nth os i != -1)
      all_goals
        have HX := Lib.hid hx
        have HR := Lib.hid hr
        cases hq : ownB (F.has (i : Int)) (nth os i)
        · first
          | (exfalso; revert hq; simp [ownB, hx, hr, b2]; done)
          | (have HD : Hid (ownAll F os = false) := Lib.hid (allB_no i hlt hq)
             clear hx hr hq
             go_wp2
             go_quiet (fail)
             go_wp2_with (first
               | (go_at_call 49; refine (has_any F _ _ _ (HF.out.drewN _) HO.out).mono ?_; rintro e w' ⟨rfl, rfl⟩; rw [HX.out])
               | (go_at_call 44; refine (within_any _ _ _ _).mono ?_; rintro e w' ⟨rfl, rfl⟩; rw [HR.out]))
             go_ret
             exact ⟨ret_bool HD.out.symm, below_drewN (Below.refl _ _) _⟩)
        · first
          | (exfalso; revert hq; simp [ownB, hx, hr, b2]; done)
          | (have HD := Lib.hid hq
             clear hx hr hq
             go_wp2
             go_quiet (fail)
             go_wp2_with (first
               | (go_at_call 49; refine (has_any F _ _ _ (HF.out.drewN _) HO.out).mono ?_; rintro e w' ⟨rfl, rfl⟩; rw [HX.out])
               | (go_at_call 44; refine (within_any _ _ _ _).mono ?_; rintro e w' ⟨rfl, rfl⟩; rw [HR.out]))
             go_roundw
             case rel => exact ⟨i + 1, by omega, by go_num, Lib.hid (fun j hj => by
                rcases Nat.lt_or_ge j i with h | h
                · exact HP.out j h
                · have e : j = i := by omega
                  rw [e]; exact HD.out), _, rfl⟩
             case measure => simp [intOf]; omega)
    · have HV : Hid (ownAll F os = true) := Lib.hid (allB_yes fun j hj => HP.out j (by omega))
      go_wp2
      go_ret
      exact ⟨ret_bool HV.out.symm, below_drewN (Below.refl _ _) _⟩

set_option maxHeartbeats 1000000 in
theorem l06Owners_any (F : Fld) (ho : F.Ok) (os : List Int) (hs : OsOk os) (b c : Nat) (w : World) (hf : IsF w b F) (hc : Blk w c (vrow .i8 os) 32) :
    Calls Tryd.prog 13 #[.pointer (some ⟨b, 0, none⟩), .pointer (some ⟨c, 0, none⟩)] w fun e w' => e = .returned (.bool (F.valid && ownAll F os)) ∧ w = w' := by
  have HF := Lib.hid hf
  have HO := Lib.hid ho
  have HS := Lib.hid hs
  have HC := Lib.hid hc
  clear hf ho hs hc
  go_enter Tryd.func13, Tryd.ntmps13
  cases hv : F.valid
  · have HV := Lib.hid hv
    clear hv
    go_wp2_with (go_at_call 32; refine (l01Ok_any F HO.out _ _ HF.out).mono ?_; rintro e w' ⟨rfl, rfl⟩; rw [HV.out])
    go_ret
    exact ⟨ret_bool (by simp), rfl⟩
  have HV := Lib.hid hv
  clear hv
  go_wp2_with (go_at_call 32; refine (l01Ok_any F HO.out _ _ HF.out).mono ?_; rintro e w' ⟨rfl, rfl⟩; rw [HV.out])
  go_loop [5] (fun v => ∃ i : Nat, i ≤ 100 ∧ v = .int .i64 i ∧ Hid (∀ j, j < i → ownB (F.has (j : Int)) (nth os j) = true)) (fun v => 100 - (intOf v).toNat)
  case atStart => exact ⟨0, by omega, rfl, Lib.hid (fun j hj => by omega)⟩
  case round =>
    obtain ⟨i, hi, rfl, HP⟩ := hrel
    by_cases hlt : i < 100
    · have ck := HC.out.cell (vrow_get (k := .i8) (zs := os) (i := i) (by rw [HS.out.len]; exact hlt))
      have kb := HS.out.nb hlt
      obtain ⟨kb0, kb1⟩ := kb
      cases hx : F.has (i : Int) <;> cases hr : inB (nth os i) 0 9 <;> cases b2 : (nth os i != -1)
      all_goals
        have HX := Lib.hid hx
        have HR := Lib.hid hr
        cases hq : ownB (F.has (i : Int)) (nth os i)
        · first
          | (exfalso; revert hq; simp [ownB, hx, hr, b2]; done)
          | (have HD : Hid (ownAll F os = false) := Lib.hid (allB_no i hlt hq)
             clear hx hr hq
             go_wp2_with (first
               | (go_at_call 33; refine (is_any F _ _ _ HF.out HO.out).mono ?_; rintro e w' ⟨rfl, rfl⟩; rw [HX.out])
               | (go_at_call 34; refine (in_any _ _ _ _).mono ?_; rintro e w' ⟨rfl, rfl⟩; rw [HR.out]))
             go_ret
             exact ⟨ret_bool (by simp [HD.out]), rfl⟩)
        · first
          | (exfalso; revert hq; simp [ownB, hx, hr, b2]; done)
          | (have HD := Lib.hid hq
             clear hx hr hq
             go_wp2_with (first
               | (go_at_call 33; refine (is_any F _ _ _ HF.out HO.out).mono ?_; rintro e w' ⟨rfl, rfl⟩; rw [HX.out])
               | (go_at_call 34; refine (in_any _ _ _ _).mono ?_; rintro e w' ⟨rfl, rfl⟩; rw [HR.out]))
             go_round
             case rel => exact ⟨i + 1, by omega, by go_num, Lib.hid (fun j hj => by
                rcases Nat.lt_or_ge j i with h | h
                · exact HP.out j h
                · have e : j = i := by omega
                  rw [e]; exact HD.out)⟩
             case measure => simp [intOf]; omega)
    · have HW : Hid (ownAll F os = true) := Lib.hid (allB_yes fun j hj => HP.out j (by omega))
      go_wp2
      go_ret
      exact ⟨ret_bool (by simp [HW.out]), rfl⟩

/-- Two arguments boxed. -/
theorem boxed2 (w : World) (cs ds : List Value) (T U : TypeId) : Cls w [(w.heap.size, cs, T), (w.heap.size + 1, ds, U)] ((w.alloc (.cells cs.toArray T)).alloc (.cells ds.toArray U)) := by
  refine ⟨((Below.refl _ _).alloc (Nat.le_refl _) _).alloc (by simp) _, fun x hx => ?_⟩
  simp only [List.mem_cons, List.not_mem_nil, or_false] at hx
  rcases hx with rfl | rfl
  · exact (Blk.new' w cs T).alloc _
  · exact Blk.newAt (by simp)

theorem iValidOwners_any (F : Fld) (ho : F.Ok) (os : List Int) (hs : OsOk os) (w : World) :
    Calls Tryd.prog 17 #[.agg F.vals.toArray, .agg (vrow .i8 os).toArray] w fun e w' => e = .returned (.bool (F.valid && ownAll F os)) ∧ Below w.heap.size w w' := by
  have HO := Lib.hid ho
  have HS := Lib.hid hs
  clear ho hs
  go_enter Tryd.func17, Tryd.ntmps17
  go_upto_region 1 with (fail)
  obtain ⟨W, hW⟩ : ∃ W, W = (w.alloc (.cells F.vals.toArray 30)).alloc (.cells (vrow .i8 os).toArray 32) := ⟨_, rfl⟩
  have HC := Lib.hid (boxed2 w F.vals (vrow .i8 os) 30 32)
  rw [← hW] at HC ⊢
  clear hW
  have HA := Lib.hid (HC.out.blk (w.heap.size, F.vals, 30) (by simp))
  cases hv : F.valid
  · have HV := Lib.hid hv
    clear hv
    go_wp2_with (first
      | (with_reducible refine wpList_load_blk rfl 30 (.tmp 2) rfl _ 0 rfl F.vals _ HA.out (by rw [List.drop_zero, List.take_length]) Tryd.underlying30 rfl (by rw [HO.out.len]; kernel_rfl) ?_)
      | (go_at_call 37; (with_reducible refine (validField_any F HO.out _).mono ?_); rintro e w' ⟨rfl, hb⟩; rw [HV.out]; have HB := Lib.hid (HC.out.step hb); clear hb))
    go_ret
    exact ⟨ret_bool (by simp [HV.out]), HB.out.below⟩
  · have HV := Lib.hid hv
    clear hv
    go_wp2_with (first
      | (with_reducible refine wpList_load_blk rfl 30 (.tmp 2) rfl _ 0 rfl F.vals _ HA.out (by rw [List.drop_zero, List.take_length]) Tryd.underlying30 rfl (by rw [HO.out.len]; kernel_rfl) ?_)
      | (go_at_call 37; (with_reducible refine (validField_any F HO.out _).mono ?_); rintro e w' ⟨rfl, hb⟩; rw [HV.out]; have HB := Lib.hid (HC.out.step hb); clear hb)
      | (go_at_call 38; (with_reducible refine (areOwners_any F HO.out os HS.out _ _ _ (HB.out.blk (w.heap.size, F.vals, 30) (by simp)) (HB.out.blk (w.heap.size + 1, vrow .i8 os, 32) (by simp))).mono ?_); rintro e w' ⟨rfl, hb⟩; have HB2 := Lib.hid (HB.out.step hb); clear hb))
    go_ret
    exact ⟨ret_bool (by simp [HV.out]), HB2.out.below⟩
end Go.Proofs.YtfeniekapmbjjaaDoor

/- Arguments' cells as fields, owners, sets. No condition. -/
namespace Go.Proofs.YtfeniekapmbjjaaDoor
open Go.RowKit
set_option linter.unusedSimpArgs false
set_option linter.unusedVariables false

theorem wf_i8 {z : Int} (h : (Lit.int .i8 z).wf = true) : -128 ≤ z ∧ z ≤ 127 := bounds_i8 h
theorem wf_u8 {z : Int} (h : (Lit.int .u8 z).wf = true) : 0 ≤ z ∧ z ≤ 255 := by
  simp [Lit.wf, IntKind.min, IntKind.max, IntKind.signed, IntKind.bits] at h; omega
theorem wf_i16 {z : Int} (h : (Lit.int .i16 z).wf = true) : -32768 ≤ z ∧ z ≤ 32767 := by
  simp [Lit.wf, IntKind.min, IntKind.max, IntKind.signed, IntKind.bits] at h; omega

abbrev fldKinds : List IntKind := [.i8, .i8] ++ (List.replicate 100 .u8 ++ List.replicate 100 .i16)

theorem fld_of_ints {cs : List Value} (h : R.Ints fldKinds cs) : ∃ F : Fld, F.Ok ∧ cs = F.vals := by
  obtain ⟨c1, c2, rfl, h1, h2⟩ := R.Ints.split h
  obtain ⟨c3, c4, rfl, h3, h4⟩ := R.Ints.split h2
  obtain ⟨a, c, rfl, ha, h1⟩ := h1.cons
  obtain ⟨b, c, rfl, hb, h1⟩ := h1.cons
  obtain rfl := h1.nil
  obtain ⟨ks, kl, rfl, hk⟩ := R.Ints.same h3
  obtain ⟨ss, sl, rfl, hs⟩ := R.Ints.same h4
  exact ⟨⟨a, b, ks, ss⟩, ⟨(wf_i8 ha).1, (wf_i8 ha).2, (wf_i8 hb).1, (wf_i8 hb).2, kl, sl, fun z hz => wf_u8 (hk z hz), fun z hz => wf_i16 (hs z hz)⟩, rfl⟩

theorem os_of_ints {cs : List Value} (h : R.Ints (List.replicate 100 .i8) cs) : ∃ os : List Int, OsOk os ∧ cs = vrow .i8 os := by
  obtain ⟨ks, kl, rfl, hk⟩ := R.Ints.same h
  exact ⟨ks, ⟨kl, fun z hz => wf_i8 (hk z hz)⟩, rfl⟩
end Go.Proofs.YtfeniekapmbjjaaDoor

/- Two fields held against each other: what the program and the reference say of their losses. No condition but that the numbers are within their kinds. -/
namespace Go.Proofs.YtfeniekapmbjjaaDoor
open Go.RowKit
set_option linter.unusedSimpArgs false
set_option linter.unusedVariables false

def sameB (F G : Fld) : Bool := (F.wide == G.wide) && ((F.high == G.high) && (F.kinds == G.kinds))
def lessB (F G : Fld) : Bool := allB 100 fun i => decide (G.seed i ≤ F.seed i)
noncomputable def pairCode (F G : Fld) : Int := if (F.valid && G.valid) = true then (if (sameB F G && lessB F G) = true then 0 else 4) else 1
theorem pairCode_inv {F G : Fld} (h : (F.valid && G.valid) = false) : pairCode F G = 1 := by unfold pairCode; rw [h]; rfl
theorem pairCode_st {F G : Fld} (h : (F.valid && G.valid) = true) (h2 : (sameB F G && lessB F G) = false) : pairCode F G = 4 := by unfold pairCode; rw [h, h2]; rfl
theorem pairCode_ok {F G : Fld} (h : (F.valid && G.valid) = true) (h2 : (sameB F G && lessB F G) = true) : pairCode F G = 0 := by unfold pairCode; rw [h, h2]; rfl

theorem size_of_info {P : Program} {t : TypeId} {n : Nat} (h : (P.info? t).map (·.size) = some n) : ∀ w, (sizeOf t).run P w = .ok n w := fun w => by
  cases hq : P.info? t with
  | none => simp [hq] at h
  | some i =>
    simp [hq] at h
    simp [sizeOf, typeInfo, hq, h]

/-- An element of an array by value. -/
theorem run_index_row {P : Program} (w : World) (t e : TypeId) (k q : IntKind) (n : Nat) (ht : P.underlying t = some (.array n e)) (he : P.underlying e = some (.int k)) (hsz : ∀ w, (sizeOf e).run P w = .ok 1 w)
    (xs : List Int) (hx : xs.length = n) {i : Nat} (hi : i < n) : (Instr.index t (.agg (vrow k xs).toArray) (.int q (i : Int))).run P w = .ok (.int k (nth xs i)) w := by
  have hp : (part e (vrow k xs).toArray (i * 1)).run P w = .ok (.int k (nth xs i)) w := by
    simp [part, isAgg, run_underlying he, vrow, nth, List.getD, List.getElem?_eq_getElem (show i < xs.length by omega)]
  have hc : (0 : Int) ≤ (i : Int) ∧ (i : Int) < (n : Int) := by omega
  unfold Instr.index
  simp only [asIntOf, Sem.run_bind, Sem.run_pure, Result.andThen_ok, run_underlying ht, if_pos hc, hsz, Int.toNat_natCast, hp]

/-- The array's loads and the test, in a region that draws its order. -/
theorem q_neq_row {P : Program} {ops : Array Oper} {C : World → Prop} {Qa : Act → Prop} {rest : List Oper} {oi : Oper} {a : Act} (N : Option Tmp) (hd : oi.dst = N) (hw : Region.wanted oi (yielded ops a.tmps) = true) (t t' : TypeId) (x y : Operand) (ho : oi.op = .binOp .neq t x y t')
    (e : TypeId) (k : IntKind) (n : Nat) (ht : P.underlying t = some (.array n e)) (he : P.underlying e = some (.int k)) (hsz : ∀ w, (sizeOf e).run P w = .ok 1 w) (hm : P.eqGuardType P.depth t = false)
    (xs ys : List Int) (hx : xs.length = n) (hy : ys.length = n) (hvx : a.eval x = .agg (vrow k xs).toArray) (hvy : a.eval y = .agg (vrow k ys).toArray)
    (h : wpQuiet P ops C Qa rest (a.put N (.bool (!(xs == ys))))) : wpQuiet P ops C Qa (oi :: rest) a := by
  refine q_value N hd hw _ (fun w _ => ?_) h
  unfold execOp
  simp only [ho, hvx, hvy]
  simp [run_eqGuard_agg, hm, run_neq_row w t e k n ht he hsz xs ys hx hy]

end Go.Proofs.YtfeniekapmbjjaaDoor

/- Two fields held against each other, by the reference; sums of seeds; all losses. No condition but that the numbers are within their kinds. -/
namespace Go.Proofs.YtfeniekapmbjjaaDoor
open Go.RowKit
set_option linter.unusedSimpArgs false
set_option linter.unusedVariables false

/-- The sum of the first seeds. -/
def Fld.sumTo (F : Fld) : Nat → Int
  | 0 => 0
  | i + 1 => Fld.sumTo F i + F.seed i
theorem Fld.sumTo_bd {F : Fld} (h : F.Ok) : ∀ i : Nat, -(32768 * (i : Int)) ≤ F.sumTo i ∧ F.sumTo i ≤ 32768 * (i : Int)
  | 0 => ⟨by simp [Fld.sumTo], by simp [Fld.sumTo]⟩
  | i + 1 => by
    have h1 := Fld.sumTo_bd h i
    have h2 := h.sb i
    simp only [Fld.sumTo]
    omega

/-- All losses, and the code. -/
noncomputable def allLoss (F G : Fld) : Int × Int := if pairCode F G = 0 then (F.sumTo 100 - G.sumTo 100, 0) else (0, pairCode F G)

end Go.Proofs.YtfeniekapmbjjaaDoor

/- The losses of all cells, by the program and by the reference: the same. No condition but that the numbers are within their kinds. -/
namespace Go.Proofs.YtfeniekapmbjjaaDoor
open Go.RowKit
set_option linter.unusedSimpArgs false
set_option linter.unusedVariables false

/-- A body that ends with two results, the first of which lies in a block. -/
theorem post_blk2 {P : Program} {fn : Func} {R : Ending → World → Prop} {a : Act} {w : World} {p q : Tmp} {ty T : TypeId} {g : Nat} {cs : List Value} {d : TypeDesc} {v : Value} (hr : fn.results = #[.cell p ty, .tmp q]) (hd : a.defers = [])
    (hp : a.tmps.getD p undef = .pointer (some ⟨g, 0, none⟩)) (hq : a.tmps.getD q undef = v) (hB : Blk w g cs T) (hu : P.underlying ty = some d) (hd' : d.isRow = true) (hi : (P.info? ty).map (·.size) = some cs.length)
    (h : R (.returned (.tuple #[.agg cs.toArray, v])) w) : bodyPost P fn R .ret a w := by
  refine ⟨hd, _, ?_, h⟩
  have hp' : a.tmps[p]?.getD undef = .pointer (some ⟨g, 0, none⟩) := by simpa using hp
  have hq' : a.tmps[q]?.getD undef = v := by simpa using hq
  have hl := run_loadVar_row (P := P) w g T ty cs.toArray (0, 0) d hB hu (by cases d <;> simp_all [TypeDesc.isRow]) (by simpa using hi)
  simp [results, hr, hp', hq', asAddr, hl]

/-- Zeros stored into a block of zeros, made behind another one. -/
theorem store_same (w : World) (R Z : List Value) (U T : TypeId) (hi : (Tryd.prog.info? T).map (·.size) = some Z.length) (h1 : ∀ v ∈ Z, v.oneCell' = true) :
    Sem.run Tryd.prog (storeCells ⟨w.heap.size + 1, 0, none⟩ Z) ((w.alloc (.cells R.toArray U)).alloc (.cells Z.toArray T)) = .ok () ((w.alloc (.cells R.toArray U)).alloc (.cells Z.toArray T)) := by
  have := run_storeCells_new (P := Tryd.prog) (w.alloc (.cells R.toArray U)) T Z.toArray Z.toArray (by simpa using hi) rfl (all_oneCell_toArray h1)
  simpa using this

def lossList (F G : Fld) : List Int := (List.range 100).map fun i => IntKind.i16.wrap (F.seed i - G.seed i)
theorem lossList_len (F G : Fld) : (lossList F G).length = 100 := by simp [lossList]
theorem lossList_nth (F G : Fld) {i : Nat} (h : i < 100) : nth (lossList F G) i = IntKind.i16.wrap (F.seed i - G.seed i) := by
  simp [nth, lossList, List.getD_eq_getElem?_getD, List.getElem?_map, List.getElem?_range h]

end Go.Proofs.YtfeniekapmbjjaaDoor
