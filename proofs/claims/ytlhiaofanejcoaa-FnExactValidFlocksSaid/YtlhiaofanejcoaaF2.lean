/- Arguments copied, number by number: what comes is what was. No condition but the lengths. -/
import Derived.Test.YtlhiaofanejcoaaF1
namespace Go.Proofs.Ytlhiaofanejcoaa
open Go.RowKit
set_option linter.unusedSimpArgs false
set_option linter.unusedVariables false

def zrow (k : IntKind) (n : Nat) : List Value := List.replicate n (.int k 0)
theorem zrow_len (k : IntKind) (n : Nat) : (zrow k n).length = n := by simp [zrow]
def vrow (k : IntKind) (zs : List Int) : List Value := zs.map (Value.int k)
theorem vrow_len (k : IntKind) (zs : List Int) : (vrow k zs).length = zs.length := by simp [vrow]
theorem vrow_get {k : IntKind} {zs : List Int} {i : Nat} (h : i < zs.length) : (vrow k zs)[i]? = some (.int k (nth zs i)) := by
  simp [vrow, nth, List.getElem?_eq_getElem h, List.getD_eq_getElem?_getD]
theorem vrow_one (k : IntKind) (zs : List Int) : ∀ v ∈ vrow k zs, v.oneCell' = true := one_ints k zs

/-- Half copied. -/
def half (k : IntKind) (zs : List Int) (n i : Nat) : List Value := (vrow k zs).take i ++ (zrow k n).drop i
theorem half_len {k : IntKind} {zs : List Int} {n i : Nat} (hl : zs.length = n) (hi : i ≤ n) : (half k zs n i).length = n := by
  simp [half, vrow_len, zrow_len, hl]; omega
theorem half_zero (k : IntKind) (zs : List Int) (n : Nat) : half k zs n 0 = zrow k n := by simp [half]
theorem half_all {k : IntKind} {zs : List Int} {n : Nat} (hl : zs.length = n) : half k zs n n = vrow k zs := by
  unfold half
  rw [List.take_of_length_le (by rw [vrow_len]; omega), List.drop_eq_nil_iff.2 (by rw [zrow_len]; omega), List.append_nil]
theorem half_set {k : IntKind} {zs : List Int} {n i : Nat} (hl : zs.length = n) (hi : i < n) : (half k zs n i).set i (.int k (nth zs i)) = half k zs n (i + 1) := by
  unfold half
  have hv : i < (vrow k zs).length := by rw [vrow_len]; omega
  have hz : i < (zrow k n).length := by rw [zrow_len]; omega
  rw [List.set_append_right _ _ (by rw [List.length_take]; omega), List.length_take, Nat.min_eq_left (by omega), Nat.sub_self, List.drop_eq_getElem_cons hz, List.set_cons_zero,
    List.take_succ_eq_append_getElem hv, List.append_assoc, List.singleton_append]
  have h1 := vrow_get (k := k) (zs := zs) (i := i) (by omega)
  rw [List.getElem?_eq_getElem hv] at h1
  rw [Option.some.inj h1]

/-- toByteA100: what comes is what was. -/
theorem bytes_any (zs : List Int) (hl : zs.length = 100) (w : World) :
    Calls Try.prog 56 #[.agg (vrow .u8 zs).toArray] w fun e w' => e = .returned (.agg (vrow .u8 zs).toArray) ∧ Below w.heap.size w w' := by
  have hz : ∀ w, (zeroValue 23).run Try.prog w = .ok (.agg (zrow .u8 100).toArray) w := fun w => (zero_of_info (by kernel_rfl : (Try.prog.info? 23).map (fun i => (i.zero, i.size)) = some (some (.agg (zrow .u8 100).toArray), 100))).1 w
  go_enter Try.func56, Try.ntmps56
  go_wp2
  go_loopw [4] (fun t wr => ∃ i : Nat, i ≤ 100 ∧ t = .int .i64 i ∧ Blk wr w.heap.size (vrow .u8 zs) 23 ∧ Blk wr (w.heap.size + 1) (zrow .u8 100) 23 ∧ Blk wr (w.heap.size + 1 + 1) (half .u8 zs 100 i) 23 ∧ Below w.heap.size w wr) (fun t _ => 100 - (intOf t).toNat)
  case atStart =>
    refine ⟨0, by omega, rfl, ?_, ?_, ?_, ?_⟩
    · exact ((Blk.new' _ _ _).alloc _).alloc _
    · exact (Blk.newAt (by simp)).alloc _
    · rw [half_zero]; exact Blk.newAt (by simp)
    · exact (((Below.refl _ _).alloc (Nat.le_refl _) _).alloc (by simp) _).alloc (by simp; omega) _
  case round =>
    obtain ⟨i, hi, rfl, HA0, HR0, HL0, HB0⟩ := hrel
    have HA := Lib.hid HA0
    have HR := Lib.hid HR0
    have HL := Lib.hid HL0
    have HB := Lib.hid HB0
    by_cases hlt : i < 100
    · have c1 := HA0.cell (vrow_get (k := .u8) (zs := zs) (i := i) (by omega))
      have c2 := HL0.cell (List.getElem?_eq_getElem (show i < (half .u8 zs 100 i).length by rw [half_len hl hi]; exact hlt))
      have f2 := HL0.free i
      clear HA0 HR0 HL0 HB0
      go_wp2
      go_roundw
      case rel =>
        refine ⟨i + 1, by omega, by go_num, HA.out.setOther (by omega) _ _, HR.out.setOther (by omega) _ _, ?_, below_setCell HB.out (by omega) _ _⟩
        rw [← half_set hl hlt]
        exact HL.out.set _ _
      case measure => simp [intOf]; omega
    · have e : i = 100 := by omega
      have HL' : Blk wr (w.heap.size + 1 + 1) (vrow .u8 zs) 23 := by rw [← half_all hl]; rw [e] at HL0; exact HL0
      have HW := Lib.hid HL'
      clear HA0 HR0 HL0 HB0 HL' e
      go_wp2_with (first
        | (with_reducible refine wpList_load_blk rfl 23 (.tmp 3) rfl _ 0 rfl (vrow .u8 zs) _ HW.out (by rw [List.drop_zero, List.take_length]) Try.underlying23 rfl (by rw [vrow_len, hl]; kernel_rfl) ?_)
        | (with_reducible refine wpList_store_all rfl 23 (.tmp 2) (.tmp 14) rfl _ (vrow .u8 zs) rfl rfl HR.out (by rw [vrow_len, zrow_len, hl]) (by rw [vrow_len, hl]; kernel_rfl) (vrow_one _ _) ?_))
      exact post_blk (p := 2) (T := 23) rfl rfl rfl (HR.out.row _) Try.underlying23 rfl (by rw [vrow_len, hl]; kernel_rfl) ⟨rfl, below_setRow HB.out (by omega) _⟩

/-- toInt16A100: what comes is what was. -/
theorem int16s_any (zs : List Int) (hl : zs.length = 100) (w : World) :
    Calls Try.prog 57 #[.agg (vrow .i16 zs).toArray] w fun e w' => e = .returned (.agg (vrow .i16 zs).toArray) ∧ Below w.heap.size w w' := by
  have hz : ∀ w, (zeroValue 25).run Try.prog w = .ok (.agg (zrow .i16 100).toArray) w := fun w => (zero_of_info (by kernel_rfl : (Try.prog.info? 25).map (fun i => (i.zero, i.size)) = some (some (.agg (zrow .i16 100).toArray), 100))).1 w
  go_enter Try.func57, Try.ntmps57
  go_wp2
  go_loopw [4] (fun t wr => ∃ i : Nat, i ≤ 100 ∧ t = .int .i64 i ∧ Blk wr w.heap.size (vrow .i16 zs) 25 ∧ Blk wr (w.heap.size + 1) (zrow .i16 100) 25 ∧ Blk wr (w.heap.size + 1 + 1) (half .i16 zs 100 i) 25 ∧ Below w.heap.size w wr) (fun t _ => 100 - (intOf t).toNat)
  case atStart =>
    refine ⟨0, by omega, rfl, ?_, ?_, ?_, ?_⟩
    · exact ((Blk.new' _ _ _).alloc _).alloc _
    · exact (Blk.newAt (by simp)).alloc _
    · rw [half_zero]; exact Blk.newAt (by simp)
    · exact (((Below.refl _ _).alloc (Nat.le_refl _) _).alloc (by simp) _).alloc (by simp; omega) _
  case round =>
    obtain ⟨i, hi, rfl, HA0, HR0, HL0, HB0⟩ := hrel
    have HA := Lib.hid HA0
    have HR := Lib.hid HR0
    have HL := Lib.hid HL0
    have HB := Lib.hid HB0
    by_cases hlt : i < 100
    · have c1 := HA0.cell (vrow_get (k := .i16) (zs := zs) (i := i) (by omega))
      have c2 := HL0.cell (List.getElem?_eq_getElem (show i < (half .i16 zs 100 i).length by rw [half_len hl hi]; exact hlt))
      have f2 := HL0.free i
      clear HA0 HR0 HL0 HB0
      go_wp2
      go_roundw
      case rel =>
        refine ⟨i + 1, by omega, by go_num, HA.out.setOther (by omega) _ _, HR.out.setOther (by omega) _ _, ?_, below_setCell HB.out (by omega) _ _⟩
        rw [← half_set hl hlt]
        exact HL.out.set _ _
      case measure => simp [intOf]; omega
    · have e : i = 100 := by omega
      have HL' : Blk wr (w.heap.size + 1 + 1) (vrow .i16 zs) 25 := by rw [← half_all hl]; rw [e] at HL0; exact HL0
      have HW := Lib.hid HL'
      clear HA0 HR0 HL0 HB0 HL' e
      go_wp2_with (first
        | (with_reducible refine wpList_load_blk rfl 25 (.tmp 3) rfl _ 0 rfl (vrow .i16 zs) _ HW.out (by rw [List.drop_zero, List.take_length]) Try.underlying25 rfl (by rw [vrow_len, hl]; kernel_rfl) ?_)
        | (with_reducible refine wpList_store_all rfl 25 (.tmp 2) (.tmp 14) rfl _ (vrow .i16 zs) rfl rfl HR.out (by rw [vrow_len, zrow_len, hl]) (by rw [vrow_len, hl]; kernel_rfl) (vrow_one _ _) ?_))
      exact post_blk (p := 2) (T := 25) rfl rfl rfl (HR.out.row _) Try.underlying25 rfl (by rw [vrow_len, hl]; kernel_rfl) ⟨rfl, below_setRow HB.out (by omega) _⟩

/-- toOwners: what comes is what was. -/
theorem toOwners_any (zs : List Int) (hl : zs.length = 100) (w : World) :
    Calls Try.prog 17 #[.agg (vrow .i8 zs).toArray] w fun e w' => e = .returned (.agg (vrow .i8 zs).toArray) ∧ Below w.heap.size w w' := by
  have hz : ∀ w, (zeroValue 32).run Try.prog w = .ok (.agg (zrow .i8 100).toArray) w := fun w => (zero_of_info (by kernel_rfl : (Try.prog.info? 32).map (fun i => (i.zero, i.size)) = some (some (.agg (zrow .i8 100).toArray), 100))).1 w
  go_enter Try.func17, Try.ntmps17
  go_wp2
  go_loopw [4] (fun t wr => ∃ i : Nat, i ≤ 100 ∧ t = .int .i64 i ∧ Blk wr w.heap.size (vrow .i8 zs) 28 ∧ Blk wr (w.heap.size + 1) (zrow .i8 100) 32 ∧ Blk wr (w.heap.size + 1 + 1) (half .i8 zs 100 i) 32 ∧ Below w.heap.size w wr) (fun t _ => 100 - (intOf t).toNat)
  case atStart =>
    refine ⟨0, by omega, rfl, ?_, ?_, ?_, ?_⟩
    · exact ((Blk.new' _ _ _).alloc _).alloc _
    · exact (Blk.newAt (by simp)).alloc _
    · rw [half_zero]; exact Blk.newAt (by simp)
    · exact (((Below.refl _ _).alloc (Nat.le_refl _) _).alloc (by simp) _).alloc (by simp; omega) _
  case round =>
    obtain ⟨i, hi, rfl, HA0, HR0, HL0, HB0⟩ := hrel
    have HA := Lib.hid HA0
    have HR := Lib.hid HR0
    have HL := Lib.hid HL0
    have HB := Lib.hid HB0
    by_cases hlt : i < 100
    · have c1 := HA0.cell (vrow_get (k := .i8) (zs := zs) (i := i) (by omega))
      have c2 := HL0.cell (List.getElem?_eq_getElem (show i < (half .i8 zs 100 i).length by rw [half_len hl hi]; exact hlt))
      have f2 := HL0.free i
      clear HA0 HR0 HL0 HB0
      go_wp2
      go_roundw
      case rel =>
        refine ⟨i + 1, by omega, by go_num, HA.out.setOther (by omega) _ _, HR.out.setOther (by omega) _ _, ?_, below_setCell HB.out (by omega) _ _⟩
        rw [← half_set hl hlt]
        exact HL.out.set _ _
      case measure => simp [intOf]; omega
    · have e : i = 100 := by omega
      have HL' : Blk wr (w.heap.size + 1 + 1) (vrow .i8 zs) 32 := by rw [← half_all hl]; rw [e] at HL0; exact HL0
      have HW := Lib.hid HL'
      clear HA0 HR0 HL0 HB0 HL' e
      go_wp2_with (first
        | (with_reducible refine wpList_load_blk rfl 32 (.tmp 3) rfl _ 0 rfl (vrow .i8 zs) _ HW.out (by rw [List.drop_zero, List.take_length]) Try.underlying32 rfl (by rw [vrow_len, hl]; kernel_rfl) ?_)
        | (with_reducible refine wpList_store_all rfl 32 (.tmp 2) (.tmp 14) rfl _ (vrow .i8 zs) rfl rfl HR.out (by rw [vrow_len, zrow_len, hl]) (by rw [vrow_len, hl]; kernel_rfl) (vrow_one _ _) ?_))
      exact post_blk (p := 2) (T := 32) rfl rfl rfl (HR.out.row _) Try.underlying32 rfl (by rw [vrow_len, hl]; kernel_rfl) ⟨rfl, below_setRow HB.out (by omega) _⟩

end Go.Proofs.Ytlhiaofanejcoaa
