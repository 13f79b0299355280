/- A field, copied: what comes is what was. No condition but that the numbers are within their kinds. -/
import Derived.Test.YtlhiaofanejcoaaF2
namespace Go.Proofs.Ytlhiaofanejcoaa
open Go.RowKit
set_option linter.unusedSimpArgs false
set_option linter.unusedVariables false

def zfld : Fld := ⟨0, 0, List.replicate 100 0, List.replicate 100 0⟩
theorem zfld_ok : zfld.Ok := ⟨by decide, by decide, by decide, by decide, by simp [zfld], by simp [zfld], fun z hz => by rw [List.eq_of_mem_replicate hz]; decide, fun z hz => by rw [List.eq_of_mem_replicate hz]; decide⟩
theorem Fld.Ok.kpart {F : Fld} (h : F.Ok) : (F.vals.drop 2).take (vrow .u8 F.kinds).length = vrow .u8 F.kinds := by
  simp [Fld.vals, vrow]
theorem Fld.Ok.spart {F : Fld} (h : F.Ok) : (F.vals.drop 102).take (vrow .i16 F.seeds).length = vrow .i16 F.seeds := by
  have : F.vals.drop 102 = vrow .i16 F.seeds := by
    simp only [Fld.vals, List.drop_succ_cons, vrow]
    rw [List.drop_append_of_le_length (by simp [h.kl])]
    rw [List.drop_eq_nil_iff.2 (by simp [h.kl])]; simp
  rw [this, List.take_length]

/-- What is built, part by part. -/
def part1 (F : Fld) : List Value := (zfld.vals.set 0 (.int .i8 F.wide)).set 1 (.int .i8 F.high)
def part2 (F : Fld) : List Value := (part1 F).take 2 ++ vrow .u8 F.kinds ++ (part1 F).drop (2 + (vrow .u8 F.kinds).length)
def part3 (F : Fld) : List Value := (part2 F).take 102 ++ vrow .i16 F.seeds ++ (part2 F).drop (102 + (vrow .i16 F.seeds).length)
theorem part1_len (F : Fld) : (part1 F).length = 202 := by simp [part1, zfld_ok.len]
theorem part2_len {F : Fld} (h : F.Ok) : (part2 F).length = 202 := by simp [part2, part1_len, vrow_len, h.kl]
theorem part1_two (F : Fld) : (part1 F).take 2 = [.int .i8 F.wide, .int .i8 F.high] := rfl
theorem part3_eq {F : Fld} (h : F.Ok) : part3 F = F.vals := by
  have e : (part2 F).take 102 = [.int .i8 F.wide, .int .i8 F.high] ++ vrow .u8 F.kinds := by
    unfold part2
    rw [part1_two, List.take_append_of_le_length (by simp [vrow_len, h.kl]), List.take_of_length_le (by simp [vrow_len, h.kl])]
  unfold part3
  rw [e, List.drop_eq_nil_iff.2 (by rw [part2_len h, vrow_len, h.sl]; omega), List.append_nil]
  rfl

theorem toField_any (F : Fld) (ho : F.Ok) (w : World) :
    Calls Try.prog 16 #[.agg F.vals.toArray] w fun e w' => e = .returned (.agg F.vals.toArray) ∧ Below w.heap.size w w' := by
  have hz : ∀ w, (zeroValue 30).run Try.prog w = .ok (.agg zfld.vals.toArray) w := fun w => (zero_of_info (by kernel_rfl : (Try.prog.info? 30).map (fun i => (i.zero, i.size)) = some (some (.agg zfld.vals.toArray), 202))).1 w
  go_enter Try.func16, Try.ntmps16
  go_upto_region 2 with (fail)
  obtain ⟨W, hW⟩ : ∃ W, W = ((w.alloc (.cells F.vals.toArray 27)).alloc (.cells zfld.vals.toArray 30)).alloc (.cells zfld.vals.toArray 30) := ⟨_, rfl⟩
  have HA0 : Blk W w.heap.size F.vals 27 := by rw [hW]; exact ((Blk.new' _ _ _).alloc _).alloc _
  have HR0 : Blk W (w.heap.size + 1) zfld.vals 30 := by rw [hW]; exact (Blk.newAt (by simp)).alloc _
  have HL0 : Blk W (w.heap.size + 1 + 1) zfld.vals 30 := by rw [hW]; exact Blk.newAt (by simp)
  have HB0 : Below w.heap.size w W := by rw [hW]; exact (((Below.refl _ _).alloc (Nat.le_refl _) _).alloc (by simp) _).alloc (by simp; omega) _
  have HA := Lib.hid HA0
  have HR := Lib.hid HR0
  have HL := Lib.hid HL0
  have HB := Lib.hid HB0
  rw [← hW]
  have c1 : W.cell? ⟨w.heap.size, 0, none⟩ = some (.int .i8 F.wide) := HA0.cell (by simp [Fld.vals])
  have c2 : W.cell? ⟨w.heap.size + 1 + 1, 0, none⟩ = some (.int .i8 0) := HL0.cell rfl
  have f2 := HL0.free 0
  clear hW HA0 HR0 HL0 HB0
  go_upto_region 3 with (fail)
  obtain ⟨W1, hW⟩ : ∃ W1, W1 = W.setCell ⟨w.heap.size + 1 + 1, 0, none⟩ (.int .i8 F.wide) := ⟨_, rfl⟩
  have HA0 : Blk W1 w.heap.size F.vals 27 := by rw [hW]; exact HA.out.setOther (by omega) _ _
  have HR0 : Blk W1 (w.heap.size + 1) zfld.vals 30 := by rw [hW]; exact HR.out.setOther (by omega) _ _
  have HL0 : Blk W1 (w.heap.size + 1 + 1) (zfld.vals.set 0 (.int .i8 F.wide)) 30 := by rw [hW]; exact HL.out.set _ _
  have HB0 : Below w.heap.size w W1 := by rw [hW]; exact below_setCell HB.out (by omega) _ _
  clear HA HR HL HB c1 c2 f2
  have HA := Lib.hid HA0
  have HR := Lib.hid HR0
  have HL := Lib.hid HL0
  have HB := Lib.hid HB0
  rw [← hW]
  have c1 : W1.cell? ⟨w.heap.size, 1, none⟩ = some (.int .i8 F.high) := HA0.cell (by simp [Fld.vals])
  have c2 : W1.cell? ⟨w.heap.size + 1 + 1, 1, none⟩ = some (.int .i8 0) := HL0.cell rfl
  have f2 := HL0.free 1
  clear hW HA0 HR0 HL0 HB0
  go_upto_region 4 with (fail)
  obtain ⟨W2, hW⟩ : ∃ W2, W2 = W1.setCell ⟨w.heap.size + 1 + 1, 1, none⟩ (.int .i8 F.high) := ⟨_, rfl⟩
  have HA0 : Blk W2 w.heap.size F.vals 27 := by rw [hW]; exact HA.out.setOther (by omega) _ _
  have HR0 : Blk W2 (w.heap.size + 1) zfld.vals 30 := by rw [hW]; exact HR.out.setOther (by omega) _ _
  have HL0 : Blk W2 (w.heap.size + 1 + 1) (part1 F) 30 := by rw [hW]; exact HL.out.set _ _
  have HB0 : Below w.heap.size w W2 := by rw [hW]; exact below_setCell HB.out (by omega) _ _
  clear HA HR HL HB c1 c2 f2
  have HA := Lib.hid HA0
  have HR := Lib.hid HR0
  have HL := Lib.hid HL0
  have HB := Lib.hid HB0
  rw [← hW]
  clear hW HA0 HR0 HL0 HB0
  go_upto_region 5 with (first
    | (with_reducible refine wpList_load_blk rfl 23 (.tmp 10) rfl _ 2 rfl (vrow .u8 F.kinds) _ HA.out ho.kpart Try.underlying23 rfl (by rw [vrow_len, ho.kl]; kernel_rfl) ?_)
    | (go_at_call 56; (with_reducible refine (bytes_any F.kinds ho.kl _).mono ?_); rintro e W3 ⟨rfl, hb3⟩; have HA3 := Lib.hid (HA.out.below hb3 HA.out.lt); have HR3 := Lib.hid (HR.out.below hb3 HR.out.lt); have HL3 := Lib.hid (HL.out.below hb3 HL.out.lt); have HB3 := Lib.hid (HB.out.trans (hb3.mono HB.out.size)); clear hb3)
    | (with_reducible refine wpList_store_blk rfl 23 (.tmp 13) (.tmp 12) rfl _ 2 (vrow .u8 F.kinds) rfl rfl HL3.out (by simp [vrow_len, ho.kl, part1_len]) (by rw [vrow_len, ho.kl]; kernel_rfl) (vrow_one _ _) ?_))
  obtain ⟨W4, hW⟩ : ∃ W4, W4 = W3.setRow (w.heap.size + 1 + 1) (part2 F).toArray := ⟨_, rfl⟩
  have HA0 : Blk W4 w.heap.size F.vals 27 := by rw [hW]; exact HA3.out.rowOther (by omega) _
  have HR0 : Blk W4 (w.heap.size + 1) zfld.vals 30 := by rw [hW]; exact HR3.out.rowOther (by omega) _
  have HL0 : Blk W4 (w.heap.size + 1 + 1) (part2 F) 30 := by rw [hW]; exact HL3.out.row _
  have HB0 : Below w.heap.size w W4 := by rw [hW]; exact below_setRow HB3.out (by omega) _
  clear HA HR HL HB HA3 HR3 HL3 HB3
  have HA := Lib.hid HA0
  have HR := Lib.hid HR0
  have HL := Lib.hid HL0
  have HB := Lib.hid HB0
  have hW' : W3.setRow (w.heap.size + 1 + 1) ((part1 F).take 2 ++ vrow .u8 F.kinds ++ (part1 F).drop (2 + (vrow .u8 F.kinds).length)).toArray = W4 := hW.symm
  rw [hW']
  clear hW hW' HA0 HR0 HL0 HB0
  go_upto_region 6 with (first
    | (with_reducible refine wpList_load_blk rfl 25 (.tmp 14) rfl _ 102 rfl (vrow .i16 F.seeds) _ HA.out ho.spart Try.underlying25 rfl (by rw [vrow_len, ho.sl]; kernel_rfl) ?_)
    | (go_at_call 57; (with_reducible refine (int16s_any F.seeds ho.sl _).mono ?_); rintro e W3 ⟨rfl, hb3⟩; have HA3 := Lib.hid (HA.out.below hb3 HA.out.lt); have HR3 := Lib.hid (HR.out.below hb3 HR.out.lt); have HL3 := Lib.hid (HL.out.below hb3 HL.out.lt); have HB3 := Lib.hid (HB.out.trans (hb3.mono HB.out.size)); clear hb3)
    | (with_reducible refine wpList_store_blk rfl 25 (.tmp 17) (.tmp 16) rfl _ 102 (vrow .i16 F.seeds) rfl rfl HL3.out (by rw [vrow_len, ho.sl, part2_len ho]; omega) (by rw [vrow_len, ho.sl]; kernel_rfl) (vrow_one _ _) ?_))
  obtain ⟨W5, hW⟩ : ∃ W5, W5 = W3.setRow (w.heap.size + 1 + 1) (part3 F).toArray := ⟨_, rfl⟩
  have HR0 : Blk W5 (w.heap.size + 1) zfld.vals 30 := by rw [hW]; exact HR3.out.rowOther (by omega) _
  have HL0 : Blk W5 (w.heap.size + 1 + 1) F.vals 30 := by rw [hW, ← part3_eq ho]; exact HL3.out.row _
  have HB0 : Below w.heap.size w W5 := by rw [hW]; exact below_setRow HB3.out (by omega) _
  clear HA HR HL HB HA3 HR3 HL3 HB3
  have HR := Lib.hid HR0
  have HL := Lib.hid HL0
  have HB := Lib.hid HB0
  have hW' : W3.setRow (w.heap.size + 1 + 1) ((part2 F).take 102 ++ vrow .i16 F.seeds ++ (part2 F).drop (102 + (vrow .i16 F.seeds).length)).toArray = W5 := hW.symm
  rw [hW']
  clear hW hW' HR0 HL0 HB0
  go_wp2_with (first
    | (with_reducible refine wpList_load_blk rfl 30 (.tmp 3) rfl _ 0 rfl F.vals _ HL.out (by rw [List.drop_zero, List.take_length]) Try.underlying30 rfl (by rw [ho.len]; kernel_rfl) ?_)
    | (with_reducible refine wpList_store_all rfl 30 (.tmp 2) (.tmp 18) rfl _ F.vals rfl rfl HR.out (by rw [ho.len, zfld_ok.len]) (by rw [ho.len]; kernel_rfl) F.one ?_))
  exact post_blk (p := 2) (T := 30) rfl rfl rfl (HR.out.row _) Try.underlying30 rfl (by rw [ho.len]; kernel_rfl) ⟨rfl, below_setRow HB.out (by omega) _⟩
end Go.Proofs.Ytlhiaofanejcoaa
