/- Texts of owners, by the program. No condition but those that each theorem names. -/
import Derived.Test.YtfeniekapmbjjaaDoorST2
namespace Go.Proofs.YtfeniekapmbjjaaDoor
open Go.RowKit Go.Proofs.YtfeniekapmbjjaaDoorW.PrintWords Go.Proofs.YtfeniekapmbjjaaDoorW.PrintLast Go.Proofs.YtfeniekapmbjjaaDoorW.PrintMore Go.Proofs.YtfeniekapmbjjaaDoor.PAll
set_option linter.unusedSimpArgs false
set_option linter.unusedVariables false

theorem own_good {F : Fld} {os : List Int} (hva : F.Valid) (h : ownAll F os = true) : OwnOk F os := ⟨fun x y hx hy => by
  obtain ⟨W, H, hW, hH, hW1, hH1⟩ := sides hva
  rw [hW] at hx
  rw [hH] at hy
  have hk : x + 10 * y < 100 := by omega
  have hall := own_all h hk
  have hhas := has_in hW hH hW1.2 hH1.2 (x := x) (y := y) (by omega) (by omega)
  unfold ownB at hall
  rw [hhas] at hall
  have : inB (nth os (x + 10 * y)) 0 9 = true := by simpa using hall
  exact inB_iff.1 this⟩
set_option maxRecDepth 100000 in
set_option maxHeartbeats 8000000 in
theorem iOwnersText_any (F : Fld) (ho : F.Ok) (os : List Int) (hs : OsOk os) (w : World) (hT : TabW w) :
    Calls Tryd.prog 8 #[.agg F.vals.toArray, .agg (vrow .i8 os).toArray] w fun e w' => e = .returned (.string (if (F.valid && ownAll F os) = true then ownersText F os else emptyB)) ∧ Below w.heap.size w w' := by
  have HO := Lib.hid ho
  have HL := Lib.hid hs.len
  have HVO := Lib.hid (fun w1 => iValidOwners_any F ho os hs w1)
  cases hv : (F.valid && ownAll F os) with
  | false =>
    have HV := Lib.hid hv
    clear hv ho hs hT
    go_enter Tryd.func8, Tryd.ntmps8
    go_upto_region 1 with (fail)
    obtain ⟨W0, hW0⟩ : ∃ W0, W0 = (w.alloc (.cells F.vals.toArray 30)).alloc (.cells (vrow .i8 os).toArray 32) := ⟨_, rfl⟩
    have HC := Lib.hid (boxed2 w F.vals (vrow .i8 os) 30 32)
    rw [← hW0] at HC ⊢
    clear hW0
    have HA : Hid (IsF W0 w.heap.size F) := Lib.hid (HC.out.blk (w.heap.size, F.vals, 30) (by simp))
    have HK : Hid (Blk W0 (w.heap.size + 1) (vrow .i8 os) 32) := Lib.hid (HC.out.blk (w.heap.size + 1, vrow .i8 os, 32) (by simp))
    go_wp2_with (first
        | (with_reducible refine wpList_load_blk rfl 30 (.tmp 2) rfl _ 0 rfl F.vals _ HA.out (by rw [List.drop_zero, List.take_length]) Tryd.underlying30 rfl (by rw [HO.out.len]; kernel_rfl) ?_)
        | (with_reducible refine wpList_load_blk rfl 32 (.tmp 3) rfl _ 0 rfl (vrow .i8 os) _ HK.out (by rw [List.drop_zero, List.take_length]) Tryd.underlying32 rfl (by rw [vrow_len, HL.out]; kernel_rfl) ?_)
        | (go_at_call 17; refine (HVO.out _).mono ?_; rintro e w1 ⟨rfl, hb⟩; rw [HV.out]; have HC1 := Lib.hid (HC.out.step hb); clear hb))
    go_ret
    exact ⟨rfl, HC1.out.below⟩
  | true =>
    have hv2 : F.valid = true ∧ ownAll F os = true := by simpa using hv
    have hva := Fld.valid_iff.1 hv2.1
    have hoo := own_good hva hv2.2
    obtain ⟨W, H, hW, hH, hW1, hH1⟩ := sides hva
    have et : ownersText F os = (gridB (ownW os) W H ++ lineB) ++ fldText F := by unfold ownersText ownText; rw [hW, hH]; simp
    have HW := Lib.hid hW1
    have HH := Lib.hid hH1
    have HS := Lib.hid (ownW_size hs)
    have HOO : Hid (∀ x y : Nat, x < W → y < H → 0 ≤ nth os (x + 10 * y) ∧ nth os (x + 10 * y) ≤ 9) := Lib.hid (fun x y h1 h2 => hoo.b x y (by rw [hW]; exact Int.ofNat_lt.2 h1) (by rw [hH]; exact Int.ofNat_lt.2 h2))
    have HT := Lib.hid (fun b w1 (h1 : Below w.heap.size w w1) (h : IsF w1 b F) => fieldText_any F ho hva b w1 h (hT.below h1))
    have HZ2 := Lib.hid (fldText_size F ho hva)
    rw [if_pos rfl, et]
    generalize fldText F = ft at *
    have HWI := Lib.hid hW
    have HHI := Lib.hid hH
    have HV := Lib.hid hv
    clear hv ho hs hT hv2 hva hoo hW1 hH1 et hW hH
    go_enter Tryd.func8, Tryd.ntmps8
    go_upto_region 1 with (fail)
    obtain ⟨W0, hW0⟩ : ∃ W0, W0 = (w.alloc (.cells F.vals.toArray 30)).alloc (.cells (vrow .i8 os).toArray 32) := ⟨_, rfl⟩
    have HC := Lib.hid (boxed2 w F.vals (vrow .i8 os) 30 32)
    rw [← hW0] at HC ⊢
    clear hW0
    have HA : Hid (IsF W0 w.heap.size F) := Lib.hid (HC.out.blk (w.heap.size, F.vals, 30) (by simp))
    have HK : Hid (Blk W0 (w.heap.size + 1) (vrow .i8 os) 32) := Lib.hid (HC.out.blk (w.heap.size + 1, vrow .i8 os, 32) (by simp))
    go_wp2_with (first
        | (with_reducible refine wpList_load_blk rfl 30 (.tmp 2) rfl _ 0 rfl F.vals _ HA.out (by rw [List.drop_zero, List.take_length]) Tryd.underlying30 rfl (by rw [HO.out.len]; kernel_rfl) ?_)
        | (with_reducible refine wpList_load_blk rfl 32 (.tmp 3) rfl _ 0 rfl (vrow .i8 os) _ HK.out (by rw [List.drop_zero, List.take_length]) Tryd.underlying32 rfl (by rw [vrow_len, HL.out]; kernel_rfl) ?_)
        | (go_at_call 17; refine (HVO.out _).mono ?_; rintro e w1 ⟨rfl, hb⟩; rw [HV.out]; have HC1 := Lib.hid (HC.out.step hb); clear hb; have HBW := Lib.hid HC1.out.below; have HA1 : Hid (IsF w1 w.heap.size F) := Lib.hid (HC1.out.blk (w.heap.size, F.vals, 30) (by simp)); have HK1 : Hid (Blk w1 (w.heap.size + 1) (vrow .i8 os) 32) := Lib.hid (HC1.out.blk (w.heap.size + 1, vrow .i8 os, 32) (by simp)); have hkl := HK1.out.lt; have hal := HA1.out.lt; have c0 := HA1.out.c0; have c1 := HA1.out.c1; rw [HWI.out] at c0; rw [HHI.out] at c1))
    have HD := Lib.hid (Bld.fresh w1)
    have HB0 := Lib.hid ((Below.refl w1.heap.size w1).alloc (Nat.le_refl _) (.cells #[.pointer none, .slice none 0 0] 50))
    clear HA HK HC
    go_loopw [17] (fun v wr => ∃ y : Nat, y ≤ H ∧ v = .int .i64 y ∧ Hid (Bld w1.heap.size (gridB (ownW os) W y) wr) ∧ Hid (Below w1.heap.size w1 wr)) (fun v _ => H - (intOf v).toNat)
    case atStart => exact ⟨0, by omega, rfl, HD, HB0⟩
    case round =>
      clear HD HB0
      obtain ⟨y, hy, rfl, HD, HB⟩ := hrel
      obtain ⟨w9, e9⟩ : ∃ w9 : World, w9 = wr := ⟨wr, rfl⟩
      subst e9
      have d1 := pw_cell_below HB.out c1
      by_cases hlt : y < H
      · have tH := side_lt hlt HH.out.2
        go_wp2_with (first | ((with_reducible refine gate_dst (N := 20) rfl ?_); refine Kd.R_lit Kd.string _ 9 ?hg (N := 20) ?hd (xs := ([] : List ByteArray)) (inner := []) (ok := fun _ => True) (okp := fun _ => True) ?hr ?hp (fun _ hk => hk) trivial (Below.refl _ _) (Nat.le_refl _) (by simp) ?_; (case hd => rfl); (case hg => rfl); (case hr => first | (go_simp; done) | (go_simp; rfl)); (case hp => exact (Reps.none _ _)); intro v1 w1 ho1 hb1 hg1 hn1; clear hg1 hn1; have HR1 := Lib.hid ho1; have HB1 := Lib.hid hb1; clear ho1 hb1; have d0 := pw_cell_below HB1.out (pw_cell_below HB.out c0)))
        go_loopw [7, 24] (fun u v wr2 => ∃ x : Nat, x ≤ W ∧ v = .int .i64 x ∧ Hid (MadeS w9 wr2 (wordsOf (ownW os) y x) u) ∧ Hid (Below w9.heap.size w9 wr2)) (fun _ v _ => W - (intOf v).toNat)
        case atStart => exact ⟨0, by omega, rfl, Lib.hid HR1.out, HB1⟩
        case round =>
          clear HR1 HB1
          obtain ⟨x, hx, rfl, HM, HB2⟩ := hrel
          have hW := HW.out
          have hH := HH.out
          by_cases hxl : x < W
          · have tW := side_lt hxl HW.out.2
            have hk100 : x + 10 * y < 100 := by omega
            have ck := (HK1.out.below (HB.out.trans (HB2.out.mono HB.out.size)) hkl).cell (vrow_get (k := .i8) (zs := os) (i := x + 10 * y) (by rw [HL.out]; exact hk100))
            have hrng := HOO.out x y hxl hlt
            have HL2 : Hid ((wordsOf (ownW os) y x).length ≤ 10) := Lib.hid (by rw [wordsOf_len]; omega)
            have HN : Hid (wordsOf (ownW os) y (x + 1) = wordsOf (ownW os) y x ++ [dec (nth os (x + 10 * y))]) := Lib.hid (by rw [wordsOf_succ]; rfl)
            have HQ := Lib.hid (fun w2 => decimal8_any (nth os (x + 10 * y)) hrng.1 (by omega) w2)
            clear hrng
            go_wp2_with (first | (go_at_call 18; refine (HQ.out _).mono ?_; rintro e w5 ⟨rfl, hb⟩; have HM5 := Lib.hid (Kd.R_below HM.out hb); have HB5 := Lib.hid (HB2.out.trans (hb.mono HB2.out.size)); clear hb) | ((with_reducible refine gate_builtin (b := .append) (xs := #[.tmp 27, .tmp 35]) rfl ?_); at_builtin; refine Kd.R_append Kd.string (w0 := w9) w9.heap.size rfl (.tmp 27) (.tmp 35) 51 9 (.string ⟨#[]⟩) 16 rfl Tryd.underlying51 info_str rfl (by decide) (by omega) _ (wordsOf (ownW os) y x) (dec (nth os (x + 10 * y))) [.string (dec (nth os (x + 10 * y)))] (fun _ => True) (fun _ => False) rfl rfl ?aP (fun _ hk => hk.elim) ?aF ?aO ?aB ?aS ?aL ?_; (case aP => exact rfl); (case aF => exact (fun _ _ => trivial)); (case aO => exact (by (with_reducible repeat (first | apply Kd.R_alloc | apply Kd.R_drewN | apply Kd.R_drew)); exact HM5.out)); (case aB => exact (by repeat (first | (with_reducible first | exact HB5.out | apply below_alloc | apply pw_below_drewN | apply below_drew1) | exact HB5.out))); (case aS => exact (below_size (by repeat (first | (with_reducible first | exact HB5.out | apply below_alloc | apply pw_below_drewN | apply below_drew1) | exact HB5.out)))); (case aL => have := HL2.out; omega); intro v2 w2 ho hb hg hat; rw [← HN.out] at ho; have HR2 := Lib.hid ho; have HB4 := Lib.hid hb; clear ho hb hg hat))
            go_roundw
            case rel => exact ⟨x + 1, hxl, by go_num, HR2, HB4⟩
            case measure => simp only [intOf]; omega
          · obtain rfl : x = W := by omega
            have tW := side_end HW.out.2
            obtain ⟨A, c, rfl, hc, hC⟩ := Kd.R_reads HM.out
            have HQ := Lib.hid (fun w2 (hb : Below _ _ w2) => join_row (ownW os) HS.out y x HW.out.2 A c w2 (Kd.C_below hC hb) hc)
            have HVV := Lib.hid (grid_next (ownW os) x y)
            have HP := Lib.hid (gridB_small (wide := x) (y := y) HS.out HW.out.2 (by omega))
            have HR := Lib.hid (row_fits HS.out (y := y) HW.out.2)
            have f2 := eq_true (row_fits2 HR.out)
            have f3 := eq_false (Nat.not_lt.2 (row_fits2 HR.out))
            generalize hr : rowB (wordsOf (ownW os) y x) = r at *
            clear hr hc hC HM
            go_wp2_with (first
              | (go_at_call 20; refine (HQ.out _ (Below.refl _ _)).mono ?_; rintro e w5 ⟨rfl, hb⟩; have HB5 := Lib.hid (HB2.out.trans (hb.mono HB2.out.size)); clear hb)
              | (go_at_call 19; refine (write_any _ _ _ _ (HD.out.below HB5.out) (add_fits HP.out HR.out)).mono ?_; rintro e w6 ⟨rfl, hd, hb⟩; rw [HVV.out] at hd; have HD6 := Lib.hid hd; have HB6 := Lib.hid ((HB.out.trans (HB5.out.mono HB.out.size)).trans hb); clear hd hb))
            go_roundw
            case rel => exact ⟨y + 1, by omega, by go_num, HD6, HB6⟩
            case measure => simp only [intOf]; omega
      · obtain rfl : y = H := by omega
        have tH := side_end HH.out.2
        have hg : (gridB (ownW os) W y).size ≤ 560 := Nat.le_trans (gridB_small HS.out HW.out.2 HH.out.2) (by decide)
        have hz2 := HZ2.out
        have g1 := str_fits3 (p := gridB (ownW os) W y) (q := ft) hg (Nat.le_trans hz2 (by decide))
        have f2 : ((gridB (ownW os) W y).size + 1 ≤ 9223372036854775807) = True := eq_true g1.2
        have f3 : ((gridB (ownW os) W y).size + 1 + ft.size ≤ 9223372036854775807) = True := eq_true g1.1
        have f5 : (9223372036854775807 < (gridB (ownW os) W y).size + 1 + ft.size) = False := eq_false (Nat.not_lt.2 g1.1)
        clear g1 hz2
        go_wp2_with (first
          | (go_at_call 21; refine (string_any _ _ _ HD.out).mono ?_; rintro e w5 ⟨rfl, hb⟩; have HB3 := Lib.hid (HB.out.trans hb); clear hb)
          | (go_at_call 22; refine (HT.out _ _ (HBW.out.trans (HB3.out.mono HBW.out.size)) (HA1.out.below' HB3.out)).mono ?_; rintro e w6 ⟨rfl, hb⟩; have HB6 := Lib.hid (HB3.out.trans (hb.mono HB3.out.size)); clear hb))
        go_ret
        exact ⟨rfl, HBW.out.trans (HB6.out.mono HBW.out.size)⟩
end Go.Proofs.YtfeniekapmbjjaaDoor
