/- Texts of fields and owners, by the program. No condition but those that each theorem names. -/
import Derived.Test.YtfeniekapmbjjaaDoorST1
namespace Go.Proofs.YtfeniekapmbjjaaDoor
open Go.RowKit Go.Proofs.YtfeniekapmbjjaaDoorW.PrintWords Go.Proofs.YtfeniekapmbjjaaDoorW.PrintLast Go.Proofs.YtfeniekapmbjjaaDoorW.PrintMore Go.Proofs.YtfeniekapmbjjaaDoor.PAll
set_option linter.unusedSimpArgs false
set_option linter.unusedVariables false

theorem row_fits {f : Nat → ByteArray} (hf : ∀ i, (f i).size ≤ 4) {y n : Nat} (hn : n ≤ 10) : (rowB (wordsOf f y n)).size ≤ 50 := by
  have h := wordsOf_size hf y n
  have : (4 + 1) * n ≤ 50 := by omega
  omega
theorem row_fits2 {r : ByteArray} (h : r.size ≤ 50) : r.size + 1 ≤ 9223372036854775807 := by omega
theorem join_row (f : Nat → ByteArray) (hf : ∀ i, (f i).size ≤ 4) (y n : Nat) (hn : n ≤ 10) (A : Option Addr) (c : Nat) (w : World) (hr : Kd.C Kd.string w A (wordsOf f y n).length (wordsOf f y n)) (hc : (wordsOf f y n).length ≤ c) :
    Calls Tryd.prog 20 #[.slice A (wordsOf f y n).length c, .string ⟨#[32]⟩] w fun e w' => e = .returned (.string (rowB (wordsOf f y n))) ∧ Below w.heap.size w w' :=
  join_any A c (wordsOf f y n) ⟨#[32]⟩ w hr hc (by rw [wordsOf_len]; omega) (by have := row_fits hf (y := y) hn; show (rowB (wordsOf f y n)).size ≤ _; omega)
theorem grid_next (f : Nat → ByteArray) (W y : Nat) : gridB f W y ++ (rowB (wordsOf f y W) ++ ⟨#[10]⟩) = gridB f W (y + 1) := (ba_assoc _ _ _).symm
theorem add_fits {p r : ByteArray} (hp : p.size ≤ 510) (hr : r.size ≤ 50) : p.size + (r ++ (⟨#[10]⟩ : ByteArray)).size ≤ 140737488355328 := by
  rw [ba_size]
  have : (⟨#[10]⟩ : ByteArray).size = 1 := rfl
  omega
set_option maxRecDepth 100000 in
set_option maxHeartbeats 8000000 in
theorem fieldText_any (F : Fld) (ho : F.Ok) (hv : F.Valid) (b : Nat) (w : World) (hf : IsF w b F) (hT : TabW w) :
    Calls Tryd.prog 22 #[.pointer (some ⟨b, 0, none⟩)] w fun e w' => e = .returned (.string (fldText F)) ∧ Below w.heap.size w w' := by
  have HF := Lib.hid hf
  have HO := Lib.hid ho
  have hfl := hf.lt
  obtain ⟨W, H, hW, hH, hW1, hH1⟩ := sides hv
  have et : fldText F = gridB F.word W H := by unfold fldText; rw [hW, hH]; simp
  have HC := Lib.hid hv.c
  have HW := Lib.hid hW1
  have HH := Lib.hid hH1
  have HS := Lib.hid (gf_size F ho hv)
  have HTb := Lib.hid (fun w1 (h : Below w.heap.size w w1) => hT.below h)
  have c0 := hf.c0
  have c1 := hf.c1
  rw [hW] at c0
  rw [hH] at c1
  rw [et]
  clear hf ho hv hW hH hW1 hH1 et hT
  go_enter Tryd.func22, Tryd.ntmps22
  have HD := Lib.hid (Bld.fresh w)
  have HB0 := Lib.hid ((Below.refl w.heap.size w).alloc (Nat.le_refl _) (.cells #[.pointer none, .slice none 0 0] 50))
  go_wp2
  go_loopw [14] (fun v wr => ∃ y : Nat, y ≤ H ∧ v = .int .i64 y ∧ Hid (Bld w.heap.size (gridB F.word W y) wr) ∧ Hid (Below w.heap.size w wr)) (fun v _ => H - (intOf v).toNat)
  case atStart => exact ⟨0, by omega, rfl, HD, HB0⟩
  case round =>
    clear HD HB0
    obtain ⟨y, hy, rfl, HD, HB⟩ := hrel
    obtain ⟨w9, e9⟩ : ∃ w9 : World, w9 = wr := ⟨wr, rfl⟩
    subst e9
    have d1 := pw_cell_below HB.out c1
    by_cases hlt : y < H
    · have tH := side_lt hlt HH.out.2
      go_wp2_with (first | ((with_reducible refine gate_dst (N := 17) rfl ?_); refine Kd.R_lit Kd.string _ 9 ?hg (N := 17) ?hd (xs := ([] : List ByteArray)) (inner := []) (ok := fun _ => True) (okp := fun _ => True) ?hr ?hp (fun _ hk => hk) trivial (Below.refl _ _) (Nat.le_refl _) (by simp) ?_; (case hd => rfl); (case hg => rfl); (case hr => first | (go_simp; done) | (go_simp; rfl)); (case hp => exact (Reps.none _ _)); intro v1 w1 ho1 hb1 hg1 hn1; clear hg1 hn1; have HR1 := Lib.hid ho1; have HB1 := Lib.hid hb1; clear ho1 hb1; have d0 := pw_cell_below HB1.out (pw_cell_below HB.out c0)))
      go_loopw [5, 23] (fun u v wr2 => ∃ x : Nat, x ≤ W ∧ v = .int .i64 x ∧ Hid (MadeS w9 wr2 (wordsOf F.word y x) u) ∧ Hid (Below w9.heap.size w9 wr2)) (fun _ v _ => W - (intOf v).toNat)
      case atStart => exact ⟨0, by omega, rfl, Lib.hid HR1.out, HB1⟩
      case round =>
        clear HR1 HB1
        obtain ⟨x, hx, rfl, HM, HB2⟩ := hrel
        have hW := HW.out
        have hH := HH.out
        by_cases hxl : x < W
        · have tW := side_lt hxl HW.out.2
          have hk100 : x + 10 * y < 100 := by omega
          have hF := HF.out.below' (HB.out.trans (HB2.out.mono HB.out.size))
          have ck := hF.ck HO.out hk100
          have cs := hF.cs HO.out hk100
          have HL2 : Hid ((wordsOf F.word y x).length ≤ 10) := Lib.hid (by rw [wordsOf_len]; omega)
          have hkk : F.kind (x + 10 * y) = 0 ∨ F.kind (x + 10 * y) = 1 ∨ F.kind (x + 10 * y) = 2 ∨ F.kind (x + 10 * y) = 3 := kind_four (HC.out _ hk100).k0 (HC.out _ hk100).k3
          clear hF
          rcases hkk with h | h | h | h
          · rw [h] at ck
            have hwd : F.word (x + 10 * y) = dec (F.seed (x + 10 * y)) := by unfold Fld.word; rw [h]; rfl
            have HN : Hid (wordsOf F.word y (x + 1) = wordsOf F.word y x ++ [dec (F.seed (x + 10 * y))]) := Lib.hid (by rw [wordsOf_succ, hwd])
            have hcc := (HC.out _ hk100)
            have s0 := hcc.s0
            have s1 := hcc.s1
            have HQ := Lib.hid (fun w1 (hb : Below w.heap.size w w1) => decimal16_any (F.seed (x + 10 * y)) s0 s1 w1 (HTb.out w1 hb))
            clear hcc s0 s1 hwd h
            go_wp2_with (first | (go_at_call 42; refine (HQ.out _ (HB.out.trans (HB2.out.mono HB.out.size))).mono ?_; rintro e w5 ⟨rfl, hb⟩; have HM5 := Lib.hid (Kd.R_below HM.out hb); have HB5 := Lib.hid (HB2.out.trans (hb.mono HB2.out.size)); clear hb) | ((with_reducible refine gate_builtin (b := .append) (xs := #[.tmp 41, .tmp 49]) rfl ?_); at_builtin; refine Kd.R_append Kd.string (w0 := w9) w9.heap.size rfl (.tmp 41) (.tmp 49) 51 9 (.string ⟨#[]⟩) 16 rfl Tryd.underlying51 info_str rfl (by decide) (by omega) _ (wordsOf F.word y x) (dec (F.seed (x + 10 * y))) [.string (dec (F.seed (x + 10 * y)))] (fun _ => True) (fun _ => False) rfl rfl ?aP (fun _ hk => hk.elim) ?aF ?aO ?aB ?aS ?aL ?_; (case aP => exact rfl); (case aF => exact (fun _ _ => trivial)); (case aO => exact (by (with_reducible repeat (first | apply Kd.R_alloc | apply Kd.R_drewN | apply Kd.R_drew)); exact HM5.out)); (case aB => exact (by repeat (first | (with_reducible first | exact HB5.out | apply below_alloc | apply pw_below_drewN | apply below_drew1) | exact HB5.out))); (case aS => exact (below_size (by repeat (first | (with_reducible first | exact HB5.out | apply below_alloc | apply pw_below_drewN | apply below_drew1) | exact HB5.out)))); (case aL => have := HL2.out; omega); intro v2 w2 ho hb hg hat; rw [← HN.out] at ho; have HR2 := Lib.hid ho; have HB4 := Lib.hid hb; clear ho hb hg hat))
            go_roundw
            case rel => exact ⟨x + 1, hxl, by go_num, HR2, HB4⟩
            case measure => simp only [intOf]; omega
          · rw [h] at ck
            have hwd : F.word (x + 10 * y) = ⟨#[104]⟩ := by unfold Fld.word; rw [h]; rfl
            have HN : Hid (wordsOf F.word y (x + 1) = wordsOf F.word y x ++ [⟨#[104]⟩]) := Lib.hid (by rw [wordsOf_succ, hwd])
            clear hwd h
            go_wp2_with (first | ((with_reducible refine gate_builtin (b := .append) (xs := #[.tmp 53, .tmp 54]) rfl ?_); at_builtin; refine Kd.R_append Kd.string (w0 := w9) w9.heap.size rfl (.tmp 53) (.tmp 54) 51 9 (.string ⟨#[]⟩) 16 rfl Tryd.underlying51 info_str rfl (by decide) (by omega) _ (wordsOf F.word y x) ⟨#[104]⟩ [.string ⟨#[104]⟩] (fun _ => True) (fun _ => False) rfl rfl ?aP (fun _ hk => hk.elim) ?aF ?aO ?aB ?aS ?aL ?_; (case aP => exact rfl); (case aF => exact (fun _ _ => trivial)); (case aO => exact (by (with_reducible repeat (first | apply Kd.R_alloc | apply Kd.R_drewN | apply Kd.R_drew)); exact HM.out)); (case aB => exact (by repeat (first | (with_reducible first | exact HB2.out | apply below_alloc | apply pw_below_drewN | apply below_drew1) | exact HB2.out))); (case aS => exact (below_size (by repeat (first | (with_reducible first | exact HB2.out | apply below_alloc | apply pw_below_drewN | apply below_drew1) | exact HB2.out)))); (case aL => have := HL2.out; omega); intro v2 w2 ho hb hg hat; rw [← HN.out] at ho; have HR2 := Lib.hid ho; have HB4 := Lib.hid hb; clear ho hb hg hat))
            go_roundw
            case rel => exact ⟨x + 1, hxl, by go_num, HR2, HB4⟩
            case measure => simp only [intOf]; omega
          · rw [h] at ck
            have hwd : F.word (x + 10 * y) = ⟨#[112]⟩ := by unfold Fld.word; rw [h]; rfl
            have HN : Hid (wordsOf F.word y (x + 1) = wordsOf F.word y x ++ [⟨#[112]⟩]) := Lib.hid (by rw [wordsOf_succ, hwd])
            clear hwd h
            go_wp2_with (first | ((with_reducible refine gate_builtin (b := .append) (xs := #[.tmp 58, .tmp 59]) rfl ?_); at_builtin; refine Kd.R_append Kd.string (w0 := w9) w9.heap.size rfl (.tmp 58) (.tmp 59) 51 9 (.string ⟨#[]⟩) 16 rfl Tryd.underlying51 info_str rfl (by decide) (by omega) _ (wordsOf F.word y x) ⟨#[112]⟩ [.string ⟨#[112]⟩] (fun _ => True) (fun _ => False) rfl rfl ?aP (fun _ hk => hk.elim) ?aF ?aO ?aB ?aS ?aL ?_; (case aP => exact rfl); (case aF => exact (fun _ _ => trivial)); (case aO => exact (by (with_reducible repeat (first | apply Kd.R_alloc | apply Kd.R_drewN | apply Kd.R_drew)); exact HM.out)); (case aB => exact (by repeat (first | (with_reducible first | exact HB2.out | apply below_alloc | apply pw_below_drewN | apply below_drew1) | exact HB2.out))); (case aS => exact (below_size (by repeat (first | (with_reducible first | exact HB2.out | apply below_alloc | apply pw_below_drewN | apply below_drew1) | exact HB2.out)))); (case aL => have := HL2.out; omega); intro v2 w2 ho hb hg hat; rw [← HN.out] at ho; have HR2 := Lib.hid ho; have HB4 := Lib.hid hb; clear ho hb hg hat))
            go_roundw
            case rel => exact ⟨x + 1, hxl, by go_num, HR2, HB4⟩
            case measure => simp only [intOf]; omega
          · rw [h] at ck
            have hwd : F.word (x + 10 * y) = ⟨#[116]⟩ := by unfold Fld.word; rw [h]; rfl
            have HN : Hid (wordsOf F.word y (x + 1) = wordsOf F.word y x ++ [⟨#[116]⟩]) := Lib.hid (by rw [wordsOf_succ, hwd])
            clear hwd h
            go_wp2_with (first | ((with_reducible refine gate_builtin (b := .append) (xs := #[.tmp 36, .tmp 37]) rfl ?_); at_builtin; refine Kd.R_append Kd.string (w0 := w9) w9.heap.size rfl (.tmp 36) (.tmp 37) 51 9 (.string ⟨#[]⟩) 16 rfl Tryd.underlying51 info_str rfl (by decide) (by omega) _ (wordsOf F.word y x) ⟨#[116]⟩ [.string ⟨#[116]⟩] (fun _ => True) (fun _ => False) rfl rfl ?aP (fun _ hk => hk.elim) ?aF ?aO ?aB ?aS ?aL ?_; (case aP => exact rfl); (case aF => exact (fun _ _ => trivial)); (case aO => exact (by (with_reducible repeat (first | apply Kd.R_alloc | apply Kd.R_drewN | apply Kd.R_drew)); exact HM.out)); (case aB => exact (by repeat (first | (with_reducible first | exact HB2.out | apply below_alloc | apply pw_below_drewN | apply below_drew1) | exact HB2.out))); (case aS => exact (below_size (by repeat (first | (with_reducible first | exact HB2.out | apply below_alloc | apply pw_below_drewN | apply below_drew1) | exact HB2.out)))); (case aL => have := HL2.out; omega); intro v2 w2 ho hb hg hat; rw [← HN.out] at ho; have HR2 := Lib.hid ho; have HB4 := Lib.hid hb; clear ho hb hg hat))
            go_roundw
            case rel => exact ⟨x + 1, hxl, by go_num, HR2, HB4⟩
            case measure => simp only [intOf]; omega
        · obtain rfl : x = W := by omega
          have tW := side_end HW.out.2
          obtain ⟨A, c, rfl, hc, hC⟩ := Kd.R_reads HM.out
          have HQ := Lib.hid (fun w1 (hb : Below _ _ w1) => join_row F.word HS.out y x HW.out.2 A c w1 (Kd.C_below hC hb) hc)
          have HV := Lib.hid (grid_next F.word x y)
          have HP := Lib.hid (gridB_small (wide := x) (y := y) HS.out HW.out.2 (by omega))
          have HR := Lib.hid (row_fits HS.out (y := y) HW.out.2)
          have f2 := eq_true (row_fits2 HR.out)
          have f3 := eq_false (Nat.not_lt.2 (row_fits2 HR.out))
          generalize hr : rowB (wordsOf F.word y x) = r at *
          clear hr hc hC HM
          go_wp2_with (first
            | (go_at_call 20; refine (HQ.out _ (Below.refl _ _)).mono ?_; rintro e w5 ⟨rfl, hb⟩; have HB5 := Lib.hid (HB2.out.trans (hb.mono HB2.out.size)); clear hb)
            | (go_at_call 19; refine (write_any _ _ _ _ (HD.out.below HB5.out) (add_fits HP.out HR.out)).mono ?_; rintro e w6 ⟨rfl, hd, hb⟩; rw [HV.out] at hd; have HD6 := Lib.hid hd; have HB6 := Lib.hid ((HB.out.trans (HB5.out.mono HB.out.size)).trans hb); clear hd hb))
          go_roundw
          case rel => exact ⟨y + 1, by omega, by go_num, HD6, HB6⟩
          case measure => simp only [intOf]; omega
    · obtain rfl : y = H := by omega
      have tH := side_end HH.out.2
      go_wp2_with (go_at_call 21; refine (string_any _ _ _ HD.out).mono ?_; rintro e w5 ⟨rfl, hb⟩; have HB3 := Lib.hid (HB.out.trans hb); clear hb)
      go_ret
      exact ⟨rfl, HB3.out⟩
end Go.Proofs.YtfeniekapmbjjaaDoor
