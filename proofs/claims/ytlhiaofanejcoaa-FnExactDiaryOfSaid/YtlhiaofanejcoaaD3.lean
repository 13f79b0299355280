/- DiaryOf by the reference: the same. No condition but that the numbers are within their kinds. -/
import Derived.Test.YtlhiaofanejcoaaD2
namespace Go.Proofs.Ytlhiaofanejcoaa
open Go.RowKit Go.Proofs.YtlhiaofanejcoaaW.PrintWords Go.Proofs.YtlhiaofanejcoaaW.PrintLast Go.Proofs.YtlhiaofanejcoaaW.PrintMore Go.Proofs.Ytlhiaofanejcoaa.PAll
set_option linter.unusedSimpArgs false
set_option linter.unusedVariables false

theorem diaRes_len (F G : Fld) : (diaRes F G).1.length ≤ 1048576 := by
  unfold diaRes
  split
  · split
    · have := dia_len F G 100; simp only; omega
    · simp
  · simp

set_option maxRecDepth 100000 in
set_option maxHeartbeats 4000000 in
theorem sDiary_any (F G : Fld) (hF : F.Ok) (hG : G.Ok) (w : World) :
    Calls Try.prog 39 #[.agg F.vals.toArray, .agg G.vals.toArray] w fun e w' => ∃ v : Value, e = .returned (.tuple #[v, .int .i64 (diaRes F G).2]) ∧ MadeE w w' (diaRes F G).1 v ∧ Below w.heap.size w w' := by
  have HO := Lib.hid hF
  have HP := Lib.hid hG
  clear hF hG
  go_enter Try.func39, Try.ntmps39
  go_upto_region 1 with (fail)
  obtain ⟨W, hW⟩ : ∃ W, W = (w.alloc (.cells F.vals.toArray 30)).alloc (.cells G.vals.toArray 30) := ⟨_, rfl⟩
  have HC := Lib.hid (boxed2 w F.vals G.vals 30 30)
  rw [← hW] at HC ⊢
  clear hW
  cases hv : F.valid
  · have HV := Lib.hid hv
    have HR : Hid (diaRes F G = ([], 1)) := Lib.hid (by unfold diaRes; rw [if_neg (by rw [hv]; simp)])
    clear hv
    go_wp2_with (first
      | ((with_reducible refine gate_dst (N := 9) rfl ?_); refine Kd.R_lit k73 (w0 := W) W.heap.size 73 ?hg (N := 9) ?hd (xs := ([] : List S73)) (inner := []) (ok := fun _ => True) (okp := fun _ => True) ?hr ?hp (fun _ hk => hk) trivial (Below.refl _ _) (Nat.le_refl _) (by simp) ?_; (case hd => rfl); (case hg => rfl); (case hr => first | (go_simp; done) | (go_simp; rfl)); (case hp => exact (Reps.none _ _)); intro v3 w3 ho3 hb3 hg3 hn3; have HC3 := Lib.hid (HC.out.step hb3); have HD3 := Lib.hid hb3; have HR3 := Lib.hid ho3; clear hg3 hn3 ho3 hb3)
      | (go_at_call 60; (with_reducible refine (l01Ok_any F HO.out _ _ (HC3.out.blk (w.heap.size, F.vals, 30) (by simp))).mono ?_); rintro e w1 ⟨rfl, rfl⟩; rw [HV.out]))
    go_ret2
    exact ⟨v3, by rw [HR.out]; rfl, by rw [HR.out]; exact Kd.R_lower HR3.out HC.out.below.size, HC3.out.below⟩
  have HV := Lib.hid hv
  cases hv2 : G.valid
  · have HV2 := Lib.hid hv2
    have HR : Hid (diaRes F G = ([], 1)) := Lib.hid (by unfold diaRes; rw [if_neg (by rw [hv, hv2]; simp)])
    clear hv hv2
    go_wp2_with (first
      | ((with_reducible refine gate_dst (N := 9) rfl ?_); refine Kd.R_lit k73 (w0 := W) W.heap.size 73 ?hg (N := 9) ?hd (xs := ([] : List S73)) (inner := []) (ok := fun _ => True) (okp := fun _ => True) ?hr ?hp (fun _ hk => hk) trivial (Below.refl _ _) (Nat.le_refl _) (by simp) ?_; (case hd => rfl); (case hg => rfl); (case hr => first | (go_simp; done) | (go_simp; rfl)); (case hp => exact (Reps.none _ _)); intro v3 w3 ho3 hb3 hg3 hn3; have HC3 := Lib.hid (HC.out.step hb3); have HD3 := Lib.hid hb3; have HR3 := Lib.hid ho3; clear hg3 hn3 ho3 hb3)
      | (go_at_call 60; (with_reducible refine (l01Ok_any F HO.out _ _ (HC3.out.blk (w.heap.size, F.vals, 30) (by simp))).mono ?_); rintro e w1 ⟨rfl, rfl⟩; rw [HV.out])
      | (go_at_call 60; (with_reducible refine (l01Ok_any G HP.out _ _ (HC3.out.blk (w.heap.size + 1, G.vals, 30) (by simp))).mono ?_); rintro e w1 ⟨rfl, rfl⟩; rw [HV2.out]))
    go_ret2
    exact ⟨v3, by rw [HR.out]; rfl, by rw [HR.out]; exact Kd.R_lower HR3.out HC.out.below.size, HC3.out.below⟩
  have HV2 := Lib.hid hv2
  go_upto_region 4 with (first
    | ((with_reducible refine gate_dst (N := 9) rfl ?_); refine Kd.R_lit k73 (w0 := W) W.heap.size 73 ?hg (N := 9) ?hd (xs := ([] : List S73)) (inner := []) (ok := fun _ => True) (okp := fun _ => True) ?hr ?hp (fun _ hk => hk) trivial (Below.refl _ _) (Nat.le_refl _) (by simp) ?_; (case hd => rfl); (case hg => rfl); (case hr => first | (go_simp; done) | (go_simp; rfl)); (case hp => exact (Reps.none _ _)); intro v3 w3 ho3 hb3 hg3 hn3; have HC3 := Lib.hid (HC.out.step hb3); have HD3 := Lib.hid hb3; have HR3 := Lib.hid ho3; clear hg3 hn3 ho3 hb3)
    | (go_at_call 60; (with_reducible refine (l01Ok_any F HO.out _ _ (HC3.out.blk (w.heap.size, F.vals, 30) (by simp))).mono ?_); rintro e w1 ⟨rfl, rfl⟩; rw [HV.out])
    | (go_at_call 60; (with_reducible refine (l01Ok_any G HP.out _ _ (HC3.out.blk (w.heap.size + 1, G.vals, 30) (by simp))).mono ?_); rintro e w1 ⟨rfl, rfl⟩; rw [HV2.out]))
  have HA := Lib.hid (HC3.out.blk (w.heap.size, F.vals, 30) (by simp))
  have HB := Lib.hid (HC3.out.blk (w.heap.size + 1, G.vals, 30) (by simp))
  have a0 := IsF.c0 HA.out
  have a1 := IsF.c1 HA.out
  have b0 := IsF.c0 HB.out
  have b1 := IsF.c1 HB.out
  simp only at a0 a1 b0 b1
  have hst : ∀ (h : sameB F G = false), diaRes F G = ([], 4) := fun h => by unfold diaRes; rw [if_pos (by rw [hv, hv2]; rfl), if_neg (by rw [h]; decide)]
  have hok : ∀ (h : sameB F G = true), diaRes F G = (foldN (diaStep F G) [] 100, 0) := fun h => by unfold diaRes; rw [if_pos (by rw [hv, hv2]; rfl), if_pos h]
  have HST := Lib.hid hst
  have HOK := Lib.hid hok
  clear hst hok hv hv2
  cases e0 : (F.wide != G.wide)
  case true =>
    have HR := Lib.hid (HST.out (by
      have : (F.wide == G.wide) = false := by simpa [bne] using e0
      simp [sameB, this]))
    go_wp2
    go_ret2
    exact ⟨v3, by rw [HR.out]; rfl, by rw [HR.out]; exact Kd.R_lower HR3.out HC.out.below.size, HC3.out.below⟩
  case false =>
    cases e1 : (F.high != G.high)
    case true =>
      have HR := Lib.hid (HST.out (by
        have : (F.high == G.high) = false := by simpa [bne] using e1
        simp [sameB, this]))
      go_wp2
      go_ret2
      exact ⟨v3, by rw [HR.out]; rfl, by rw [HR.out]; exact Kd.R_lower HR3.out HC.out.below.size, HC3.out.below⟩
    case false =>
      cases e2 : (F.kinds == G.kinds)
      case false =>
        have HR := Lib.hid (HST.out (by simp [sameB, e2]))
        have HE2 := Lib.hid e2
        clear e2
        go_wp2_with (first
          | (with_reducible refine wpList_guard rfl (wpList_load_blk rfl 23 (.tmp 30) rfl _ 2 rfl (vrow .u8 F.kinds) _ HA.out HO.out.kpart Try.underlying23 rfl (by rw [vrow_len, HO.out.kl]; kernel_rfl) ?_))
          | (with_reducible refine wpList_guard rfl (wpList_load_blk rfl 23 (.tmp 32) rfl _ 2 rfl (vrow .u8 G.kinds) _ HB.out HP.out.kpart Try.underlying23 rfl (by rw [vrow_len, HP.out.kl]; kernel_rfl) ?_))
          | ((with_reducible refine gate_dst (N := 34) rfl ?_); refine wpList_guard rfl (wpList_neq_row rfl (some 34) rfl 23 23 (.tmp 31) (.tmp 33) rfl 5 .u8 100 Try.underlying23 Try.underlying5 (size_of_info (by kernel_rfl)) (by kernel_rfl) F.kinds G.kinds HO.out.kl HP.out.kl rfl rfl ?_); rw [HE2.out]))
        go_ret2
        exact ⟨v3, by rw [HR.out]; rfl, by rw [HR.out]; exact Kd.R_lower HR3.out HC.out.below.size, HC3.out.below⟩
      case true =>
        have HR := Lib.hid (HOK.out (by
          have z0 : (F.wide == G.wide) = true := by simpa [bne] using e0
          have z1 : (F.high == G.high) = true := by simpa [bne] using e1
          simp [sameB, z0, z1, e2]))
        have HE2 := Lib.hid e2
        clear e2
        go_wp2_with (first
          | (with_reducible refine wpList_guard rfl (wpList_load_blk rfl 23 (.tmp 30) rfl _ 2 rfl (vrow .u8 F.kinds) _ HA.out HO.out.kpart Try.underlying23 rfl (by rw [vrow_len, HO.out.kl]; kernel_rfl) ?_))
          | (with_reducible refine wpList_guard rfl (wpList_load_blk rfl 23 (.tmp 32) rfl _ 2 rfl (vrow .u8 G.kinds) _ HB.out HP.out.kpart Try.underlying23 rfl (by rw [vrow_len, HP.out.kl]; kernel_rfl) ?_))
          | ((with_reducible refine gate_dst (N := 34) rfl ?_); refine wpList_guard rfl (wpList_neq_row rfl (some 34) rfl 23 23 (.tmp 31) (.tmp 33) rfl 5 .u8 100 Try.underlying23 Try.underlying5 (size_of_info (by kernel_rfl)) (by kernel_rfl) F.kinds G.kinds HO.out.kl HP.out.kl rfl rfl ?_); rw [HE2.out]))
        go_loopw [6, 7] (fun u v wr => ∃ i : Nat, i ≤ 100 ∧ v = .int .i64 i ∧ Hid (Kd.R k73 73 wr W.heap.size (fun _ => True) u (foldN (diaStep F G) [] i)) ∧ Hid (Below W.heap.size W wr)) (fun _ v _ => 100 - (intOf v).toNat)
        case atStart => exact ⟨0, by omega, rfl, HR3, HD3⟩
        case round =>
          obtain ⟨i, hi, rfl, HRR, HBB⟩ := hrel
          have HL : Hid ((foldN (diaStep F G) [] i).length ≤ 100) := Lib.hid (by have := dia_len F G i; omega)
          by_cases hlt : i < 100
          · have cF := (IsF.cs ((HC.out.step HBB.out).blk (w.heap.size, F.vals, 30) (by simp)) HO.out hlt)
            have cG := (IsF.cs ((HC.out.step HBB.out).blk (w.heap.size + 1, G.vals, 30) (by simp)) HP.out hlt)
            simp only at cF cG
            have vF := (Fld.valid_iff.1 HV.out).c i hlt
            have vG := (Fld.valid_iff.1 HV2.out).c i hlt
            obtain ⟨d, hd⟩ : ∃ d, d = dif F G i := ⟨_, rfl⟩
            have ew : IntKind.i16.wrap (G.seed i - F.seed i) = d := by
              rw [hd]; unfold dif
              have := vF.s0; have := vF.s1; have := vG.s0; have := vG.s1
              simp [IntKind.wrap, IntKind.bits, IntKind.signed]; omega
            have d0 : -1000 ≤ d := by rw [hd]; unfold dif; have := vF.s1; have := vG.s0; omega
            have d1 : d ≤ 1000 := by rw [hd]; unfold dif; have := vF.s0; have := vG.s1; omega
            have ek : IntKind.i16.wrap (i : Int) = (i : Int) := by simp [IntKind.wrap, IntKind.bits, IntKind.signed]; omega
            have em : IntKind.i16.wrap (-d) = -d := by simp [IntKind.wrap, IntKind.bits, IntKind.signed]; omega
            clear vF vG
            have hk3 : (0 : Int) ≤ (i : Int) := by omega
            have hk4 : (i : Int) < 100 := by omega
            by_cases c0 : 0 < d
            · have HN : Hid (foldN (diaStep F G) [] (i + 1) = foldN (diaStep F G) [] i ++ [⟨0, i, d⟩]) := Lib.hid (by simp only [foldN]; rw [diaStep, ← hd, if_pos c0])
              clear hd
              go_wp2
              go_quiet (fail)
              go_wp2_with (first
                | ((with_reducible refine gate_builtin (b := .append) (xs := #[.tmp 53, .tmp 58]) rfl ?_); at_builtin; refine Kd.R_append k73 (w0 := W) W.heap.size rfl (.tmp 53) (.tmp 58) 64 73 (.agg #[.int .i8 0, .int .i16 0, .int .i16 0]) 6 rfl Try.underlying64 info_ent rfl (by decide) (by omega) _ (foldN (diaStep F G) [] i) ⟨0, i, d⟩ (entVals3 ⟨0, i, d⟩) (fun _ => True) (fun _ => False) rfl rfl ?aP (fun _ hk => hk.elim) ?aF ?aO ?aB ?aS ?aL ?_; (case aP => exact k73_mkM _ _ _ ⟨0, i, d⟩); (case aF => exact (fun _ _ => trivial)); (case aO => exact Kd.R_drewN HRR.out _); (case aB => exact pw_below_drewN HBB.out _); (case aS => exact HBB.out.size); (case aL => have := HL.out; omega); intro v5 w5 ho hb hg hat; rw [← HN.out] at ho; have HR5 := Lib.hid ho; have HB5 := Lib.hid hb; clear ho hb hg hat))
              go_roundw
              case rel => exact ⟨i + 1, by omega, by go_num, HR5, HB5⟩
              case measure => simp only [intOf]; omega
            · by_cases c1 : d < 0
              · have HN : Hid (foldN (diaStep F G) [] (i + 1) = foldN (diaStep F G) [] i ++ [⟨1, i, -d⟩]) := Lib.hid (by simp only [foldN]; rw [diaStep, ← hd, if_neg c0, if_pos c1])
                clear hd
                go_wp2
                go_quiet (fail)
                go_wp2_with (first
                  | ((with_reducible refine gate_builtin (b := .append) (xs := #[.tmp 63, .tmp 69]) rfl ?_); at_builtin; refine Kd.R_append k73 (w0 := W) W.heap.size rfl (.tmp 63) (.tmp 69) 64 73 (.agg #[.int .i8 0, .int .i16 0, .int .i16 0]) 6 rfl Try.underlying64 info_ent rfl (by decide) (by omega) _ (foldN (diaStep F G) [] i) ⟨1, i, -d⟩ (entVals3 ⟨1, i, -d⟩) (fun _ => True) (fun _ => False) rfl rfl ?aP (fun _ hk => hk.elim) ?aF ?aO ?aB ?aS ?aL ?_; (case aP => exact k73_mkM _ _ _ ⟨1, i, -d⟩); (case aF => exact (fun _ _ => trivial)); (case aO => exact Kd.R_drewN HRR.out _); (case aB => exact pw_below_drewN HBB.out _); (case aS => exact HBB.out.size); (case aL => have := HL.out; omega); intro v5 w5 ho hb hg hat; rw [← HN.out] at ho; have HR5 := Lib.hid ho; have HB5 := Lib.hid hb; clear ho hb hg hat))
                go_roundw
                case rel => exact ⟨i + 1, by omega, by go_num, HR5, HB5⟩
                case measure => simp only [intOf]; omega
              · have HN : Hid (foldN (diaStep F G) [] (i + 1) = foldN (diaStep F G) [] i) := Lib.hid (by simp only [foldN]; rw [diaStep, ← hd, if_neg c0, if_neg c1])
                clear hd
                go_wp2
                go_quiet (fail)
                go_wp2
                go_roundw
                case rel => exact ⟨i + 1, by omega, by go_num, by rw [HN.out]; exact Lib.hid (Kd.R_drewN HRR.out _), Lib.hid (pw_below_drewN HBB.out _)⟩
                case measure => simp only [intOf]; omega
          · obtain rfl : i = 100 := by omega
            go_wp2
            go_ret2
            exact ⟨_, by rw [HR.out]; rfl, by rw [HR.out]; exact Kd.R_lower HRR.out HC.out.below.size, (HC.out.step HBB.out).below⟩
end Go.Proofs.Ytlhiaofanejcoaa
