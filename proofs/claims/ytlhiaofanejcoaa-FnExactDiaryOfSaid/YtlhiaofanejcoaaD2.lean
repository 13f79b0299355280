/- DiaryOf, by the program and by the reference: the same. No condition but that the numbers are within their kinds. -/
import Derived.Test.YtlhiaofanejcoaaD1
import Derived.Test.YtlhiaofanejcoaaL1
import Derived.Test.YtlhiaofanejcoaaPAllx4
import Derived.Test.YtlhiaofanejcoaaPAllx3
namespace Go.Proofs.Ytlhiaofanejcoaa
open Go.RowKit Go.Proofs.YtlhiaofanejcoaaW.PrintWords Go.Proofs.YtlhiaofanejcoaaW.PrintLast Go.Proofs.YtlhiaofanejcoaaW.PrintMore Go.Proofs.Ytlhiaofanejcoaa.PAll
set_option linter.unusedSimpArgs false
set_option linter.unusedVariables false

/-- A slice of the call's own that holds these entries. -/
abbrev MadeE (w w' : World) (xs : List S73) (v : Value) : Prop := Kd.R k73 73 w' w.heap.size (fun _ => True) v xs
def dif (F G : Fld) (i : Nat) : Int := G.seed i - F.seed i
def diaStep (F G : Fld) (s : List S73) (i : Nat) : List S73 := if 0 < dif F G i then s ++ [⟨0, i, dif F G i⟩] else if dif F G i < 0 then s ++ [⟨1, i, -dif F G i⟩] else s
noncomputable def diaRes (F G : Fld) : List S73 × Int := if (F.valid && G.valid) = true then (if sameB F G = true then (foldN (diaStep F G) [] 100, 0) else ([], 4)) else ([], 1)
theorem diaStep_len (F G : Fld) (s : List S73) (i : Nat) : (diaStep F G s i).length ≤ s.length + 1 := by
  unfold diaStep
  split
  · simp
  · split
    · simp
    · omega
theorem dia_len (F G : Fld) : ∀ n, (foldN (diaStep F G) [] n).length ≤ n
  | 0 => by simp [foldN]
  | n + 1 => by have := dia_len F G n; have := diaStep_len F G (foldN (diaStep F G) [] n) n; simp only [foldN]; omega
theorem diaIn_len (F G : Fld) (cs : List Int) : ∀ n, (foldIn (diaStep F G) [] cs n).length ≤ n
  | 0 => by simp [foldIn]
  | n + 1 => by have := diaIn_len F G cs n; have := diaStep_len F G (foldIn (diaStep F G) [] cs n) (rd cs (n : Int)).toNat; simp only [foldIn]; omega
theorem has_same {F G : Fld} (h : sameB F G = true) (c : Int) : F.has c = G.has c := by
  unfold sameB at h
  simp only [Bool.and_eq_true, beq_iff_eq] at h
  unfold Fld.has
  rw [h.1, h.2.1]
theorem dia_same {F G : Fld} (hF : F.valid = true) (hG : G.valid = true) (h : sameB F G = true) : foldIn (diaStep F G) [] (F.cellsTo 100) (F.cellsTo 100).length = foldN (diaStep F G) [] 100 := by
  rw [fold_cells]
  refine foldN_same fun i hi s => ?_
  cases hx : F.has (i : Int)
  · have h1 := ((Fld.valid_iff.1 hF).c i hi).hs hx
    have h2 := ((Fld.valid_iff.1 hG).c i hi).hs (by rw [← has_same h]; exact hx)
    have : dif F G i = 0 := by unfold dif; omega
    simp [diaStep, this]
  · simp
def entVals3 (x : S73) : List Value := [.int .i8 x.f0, .int .i16 x.f1, .int .i16 x.f2]
theorem info_ent : (Try.prog.info? 73).map (fun i => (i.zero, i.size, i.bytes)) = some (some (.agg #[.int .i8 0, .int .i16 0, .int .i16 0]), 3, 6) := by kernel_rfl

set_option maxRecDepth 100000 in
set_option maxHeartbeats 4000000 in
theorem iDiary_any (F G : Fld) (hF : F.Ok) (hG : G.Ok) (w : World) :
    Calls Try.prog 40 #[.agg F.vals.toArray, .agg G.vals.toArray] w fun e w' => ∃ v : Value, e = .returned (.tuple #[v, .int .i64 (diaRes F G).2]) ∧ MadeE w w' (diaRes F G).1 v ∧ Below w.heap.size w w' := by
  have HO := Lib.hid hF
  have HP := Lib.hid hG
  clear hF hG
  go_enter Try.func40, Try.ntmps40
  go_upto_region 1 with (fail)
  obtain ⟨W, hW⟩ : ∃ W, W = (w.alloc (.cells F.vals.toArray 30)).alloc (.cells G.vals.toArray 30) := ⟨_, rfl⟩
  have HC := Lib.hid (boxed2 w F.vals G.vals 30 30)
  rw [← hW] at HC ⊢
  clear hW
  cases hv : F.valid
  · have HV := Lib.hid hv
    have HR : Hid (diaRes F G = ([], 1)) := Lib.hid (by unfold diaRes; rw [if_neg (by rw [hv]; simp)])
    clear hv
    go_wp2_with (first
      | (with_reducible refine wpList_load_blk rfl 30 (.tmp 2) rfl _ 0 rfl F.vals _ (HC.out.blk (w.heap.size, F.vals, 30) (by simp)) (by rw [List.drop_zero, List.take_length]) Try.underlying30 rfl (by rw [HO.out.len]; kernel_rfl) ?_)
      | (go_at_call 58; (with_reducible refine (validField_any F HO.out _).mono ?_); rintro e w1 ⟨rfl, hb⟩; rw [HV.out]; have HC1 := Lib.hid (HC.out.step hb); clear hb))
    go_ret2
    exact ⟨.slice none 0 0, by rw [HR.out]; rfl, by rw [HR.out]; exact Kd.R_nil _ _ _ _ _, HC1.out.below⟩
  have HV := Lib.hid hv
  cases hv2 : G.valid
  · have HV2 := Lib.hid hv2
    have HR : Hid (diaRes F G = ([], 1)) := Lib.hid (by unfold diaRes; rw [if_neg (by rw [hv, hv2]; simp)])
    clear hv hv2
    go_wp2_with (first
      | (with_reducible refine wpList_load_blk rfl 30 (.tmp 2) rfl _ 0 rfl F.vals _ (HC.out.blk (w.heap.size, F.vals, 30) (by simp)) (by rw [List.drop_zero, List.take_length]) Try.underlying30 rfl (by rw [HO.out.len]; kernel_rfl) ?_)
      | (go_at_call 58; (with_reducible refine (validField_any F HO.out _).mono ?_); rintro e w1 ⟨rfl, hb⟩; rw [HV.out]; have HC1 := Lib.hid (HC.out.step hb); clear hb)
      | (with_reducible refine wpList_guard rfl (wpList_load_blk rfl 30 (.tmp 3) rfl _ 0 rfl G.vals _ (HC1.out.blk (w.heap.size + 1, G.vals, 30) (by simp)) (by rw [List.drop_zero, List.take_length]) Try.underlying30 rfl (by rw [HP.out.len]; kernel_rfl) ?_))
      | (go_at_call 58; (with_reducible refine (validField_any G HP.out _).mono ?_); rintro e w2 ⟨rfl, hb⟩; rw [HV2.out]; have HC2 := Lib.hid (HC1.out.step hb); clear hb))
    go_ret2
    exact ⟨.slice none 0 0, by rw [HR.out]; rfl, by rw [HR.out]; exact Kd.R_nil _ _ _ _ _, HC2.out.below⟩
  have HV2 := Lib.hid hv2
  go_upto_region 3 with (first
    | (with_reducible refine wpList_load_blk rfl 30 (.tmp 2) rfl _ 0 rfl F.vals _ (HC.out.blk (w.heap.size, F.vals, 30) (by simp)) (by rw [List.drop_zero, List.take_length]) Try.underlying30 rfl (by rw [HO.out.len]; kernel_rfl) ?_)
    | (go_at_call 58; (with_reducible refine (validField_any F HO.out _).mono ?_); rintro e w1 ⟨rfl, hb⟩; rw [HV.out]; have HC1 := Lib.hid (HC.out.step hb); clear hb)
    | (with_reducible refine wpList_guard rfl (wpList_load_blk rfl 30 (.tmp 3) rfl _ 0 rfl G.vals _ (HC1.out.blk (w.heap.size + 1, G.vals, 30) (by simp)) (by rw [List.drop_zero, List.take_length]) Try.underlying30 rfl (by rw [HP.out.len]; kernel_rfl) ?_))
    | (go_at_call 58; (with_reducible refine (validField_any G HP.out _).mono ?_); rintro e w2 ⟨rfl, hb⟩; rw [HV2.out]; have HC2 := Lib.hid (HC1.out.step hb); clear hb))
  have HA := Lib.hid (HC2.out.blk (w.heap.size, F.vals, 30) (by simp))
  have HB := Lib.hid (HC2.out.blk (w.heap.size + 1, G.vals, 30) (by simp))
  have a0 := IsF.c0 HA.out
  have a1 := IsF.c1 HA.out
  have b0 := IsF.c0 HB.out
  have b1 := IsF.c1 HB.out
  simp only at a0 a1 b0 b1
  have hst : ∀ (h : sameB F G = false), diaRes F G = ([], 4) := fun h => by unfold diaRes; rw [if_pos (by rw [hv, hv2]; rfl), if_neg (by rw [h]; decide)]
  have hok : ∀ (h : sameB F G = true), diaRes F G = (foldN (diaStep F G) [] 100, 0) := fun h => by unfold diaRes; rw [if_pos (by rw [hv, hv2]; rfl), if_pos h]
  have HST := Lib.hid hst
  have HOK := Lib.hid hok
  clear hst hok hv hv2
  cases e0 : (F.wide != G.wide)
  case true =>
    have HR := Lib.hid (HST.out (by
      have : (F.wide == G.wide) = false := by simpa [bne] using e0
      simp [sameB, this]))
    go_wp2
    go_ret2
    exact ⟨.slice none 0 0, by rw [HR.out]; rfl, by rw [HR.out]; exact Kd.R_nil _ _ _ _ _, HC2.out.below⟩
  case false =>
    cases e1 : (F.high != G.high)
    case true =>
      have HR := Lib.hid (HST.out (by
        have : (F.high == G.high) = false := by simpa [bne] using e1
        simp [sameB, this]))
      go_wp2
      go_ret2
      exact ⟨.slice none 0 0, by rw [HR.out]; rfl, by rw [HR.out]; exact Kd.R_nil _ _ _ _ _, HC2.out.below⟩
    case false =>
      cases e2 : (F.kinds == G.kinds)
      case false =>
        have HR := Lib.hid (HST.out (by simp [sameB, e2]))
        have HE2 := Lib.hid e2
        clear e2
        go_wp2_with (first
          | (with_reducible refine wpList_guard rfl (wpList_load_blk rfl 23 (.tmp 33) rfl _ 2 rfl (vrow .u8 F.kinds) _ HA.out HO.out.kpart Try.underlying23 rfl (by rw [vrow_len, HO.out.kl]; kernel_rfl) ?_))
          | (with_reducible refine wpList_guard rfl (wpList_load_blk rfl 23 (.tmp 35) rfl _ 2 rfl (vrow .u8 G.kinds) _ HB.out HP.out.kpart Try.underlying23 rfl (by rw [vrow_len, HP.out.kl]; kernel_rfl) ?_))
          | ((with_reducible refine gate_dst (N := 37) rfl ?_); refine wpList_guard rfl (wpList_neq_row rfl (some 37) rfl 23 23 (.tmp 34) (.tmp 36) rfl 5 .u8 100 Try.underlying23 Try.underlying5 (size_of_info (by kernel_rfl)) (by kernel_rfl) F.kinds G.kinds HO.out.kl HP.out.kl rfl rfl ?_); rw [HE2.out]))
        go_ret2
        exact ⟨.slice none 0 0, by rw [HR.out]; rfl, by rw [HR.out]; exact Kd.R_nil _ _ _ _ _, HC2.out.below⟩
      case true =>
        have HR := Lib.hid (HOK.out (by
          have z0 : (F.wide == G.wide) = true := by simpa [bne] using e0
          have z1 : (F.high == G.high) = true := by simpa [bne] using e1
          simp [sameB, z0, z1, e2]))
        have HSM := Lib.hid (dia_same HV.out HV2.out (by
          have z0 : (F.wide == G.wide) = true := by simpa [bne] using e0
          have z1 : (F.high == G.high) = true := by simpa [bne] using e1
          simp [sameB, z0, z1, e2]))
        have HE2 := Lib.hid e2
        clear e2
        go_wp2_with (first
          | (with_reducible refine wpList_guard rfl (wpList_load_blk rfl 23 (.tmp 33) rfl _ 2 rfl (vrow .u8 F.kinds) _ HA.out HO.out.kpart Try.underlying23 rfl (by rw [vrow_len, HO.out.kl]; kernel_rfl) ?_))
          | (with_reducible refine wpList_guard rfl (wpList_load_blk rfl 23 (.tmp 35) rfl _ 2 rfl (vrow .u8 G.kinds) _ HB.out HP.out.kpart Try.underlying23 rfl (by rw [vrow_len, HP.out.kl]; kernel_rfl) ?_))
          | ((with_reducible refine gate_dst (N := 37) rfl ?_); refine wpList_guard rfl (wpList_neq_row rfl (some 37) rfl 23 23 (.tmp 34) (.tmp 36) rfl 5 .u8 100 Try.underlying23 Try.underlying5 (size_of_info (by kernel_rfl)) (by kernel_rfl) F.kinds G.kinds HO.out.kl HP.out.kl rfl rfl ?_); rw [HE2.out])
          | ((with_reducible refine gate_dst (N := 39) rfl ?_); refine Kd.R_lit k73 (w0 := w2) w2.heap.size 73 ?hg (N := 39) ?hd (xs := ([] : List S73)) (inner := []) (ok := fun _ => True) (okp := fun _ => True) ?hr ?hp (fun _ hk => hk) trivial (Below.refl _ _) (Nat.le_refl _) (by simp) ?_; (case hd => rfl); (case hg => rfl); (case hr => first | (go_simp; done) | (go_simp; rfl)); (case hp => exact (Reps.none _ _)); intro v3 w3 ho3 hb3 hg3 hn3; have HC3 := Lib.hid (HC2.out.step hb3); have HD3 := Lib.hid hb3; have HR3 := Lib.hid ho3; clear hg3 hn3 ho3 hb3)
          | (go_at_call 73; refine (cells_any F HO.out _ _ (HC3.out.blk (w.heap.size, F.vals, 30) (by simp))).mono ?_; rintro e w4 ⟨vL, rfl, hm, hb⟩; have HC4 := Lib.hid (HC3.out.step hb); have HR4 := Lib.hid (Kd.R_below HR3.out hb); have HL4 := Lib.hid (Kd.R_lower hm HC3.out.below.size); have HD4 := Lib.hid (HD3.out.trans (hb.mono HD3.out.size)); clear hb; obtain ⟨A, c, rfl, hmc⟩ := made_cells hm; clear hmc hm))
        have HLn : Hid ((F.cellsTo 100).length ≤ 100) := Lib.hid (F.cellsTo_len 100)
        clear HR3 HC3 HD3
        go_loopw [6, 42] (fun u v wr => ∃ j : Nat, j ≤ (F.cellsTo 100).length ∧ v = .int .i64 j ∧ Hid (Kd.R k73 73 wr w2.heap.size (fun _ => True) u (foldIn (diaStep F G) [] (F.cellsTo 100) j)) ∧ Hid (Kd.R (Kd.int .i64) 2 wr w.heap.size (fun _ => True) (.slice A (F.cellsTo 100).length c) (F.cellsTo 100)) ∧ Hid (Below w2.heap.size w2 wr)) (fun _ v _ => 100 - (intOf v).toNat)
        case atStart => exact ⟨0, by omega, rfl, HR4, HL4, HD4⟩
        case round =>
          obtain ⟨j, hj, rfl, HRR, HLL, HBB⟩ := hrel
          have HL : Hid ((foldIn (diaStep F G) [] (F.cellsTo 100) j).length ≤ 100) := Lib.hid (by have := diaIn_len F G (F.cellsTo 100) j; have := HLn.out; omega)
          have hcl := HLn.out
          by_cases hlt : j < (F.cellsTo 100).length
          · obtain ⟨k, hk, hk2⟩ := cells_at F hlt
            obtain ⟨ad, hA, hx⟩ := made_at HLL.out j hlt
            subst hA
            rw [hk] at hx
            have cF := (IsF.cs ((HC2.out.step HBB.out).blk (w.heap.size, F.vals, 30) (by simp)) HO.out hk2)
            have cG := (IsF.cs ((HC2.out.step HBB.out).blk (w.heap.size + 1, G.vals, 30) (by simp)) HP.out hk2)
            simp only at cF cG
            have vF := (Fld.valid_iff.1 HV.out).c k hk2
            have vG := (Fld.valid_iff.1 HV2.out).c k hk2
            obtain ⟨d, hd⟩ : ∃ d, d = dif F G k := ⟨_, rfl⟩
            have ew : IntKind.i16.wrap (G.seed k - F.seed k) = d := by
              rw [hd]; unfold dif
              have := vF.s0; have := vF.s1; have := vG.s0; have := vG.s1
              simp [IntKind.wrap, IntKind.bits, IntKind.signed]; omega
            have d0 : -1000 ≤ d := by rw [hd]; unfold dif; have := vF.s1; have := vG.s0; omega
            have d1 : d ≤ 1000 := by rw [hd]; unfold dif; have := vF.s0; have := vG.s1; omega
            have ek : IntKind.i16.wrap (k : Int) = (k : Int) := by simp [IntKind.wrap, IntKind.bits, IntKind.signed]; omega
            have em : IntKind.i16.wrap (-d) = -d := by simp [IntKind.wrap, IntKind.bits, IntKind.signed]; omega
            clear vF vG
            have hk3 : (0 : Int) ≤ (k : Int) := by omega
            have hk4 : (k : Int) < 100 := by omega
            by_cases c0 : 0 < d
            · have HN : Hid (foldIn (diaStep F G) [] (F.cellsTo 100) (j + 1) = foldIn (diaStep F G) [] (F.cellsTo 100) j ++ [⟨0, k, d⟩]) := Lib.hid (by simp only [foldIn]; rw [hk, Int.toNat_natCast]; unfold diaStep; rw [← hd, if_pos c0])
              clear hk hd
              go_wp2
              go_quiet (fail)
              go_wp2_with (first
                | ((with_reducible refine gate_builtin (b := .append) (xs := #[.tmp 58, .tmp 63]) rfl ?_); at_builtin; refine Kd.R_append k73 (w0 := w2) w2.heap.size rfl (.tmp 58) (.tmp 63) 64 73 (.agg #[.int .i8 0, .int .i16 0, .int .i16 0]) 6 rfl Try.underlying64 info_ent rfl (by decide) (by omega) _ (foldIn (diaStep F G) [] (F.cellsTo 100) j) ⟨0, k, d⟩ (entVals3 ⟨0, k, d⟩) (fun _ => True) (fun _ => False) rfl rfl ?aP (fun _ hk => hk.elim) ?aF ?aO ?aB ?aS ?aL ?_; (case aP => exact k73_mkM _ _ _ ⟨0, k, d⟩); (case aF => exact (fun _ _ => trivial)); (case aO => exact Kd.R_drewN HRR.out _); (case aB => exact pw_below_drewN HBB.out _); (case aS => exact HBB.out.size); (case aL => have := HL.out; omega); intro v5 w5 ho hb hg hat; rw [← HN.out] at ho; have HR5 := Lib.hid ho; have HB5 := Lib.hid hb; have HL5 := Lib.hid (Kd.R_over (Kd.R_drewN HLL.out _) (Kd.R_drewN HRR.out _) (by decide) hg); clear ho hb hg hat))
              go_roundw
              case rel => exact ⟨j + 1, by omega, by go_num, HR5, HL5, HB5⟩
              case measure => simp only [intOf]; omega
            · by_cases c1 : d < 0
              · have HN : Hid (foldIn (diaStep F G) [] (F.cellsTo 100) (j + 1) = foldIn (diaStep F G) [] (F.cellsTo 100) j ++ [⟨1, k, -d⟩]) := Lib.hid (by simp only [foldIn]; rw [hk, Int.toNat_natCast]; unfold diaStep; rw [← hd, if_neg c0, if_pos c1])
                clear hk hd
                go_wp2
                go_quiet (fail)
                go_wp2_with (first
                  | ((with_reducible refine gate_builtin (b := .append) (xs := #[.tmp 68, .tmp 74]) rfl ?_); at_builtin; refine Kd.R_append k73 (w0 := w2) w2.heap.size rfl (.tmp 68) (.tmp 74) 64 73 (.agg #[.int .i8 0, .int .i16 0, .int .i16 0]) 6 rfl Try.underlying64 info_ent rfl (by decide) (by omega) _ (foldIn (diaStep F G) [] (F.cellsTo 100) j) ⟨1, k, -d⟩ (entVals3 ⟨1, k, -d⟩) (fun _ => True) (fun _ => False) rfl rfl ?aP (fun _ hk => hk.elim) ?aF ?aO ?aB ?aS ?aL ?_; (case aP => exact k73_mkM _ _ _ ⟨1, k, -d⟩); (case aF => exact (fun _ _ => trivial)); (case aO => exact Kd.R_drewN HRR.out _); (case aB => exact pw_below_drewN HBB.out _); (case aS => exact HBB.out.size); (case aL => have := HL.out; omega); intro v5 w5 ho hb hg hat; rw [← HN.out] at ho; have HR5 := Lib.hid ho; have HB5 := Lib.hid hb; have HL5 := Lib.hid (Kd.R_over (Kd.R_drewN HLL.out _) (Kd.R_drewN HRR.out _) (by decide) hg); clear ho hb hg hat))
                go_roundw
                case rel => exact ⟨j + 1, by omega, by go_num, HR5, HL5, HB5⟩
                case measure => simp only [intOf]; omega
              · have HN : Hid (foldIn (diaStep F G) [] (F.cellsTo 100) (j + 1) = foldIn (diaStep F G) [] (F.cellsTo 100) j) := Lib.hid (by simp only [foldIn]; rw [hk, Int.toNat_natCast]; unfold diaStep; rw [← hd, if_neg c0, if_neg c1])
                clear hk hd
                go_wp2
                go_quiet (fail)
                go_wp2
                go_roundw
                case rel => exact ⟨j + 1, by omega, by go_num, by rw [HN.out]; exact Lib.hid (Kd.R_drewN HRR.out _), Lib.hid (Kd.R_drewN HLL.out _), Lib.hid (pw_below_drewN HBB.out _)⟩
                case measure => simp only [intOf]; omega
          · obtain rfl : j = (F.cellsTo 100).length := by omega
            go_wp2
            go_ret2
            exact ⟨_, by rw [HR.out]; rfl, by rw [HR.out]; exact Kd.R_lower (by rw [← HSM.out]; exact HRR.out) HC2.out.below.size, (HC2.out.step HBB.out).below⟩
end Go.Proofs.Ytlhiaofanejcoaa
