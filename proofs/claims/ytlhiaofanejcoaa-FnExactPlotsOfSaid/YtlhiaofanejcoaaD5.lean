/- PlotsOf by the reference: the same. No condition but that the numbers are within their kinds. -/
import Derived.Test.YtlhiaofanejcoaaD4
namespace Go.Proofs.Ytlhiaofanejcoaa
open Go.RowKit Go.Proofs.YtlhiaofanejcoaaW.PrintWords Go.Proofs.YtlhiaofanejcoaaW.PrintLast Go.Proofs.YtlhiaofanejcoaaW.PrintMore Go.Proofs.Ytlhiaofanejcoaa.PAll
set_option linter.unusedSimpArgs false
set_option linter.unusedVariables false

theorem plotRes_len (F : Fld) (r k l : Int) : (plotRes F r k l).1.length ≤ 1048576 := by
  unfold plotRes
  split
  · split
    · split
      · simp
      · have := plot_len F r k l 100; simp only; omega
    · simp
  · simp

set_option maxRecDepth 100000 in
set_option maxHeartbeats 8000000 in
theorem sPlots_any (F : Fld) (hF : F.Ok) (r k l : Int) (w : World) :
    Calls Try.prog 48 #[.agg F.vals.toArray, .int .i64 r, .int .i64 k, .int .i64 l] w fun e w' => ∃ v : Value, e = .returned (.tuple #[v, .int .i64 (plotRes F r k l).2]) ∧ Kd.R k112 112 w' w.heap.size (fun _ => True) v (plotRes F r k l).1 ∧ Below w.heap.size w w' := by
  have HO := Lib.hid hF
  clear hF
  go_enter Try.func48, Try.ntmps48
  go_upto_region 1 with (fail)
  obtain ⟨W, hW⟩ : ∃ W, W = w.alloc (.cells F.vals.toArray 30) := ⟨_, rfl⟩
  have HC := Lib.hid (boxed1 w F.vals 30)
  rw [← hW] at HC ⊢
  clear hW
  cases hv : F.valid
  · have HV := Lib.hid hv
    have HR : Hid (plotRes F r k l = ([], 1)) := Lib.hid (by unfold plotRes; rw [if_neg (by rw [hv]; decide)])
    clear hv
    go_wp2_with (first
      | ((with_reducible refine gate_dst (N := 12) rfl ?_); refine Kd.R_lit k112 (w0 := W) W.heap.size 112 ?hg (N := 12) ?hd (xs := ([] : List S112)) (inner := []) (ok := fun _ => True) (okp := fun _ => True) ?hr ?hp (fun _ hk => hk) trivial (Below.refl _ _) (Nat.le_refl _) (by simp) ?_; (case hd => rfl); (case hg => rfl); (case hr => first | (go_simp; done) | (go_simp; rfl)); (case hp => exact (Reps.none _ _)); intro v3 w3 ho3 hb3 hg3 hn3; have HC3 := Lib.hid (HC.out.step hb3); have HD3 := Lib.hid hb3; have HR3 := Lib.hid ho3; clear hg3 hn3 ho3 hb3)
      | (go_at_call 60; (with_reducible refine (l01Ok_any F HO.out _ _ (HC3.out.blk (w.heap.size, F.vals, 30) (by simp))).mono ?_); rintro e w1 ⟨rfl, rfl⟩; rw [HV.out]))
    go_ret2
    exact ⟨v3, by rw [HR.out]; rfl, by rw [HR.out]; exact Kd.R_lower HR3.out HC.out.below.size, HC3.out.below⟩
  have HV := Lib.hid hv
  clear hv
  cases h0 : inB r 0 20
  · have HR : Hid (plotRes F r k l = ([], 2)) := Lib.hid (by unfold plotRes; rw [if_pos HV.out, if_neg (by unfold plotQ; rw [h0]; simp)])
    have H0 := Lib.hid h0
    clear h0
    go_wp2_with (first
      | ((with_reducible refine gate_dst (N := 12) rfl ?_); refine Kd.R_lit k112 (w0 := W) W.heap.size 112 ?hg (N := 12) ?hd (xs := ([] : List S112)) (inner := []) (ok := fun _ => True) (okp := fun _ => True) ?hr ?hp (fun _ hk => hk) trivial (Below.refl _ _) (Nat.le_refl _) (by simp) ?_; (case hd => rfl); (case hg => rfl); (case hr => first | (go_simp; done) | (go_simp; rfl)); (case hp => exact (Reps.none _ _)); intro v3 w3 ho3 hb3 hg3 hn3; have HC3 := Lib.hid (HC.out.step hb3); have HD3 := Lib.hid hb3; have HR3 := Lib.hid ho3; clear hg3 hn3 ho3 hb3)
      | (go_at_call 60; (with_reducible refine (l01Ok_any F HO.out _ _ (HC3.out.blk (w.heap.size, F.vals, 30) (by simp))).mono ?_); rintro e w1 ⟨rfl, rfl⟩; rw [HV.out])
      | (go_at_call 74; refine (in_any _ _ _ _).mono ?_; rintro e w' ⟨rfl, rfl⟩; (first | rw [H0.out])))
    go_ret2
    exact ⟨v3, by rw [HR.out]; rfl, by rw [HR.out]; exact Kd.R_lower HR3.out HC.out.below.size, HC3.out.below⟩
  cases h1 : inB k 0 20
  · have HR : Hid (plotRes F r k l = ([], 2)) := Lib.hid (by unfold plotRes; rw [if_pos HV.out, if_neg (by unfold plotQ; rw [h0, h1]; simp)])
    have H0 := Lib.hid h0
    have H1 := Lib.hid h1
    clear h0 h1
    go_wp2_with (first
      | ((with_reducible refine gate_dst (N := 12) rfl ?_); refine Kd.R_lit k112 (w0 := W) W.heap.size 112 ?hg (N := 12) ?hd (xs := ([] : List S112)) (inner := []) (ok := fun _ => True) (okp := fun _ => True) ?hr ?hp (fun _ hk => hk) trivial (Below.refl _ _) (Nat.le_refl _) (by simp) ?_; (case hd => rfl); (case hg => rfl); (case hr => first | (go_simp; done) | (go_simp; rfl)); (case hp => exact (Reps.none _ _)); intro v3 w3 ho3 hb3 hg3 hn3; have HC3 := Lib.hid (HC.out.step hb3); have HD3 := Lib.hid hb3; have HR3 := Lib.hid ho3; clear hg3 hn3 ho3 hb3)
      | (go_at_call 60; (with_reducible refine (l01Ok_any F HO.out _ _ (HC3.out.blk (w.heap.size, F.vals, 30) (by simp))).mono ?_); rintro e w1 ⟨rfl, rfl⟩; rw [HV.out])
      | (go_at_call 74; refine (in_any _ _ _ _).mono ?_; rintro e w' ⟨rfl, rfl⟩; (first | rw [H0.out] | rw [H1.out])))
    go_ret2
    exact ⟨v3, by rw [HR.out]; rfl, by rw [HR.out]; exact Kd.R_lower HR3.out HC.out.below.size, HC3.out.below⟩
  cases h2 : inB l 0 1000
  · have HR : Hid (plotRes F r k l = ([], 2)) := Lib.hid (by unfold plotRes; rw [if_pos HV.out, if_neg (by unfold plotQ; rw [h0, h1, h2]; simp)])
    have H0 := Lib.hid h0
    have H1 := Lib.hid h1
    have H2 := Lib.hid h2
    clear h0 h1 h2
    go_wp2_with (first
      | ((with_reducible refine gate_dst (N := 12) rfl ?_); refine Kd.R_lit k112 (w0 := W) W.heap.size 112 ?hg (N := 12) ?hd (xs := ([] : List S112)) (inner := []) (ok := fun _ => True) (okp := fun _ => True) ?hr ?hp (fun _ hk => hk) trivial (Below.refl _ _) (Nat.le_refl _) (by simp) ?_; (case hd => rfl); (case hg => rfl); (case hr => first | (go_simp; done) | (go_simp; rfl)); (case hp => exact (Reps.none _ _)); intro v3 w3 ho3 hb3 hg3 hn3; have HC3 := Lib.hid (HC.out.step hb3); have HD3 := Lib.hid hb3; have HR3 := Lib.hid ho3; clear hg3 hn3 ho3 hb3)
      | (go_at_call 60; (with_reducible refine (l01Ok_any F HO.out _ _ (HC3.out.blk (w.heap.size, F.vals, 30) (by simp))).mono ?_); rintro e w1 ⟨rfl, rfl⟩; rw [HV.out])
      | (go_at_call 74; refine (in_any _ _ _ _).mono ?_; rintro e w' ⟨rfl, rfl⟩; (first | rw [H0.out] | rw [H1.out]))
      | (go_at_call 84; refine (l01Seeds_any _ _).mono ?_; rintro e w' ⟨rfl, rfl⟩; rw [H2.out]))
    go_ret2
    exact ⟨v3, by rw [HR.out]; rfl, by rw [HR.out]; exact Kd.R_lower HR3.out HC.out.below.size, HC3.out.below⟩
  have hq : plotQ r k l = true := by unfold plotQ; rw [h0, h1, h2]; rfl
  have HPR : Hid (plotRes F r k l = if 6 < (foldN (plotStep F r k l) [] 100).length then ([], 3) else (foldN (plotStep F r k l) [] 100, 0)) := Lib.hid (by unfold plotRes; rw [if_pos HV.out, if_pos hq])
  have H0 := Lib.hid h0
  have H1 := Lib.hid h1
  have H2 := Lib.hid h2
  rw [inB_iff] at h0 h1 h2
  obtain ⟨r0, r1⟩ := h0
  obtain ⟨k0, k1⟩ := h1
  obtain ⟨l0, l1⟩ := h2
  clear hq
  go_wp2_with (first
    | ((with_reducible refine gate_dst (N := 12) rfl ?_); refine Kd.R_lit k112 (w0 := W) W.heap.size 112 ?hg (N := 12) ?hd (xs := ([] : List S112)) (inner := []) (ok := fun _ => True) (okp := fun _ => True) ?hr ?hp (fun _ hk => hk) trivial (Below.refl _ _) (Nat.le_refl _) (by simp) ?_; (case hd => rfl); (case hg => rfl); (case hr => first | (go_simp; done) | (go_simp; rfl)); (case hp => exact (Reps.none _ _)); intro v3 w3 ho3 hb3 hg3 hn3; have HC3 := Lib.hid (HC.out.step hb3); have HD3 := Lib.hid hb3; have HR3 := Lib.hid ho3; clear hg3 hn3 ho3 hb3)
    | (go_at_call 60; (with_reducible refine (l01Ok_any F HO.out _ _ (HC3.out.blk (w.heap.size, F.vals, 30) (by simp))).mono ?_); rintro e w1 ⟨rfl, rfl⟩; rw [HV.out])
    | (go_at_call 74; refine (in_any _ _ _ _).mono ?_; rintro e w' ⟨rfl, rfl⟩; (first | rw [H0.out] | rw [H1.out]))
    | (go_at_call 84; refine (l01Seeds_any _ _).mono ?_; rintro e w' ⟨rfl, rfl⟩; rw [H2.out]))
  go_loopw [10, 11] (fun u v wr => ∃ i : Nat, i ≤ 100 ∧ v = .int .i64 i ∧ Hid (Kd.R k112 112 wr W.heap.size (fun _ => True) u (foldN (plotStep F r k l) [] i)) ∧ Hid (Below W.heap.size W wr)) (fun _ v _ => 100 - (intOf v).toNat)
  case atStart => exact ⟨0, by omega, rfl, HR3, HD3⟩
  case round =>
    obtain ⟨i, hi, rfl, HRR, HBB⟩ := hrel
    have HL : Hid ((foldN (plotStep F r k l) [] i).length ≤ 100) := Lib.hid (by have := plot_len F r k l i; omega)
    by_cases hlt : i < 100
    · have cF := (IsF.cs ((HC.out.step HBB.out).blk (w.heap.size, F.vals, 30) (by simp)) HO.out hlt)
      simp only at cF
      have hk3 : (0 : Int) ≤ (i : Int) := by omega
      have hk4 : (i : Int) < 100 := by omega
      have sb := HO.out.sb i
      by_cases c0 : 0 < F.seed i
      · have HN : Hid (foldN (plotStep F r k l) [] (i + 1) = foldN (plotStep F r k l) [] i ++ [plotEl F r k l i]) := Lib.hid (by simp only [foldN]; rw [plotStep, if_pos c0])
        have er : IntKind.i16.wrap r = r := by simp [IntKind.wrap, IntKind.bits, IntKind.signed]; omega
        have ek : IntKind.i16.wrap k = k := by simp [IntKind.wrap, IntKind.bits, IntKind.signed]; omega
        have el : IntKind.i16.wrap l = l := by simp [IntKind.wrap, IntKind.bits, IntKind.signed]; omega
        go_wp2_with (first
          | ((with_reducible refine gate_builtin (b := .append) (xs := #[.tmp 39, .tmp 51]) rfl ?_); at_builtin; refine Kd.R_append k112 (w0 := W) W.heap.size rfl (.tmp 39) (.tmp 51) 77 112 (.agg #[.int .i16 0, .int .i16 0, .int .i16 0, .int .i16 0]) 8 rfl Try.underlying77 info_plot rfl (by decide) (by omega) _ (foldN (plotStep F r k l) [] i) (plotEl F r k l i) (plotVals (plotEl F r k l i)) (fun _ => True) (fun _ => False) rfl rfl ?aP (fun _ hk => hk.elim) ?aF ?aO ?aB ?aS ?aL ?_; (case aP => exact k112_mkM _ _ _ (plotEl F r k l i)); (case aF => exact (fun _ _ => trivial)); (case aO => exact HRR.out); (case aB => exact HBB.out); (case aS => exact HBB.out.size); (case aL => have := HL.out; omega); intro v5 w5 ho hb hg hat; rw [← HN.out] at ho; have HR5 := Lib.hid ho; have HB5 := Lib.hid hb; clear ho hb hg hat))
        go_roundw
        case rel => exact ⟨i + 1, by omega, by go_num, HR5, HB5⟩
        case measure => simp only [intOf]; omega
      · have HN : Hid (foldN (plotStep F r k l) [] (i + 1) = foldN (plotStep F r k l) [] i) := Lib.hid (by simp only [foldN]; rw [plotStep, if_neg c0])
        go_wp2
        go_roundw
        case rel => exact ⟨i + 1, by omega, by go_num, by rw [HN.out]; exact HRR, HBB⟩
        case measure => simp only [intOf]; omega
    · obtain rfl : i = 100 := by omega
      obtain ⟨Au, cu, rfl⟩ := Kd.R_slice HRR.out
      have hbd := HL.out
      by_cases c6 : 6 < (foldN (plotStep F r k l) [] 100).length
      · have HR : Hid (plotRes F r k l = ([], 3)) := Lib.hid (by rw [HPR.out, if_pos c6])
        go_wp2_with (first
          | ((with_reducible refine gate_dst (N := 56) rfl ?_); refine Kd.R_lit k112 (w0 := wr) wr.heap.size 112 ?hg (N := 56) ?hd (xs := ([] : List S112)) (inner := []) (ok := fun _ => True) (okp := fun _ => True) ?hr ?hp (fun _ hk => hk) trivial (Below.refl _ _) (Nat.le_refl _) (by simp) ?_; (case hd => rfl); (case hg => rfl); (case hr => first | (go_simp; done) | (go_simp; rfl)); (case hp => exact (Reps.none _ _)); intro v6 w6 ho6 hb6 hg6 hn6; have HB6 := Lib.hid (HBB.out.trans (hb6.mono HBB.out.size)); have HR6 := Lib.hid ho6; clear hg6 hn6 ho6 hb6))
        go_ret2
        exact ⟨v6, by rw [HR.out]; rfl, by rw [HR.out]; exact Kd.R_lower HR6.out (Nat.le_trans HC.out.below.size HBB.out.size), (HC.out.step HB6.out).below⟩
      · have HR : Hid (plotRes F r k l = (foldN (plotStep F r k l) [] 100, 0)) := Lib.hid (by rw [HPR.out, if_neg c6])
        go_wp2
        go_ret2
        exact ⟨_, by rw [HR.out]; rfl, by rw [HR.out]; exact Kd.R_lower HRR.out HC.out.below.size, (HC.out.step HBB.out).below⟩
end Go.Proofs.Ytlhiaofanejcoaa
