/- PlotsOf by the program. No condition but that the numbers are within their kinds. -/
import Derived.Test.YtlhiaofanejcoaaD1
import Derived.Test.YtlhiaofanejcoaaFc
import Derived.Test.YtlhiaofanejcoaaO
import Derived.Test.YtlhiaofanejcoaaC1
import Derived.Test.YtlhiaofanejcoaaP3
import Derived.Test.YtlhiaofanejcoaaPAllx3
import Derived.Test.YtlhiaofanejcoaaPAllx4
namespace Go.Proofs.Ytlhiaofanejcoaa
open Go.RowKit Go.Proofs.YtlhiaofanejcoaaW.PrintWords Go.Proofs.YtlhiaofanejcoaaW.PrintLast Go.Proofs.YtlhiaofanejcoaaW.PrintMore Go.Proofs.Ytlhiaofanejcoaa.PAll
set_option linter.unusedSimpArgs false
set_option linter.unusedVariables false

/-- Whether the numbers of plots are as told. -/
def plotQ (r k l : Int) : Bool := inB r 0 20 && (inB k 0 20 && inB l 0 1000)
def plotEl (F : Fld) (r k l : Int) (i : Nat) : S112 := ⟨F.seed i, r, k, l⟩
def plotStep (F : Fld) (r k l : Int) (s : List S112) (i : Nat) : List S112 := if 0 < F.seed i then s ++ [plotEl F r k l i] else s
noncomputable def plotRes (F : Fld) (r k l : Int) : List S112 × Int :=
  if F.valid = true then (if plotQ r k l = true then (if 6 < (foldN (plotStep F r k l) [] 100).length then ([], 3) else (foldN (plotStep F r k l) [] 100, 0)) else ([], 2)) else ([], 1)
theorem plotStep_len (F : Fld) (r k l : Int) (s : List S112) (i : Nat) : (plotStep F r k l s i).length ≤ s.length + 1 := by
  unfold plotStep
  split
  · simp
  · omega
theorem plot_len (F : Fld) (r k l : Int) : ∀ n, (foldN (plotStep F r k l) [] n).length ≤ n
  | 0 => by simp [foldN]
  | n + 1 => by have := plot_len F r k l n; have := plotStep_len F r k l (foldN (plotStep F r k l) [] n) n; simp only [foldN]; omega
theorem plotIn_len (F : Fld) (r k l : Int) (cs : List Int) : ∀ n, (foldIn (plotStep F r k l) [] cs n).length ≤ n
  | 0 => by simp [foldIn]
  | n + 1 => by have := plotIn_len F r k l cs n; have := plotStep_len F r k l (foldIn (plotStep F r k l) [] cs n) (rd cs (n : Int)).toNat; simp only [foldIn]; omega
theorem plot_same {F : Fld} (hF : F.valid = true) (r k l : Int) : foldIn (plotStep F r k l) [] (F.cellsTo 100) (F.cellsTo 100).length = foldN (plotStep F r k l) [] 100 := by
  rw [fold_cells]
  refine foldN_same fun i hi s => ?_
  cases hx : F.has (i : Int)
  · have h1 := ((Fld.valid_iff.1 hF).c i hi).hs hx
    simp [plotStep, h1]
  · simp
theorem info_plot : (Try.prog.info? 112).map (fun i => (i.zero, i.size, i.bytes)) = some (some (.agg #[.int .i16 0, .int .i16 0, .int .i16 0, .int .i16 0]), 4, 8) := by kernel_rfl
def plotVals (x : S112) : List Value := [.int .i16 x.f0, .int .i16 x.f1, .int .i16 x.f2, .int .i16 x.f3]

set_option maxHeartbeats 1000000 in
theorem plotClo_any (r k l : Int) (a b c : Nat) (w : World) (ha : Blk w a [.int .i64 r] 2) (hb : Blk w b [.int .i64 k] 2) (hc : Blk w c [.int .i64 l] 2) :
    Calls Try.prog 86 #[.pointer (some ⟨a, 0, none⟩), .pointer (some ⟨b, 0, none⟩), .pointer (some ⟨c, 0, none⟩)] w fun e w' => e = .returned (.bool (plotQ r k l)) ∧ w = w' := by
  have c0 := ha.cell (i := 0) rfl
  have c1 := hb.cell (i := 0) rfl
  have c2 := hc.cell (i := 0) rfl
  clear ha hb hc
  unfold plotQ
  cases h0 : inB r 0 20
  · have H0 := Lib.hid h0
    clear h0
    go_enter Try.func86, Try.ntmps86
    go_wp2_with (go_at_call 75; refine (within_any _ _ _ _).mono ?_; rintro e w' ⟨rfl, rfl⟩; (first | rw [H0.out]))
    go_ret
    exact ⟨rfl, rfl⟩
  · have H0 := Lib.hid h0
    clear h0
    cases h1 : inB k 0 20
    · have H1 := Lib.hid h1
      clear h1
      go_enter Try.func86, Try.ntmps86
      go_wp2_with (go_at_call 75; refine (within_any _ _ _ _).mono ?_; rintro e w' ⟨rfl, rfl⟩; (first | rw [H0.out] | rw [H1.out]))
      go_ret
      exact ⟨rfl, rfl⟩
    · have H1 := Lib.hid h1
      clear h1
      cases h2 : inB l 0 1000
      all_goals
        have H2 := Lib.hid h2
        clear h2
        go_enter Try.func86, Try.ntmps86
        go_wp2_with (go_at_call 75; refine (within_any _ _ _ _).mono ?_; rintro e w' ⟨rfl, rfl⟩; (first | rw [H0.out] | rw [H1.out] | rw [H2.out]))
        go_ret
        exact ⟨rfl, rfl⟩


set_option maxRecDepth 100000 in
set_option maxHeartbeats 8000000 in
theorem iPlots_any (F : Fld) (hF : F.Ok) (r k l : Int) (w : World) :
    Calls Try.prog 49 #[.agg F.vals.toArray, .int .i64 r, .int .i64 k, .int .i64 l] w fun e w' => ∃ v : Value, e = .returned (.tuple #[v, .int .i64 (plotRes F r k l).2]) ∧ Kd.R k112 112 w' w.heap.size (fun _ => True) v (plotRes F r k l).1 ∧ Below w.heap.size w w' := by
  have HO := Lib.hid hF
  clear hF
  have hmf : ∀ (fn : Fn) (first cap : Array Value) (w : World), (Instr.makeFunc fn first cap).run Try.prog w = .ok (.func fn first cap) w := fun _ _ _ _ => rfl
  go_enter Try.func49, Try.ntmps49
  go_upto_region 1 with (fail)
  obtain ⟨W, hW⟩ : ∃ W, W = (((w.alloc (.cells F.vals.toArray 30)).alloc (.cells [Value.int .i64 r].toArray 2)).alloc (.cells [Value.int .i64 k].toArray 2)).alloc (.cells [Value.int .i64 l].toArray 2) := ⟨_, rfl⟩
  have HC := Lib.hid (boxed4 w F.vals [.int .i64 r] [.int .i64 k] [.int .i64 l] 30 2 2 2)
  rw [← hW] at HC ⊢
  clear hW
  cases hv : F.valid
  · have HR : Hid (plotRes F r k l = ([], 1)) := Lib.hid (by unfold plotRes; rw [if_neg (by rw [hv]; decide)])
    have HCD := Lib.hid (codeF_1 hv (plotQ r k l))
    clear hv
    go_wp2_with (first
      | (go_at_call 85; refine (fieldCode_any F HO.out _ 86 _ (plotQ r k l) _ (HC.out.blk (w.heap.size, F.vals, 30) (by simp)) (enters_of Try.func86 (by kernel_rfl) rfl) (fun _ w2 hb2 => (plotClo_any r k l _ _ _ w2 ((HC.out.step hb2).blk (w.heap.size + 1, [.int .i64 r], 2) (by simp)) ((HC.out.step hb2).blk (w.heap.size + 1 + 1, [.int .i64 k], 2) (by simp)) ((HC.out.step hb2).blk (w.heap.size + 1 + 1 + 1, [.int .i64 l], 2) (by simp))).mono (fun e w3 h3 => ⟨h3.1, h3.2 ▸ Below.refl _ _⟩))).mono ?_; rintro e w2 ⟨rfl, hb⟩; rw [HCD.out]; have HC2 := Lib.hid (HC.out.step hb); clear hb))
    go_ret2
    exact ⟨.slice none 0 0, by rw [HR.out]; rfl, by rw [HR.out]; exact Kd.R_nil _ _ _ _ _, HC2.out.below⟩
  have HV := Lib.hid hv
  cases hq : plotQ r k l
  · have HR : Hid (plotRes F r k l = ([], 2)) := Lib.hid (by unfold plotRes; rw [if_pos hv, if_neg (by rw [hq]; decide)])
    have HCD : Hid (codeF F (plotQ r k l) = 2) := Lib.hid (by rw [hq]; exact codeF_2 hv)
    clear hv hq
    go_wp2_with (first
      | (go_at_call 85; refine (fieldCode_any F HO.out _ 86 _ (plotQ r k l) _ (HC.out.blk (w.heap.size, F.vals, 30) (by simp)) (enters_of Try.func86 (by kernel_rfl) rfl) (fun _ w2 hb2 => (plotClo_any r k l _ _ _ w2 ((HC.out.step hb2).blk (w.heap.size + 1, [.int .i64 r], 2) (by simp)) ((HC.out.step hb2).blk (w.heap.size + 1 + 1, [.int .i64 k], 2) (by simp)) ((HC.out.step hb2).blk (w.heap.size + 1 + 1 + 1, [.int .i64 l], 2) (by simp))).mono (fun e w3 h3 => ⟨h3.1, h3.2 ▸ Below.refl _ _⟩))).mono ?_; rintro e w2 ⟨rfl, hb⟩; rw [HCD.out]; have HC2 := Lib.hid (HC.out.step hb); clear hb))
    go_ret2
    exact ⟨.slice none 0 0, by rw [HR.out]; rfl, by rw [HR.out]; exact Kd.R_nil _ _ _ _ _, HC2.out.below⟩
  have HCD : Hid (codeF F (plotQ r k l) = 0) := Lib.hid (by rw [hq]; exact codeF_0 hv)
  have HPR : Hid (plotRes F r k l = if 6 < (foldN (plotStep F r k l) [] 100).length then ([], 3) else (foldN (plotStep F r k l) [] 100, 0)) := Lib.hid (by unfold plotRes; rw [if_pos hv, if_pos hq])
  have HSM := Lib.hid (plot_same hv r k l)
  have hq2 := hq
  unfold plotQ at hq2
  simp only [Bool.and_eq_true, inB_iff] at hq2
  obtain ⟨⟨r0, r1⟩, ⟨k0, k1⟩, l0, l1⟩ := hq2
  clear hv hq
  go_wp2_with (first
    | (go_at_call 85; refine (fieldCode_any F HO.out _ 86 _ (plotQ r k l) _ (HC.out.blk (w.heap.size, F.vals, 30) (by simp)) (enters_of Try.func86 (by kernel_rfl) rfl) (fun _ w2 hb2 => (plotClo_any r k l _ _ _ w2 ((HC.out.step hb2).blk (w.heap.size + 1, [.int .i64 r], 2) (by simp)) ((HC.out.step hb2).blk (w.heap.size + 1 + 1, [.int .i64 k], 2) (by simp)) ((HC.out.step hb2).blk (w.heap.size + 1 + 1 + 1, [.int .i64 l], 2) (by simp))).mono (fun e w3 h3 => ⟨h3.1, h3.2 ▸ Below.refl _ _⟩))).mono ?_; rintro e w2 ⟨rfl, hb⟩; rw [HCD.out]; have HC2 := Lib.hid (HC.out.step hb); clear hb)
    | ((with_reducible refine gate_dst (N := 19) rfl ?_); refine Kd.R_lit k112 (w0 := w2) w2.heap.size 112 ?hg (N := 19) ?hd (xs := ([] : List S112)) (inner := []) (ok := fun _ => True) (okp := fun _ => True) ?hr ?hp (fun _ hk => hk) trivial (Below.refl _ _) (Nat.le_refl _) (by simp) ?_; (case hd => rfl); (case hg => rfl); (case hr => first | (go_simp; done) | (go_simp; rfl)); (case hp => exact (Reps.none _ _)); intro v3 w3 ho3 hb3 hg3 hn3; have HC3 := Lib.hid (HC2.out.step hb3); have HD3 := Lib.hid hb3; have HR3 := Lib.hid ho3; clear hg3 hn3 ho3 hb3)
    | (go_at_call 73; refine (cells_any F HO.out _ _ (HC3.out.blk (w.heap.size, F.vals, 30) (by simp))).mono ?_; rintro e w4 ⟨vL, rfl, hm, hb⟩; have HR4 := Lib.hid (Kd.R_below HR3.out hb); have HL4 := Lib.hid (Kd.R_lower hm HC3.out.below.size); have HD4 := Lib.hid (HD3.out.trans (hb.mono HD3.out.size)); clear hb; obtain ⟨A, c, rfl, hmc⟩ := made_cells hm; clear hmc hm))
  have HLn : Hid ((F.cellsTo 100).length ≤ 100) := Lib.hid (F.cellsTo_len 100)
  clear HR3 HC3 HD3
  go_loopw [11, 22] (fun u v wr => ∃ j : Nat, j ≤ (F.cellsTo 100).length ∧ v = .int .i64 j ∧ Hid (Kd.R k112 112 wr w2.heap.size (fun _ => True) u (foldIn (plotStep F r k l) [] (F.cellsTo 100) j)) ∧ Hid (Kd.R (Kd.int .i64) 2 wr w.heap.size (fun _ => True) (.slice A (F.cellsTo 100).length c) (F.cellsTo 100)) ∧ Hid (Below w2.heap.size w2 wr)) (fun _ v _ => 100 - (intOf v).toNat)
  case atStart => exact ⟨0, by omega, rfl, HR4, HL4, HD4⟩
  case round =>
    obtain ⟨j, hj, rfl, HRR, HLL, HBB⟩ := hrel
    have HL : Hid ((foldIn (plotStep F r k l) [] (F.cellsTo 100) j).length ≤ 100) := Lib.hid (by have := plotIn_len F r k l (F.cellsTo 100) j; have := HLn.out; omega)
    have hcl := HLn.out
    by_cases hlt : j < (F.cellsTo 100).length
    · obtain ⟨i, hk, hk2⟩ := cells_at F hlt
      obtain ⟨ad, hA, hx⟩ := made_at HLL.out j hlt
      subst hA
      rw [hk] at hx
      have cF := (IsF.cs ((HC2.out.step HBB.out).blk (w.heap.size, F.vals, 30) (by simp)) HO.out hk2)
      simp only at cF
      have hk3 : (0 : Int) ≤ (i : Int) := by omega
      have hk4 : (i : Int) < 100 := by omega
      have sb := HO.out.sb i
      by_cases c0 : 0 < F.seed i
      · have HN : Hid (foldIn (plotStep F r k l) [] (F.cellsTo 100) (j + 1) = foldIn (plotStep F r k l) [] (F.cellsTo 100) j ++ [plotEl F r k l i]) := Lib.hid (by simp only [foldIn]; rw [hk, Int.toNat_natCast]; unfold plotStep; rw [if_pos c0])
        clear hk
        go_upto_region 9 with (fail)
        have er : IntKind.i16.wrap r = r := by simp [IntKind.wrap, IntKind.bits, IntKind.signed]; omega
        have ek : IntKind.i16.wrap k = k := by simp [IntKind.wrap, IntKind.bits, IntKind.signed]; omega
        have el : IntKind.i16.wrap l = l := by simp [IntKind.wrap, IntKind.bits, IntKind.signed]; omega
        refine la_start (S := fun w' => Below w2.heap.size w2 w') (n := 15) #[false, false, false, false, false, false, false, false, false, false, false, false, false, false, false] (by kernel_rfl) (by kernel_rfl) (below_drewN HBB.out 1) (fun _ _ _ _ hd h => ⟨hd.symm.trans h.1, h.2⟩) (fun hPB => ?_)
        have HPB := Lib.hid hPB
        clear hPB
        refine la_auto (i := 0) #[true, false, false, false, false, false, false, false, false, false, false, false, false, false, false] rfl (by kernel_rfl) HPB.out (fun K hK => ?_)
        go_simp
        refine hK _ ?_
        clear hK K
        refine la_auto (i := 1) #[true, true, false, false, false, false, false, false, false, false, false, false, false, false, false] rfl (by kernel_rfl) HPB.out (fun K hK => ?_)
        go_simp
        refine hK _ ?_
        clear hK K
        refine la_auto (i := 2) #[true, true, true, false, false, false, false, false, false, false, false, false, false, false, false] rfl (by kernel_rfl) HPB.out (fun K hK => ?_)
        go_simp
        refine hK _ ?_
        clear hK K
        refine la_auto (i := 3) #[true, true, true, true, false, false, false, false, false, false, false, false, false, false, false] rfl (by kernel_rfl) HPB.out (fun K hK => ?_)
        go_simp
        refine hK _ ?_
        clear hK K
        refine la_cell (i := 4) #[true, true, true, true, true, false, false, false, false, false, false, false, false, false, false] (some 35) rfl rfl (by kernel_rfl) HPB.out (by kernel_rfl) 24 (.tmp 34) rfl w.heap.size (102 + i) (by kernel_rfl) (fun w1 h1 => (HC2.out.step h1).blk (w.heap.size, F.vals, 30) (by simp)) (z := F.seed i) (Fld.vs HO.out hk2) Try.underlying24 (below_drewN HBB.out 1) ?_
        simp only [Act.put, List.setIfInBounds_toArray, List.set_cons_zero, List.set_cons_succ]
        refine la_cell (i := 5) #[true, true, true, true, true, true, false, false, false, false, false, false, false, false, false] (some 36) rfl rfl (by kernel_rfl) HPB.out (by kernel_rfl) 2 (.tmp 5) rfl (w.heap.size + 1) 0 (by kernel_rfl) (fun w1 h1 => (HC2.out.step h1).blk (w.heap.size + 1, [.int .i64 r], 2) (by simp)) (z := r) rfl Try.underlying2 (below_drewN HBB.out 1) ?_
        simp only [Act.put, List.setIfInBounds_toArray, List.set_cons_zero, List.set_cons_succ]
        refine la_auto (i := 6) #[true, true, true, true, true, true, true, false, false, false, false, false, false, false, false] rfl (by kernel_rfl) HPB.out (fun K hK => ?_)
        go_simp
        refine hK _ ?_
        clear hK K
        refine la_cell (i := 7) #[true, true, true, true, true, true, true, true, false, false, false, false, false, false, false] (some 38) rfl rfl (by kernel_rfl) HPB.out (by kernel_rfl) 2 (.tmp 6) rfl (w.heap.size + 1 + 1) 0 (by kernel_rfl) (fun w1 h1 => (HC2.out.step h1).blk (w.heap.size + 1 + 1, [.int .i64 k], 2) (by simp)) (z := k) rfl Try.underlying2 (below_drewN HBB.out 1) ?_
        simp only [Act.put, List.setIfInBounds_toArray, List.set_cons_zero, List.set_cons_succ]
        refine la_auto (i := 8) #[true, true, true, true, true, true, true, true, true, false, false, false, false, false, false] rfl (by kernel_rfl) HPB.out (fun K hK => ?_)
        go_simp
        refine hK _ ?_
        clear hK K
        refine la_cell (i := 9) #[true, true, true, true, true, true, true, true, true, true, false, false, false, false, false] (some 40) rfl rfl (by kernel_rfl) HPB.out (by kernel_rfl) 2 (.tmp 7) rfl (w.heap.size + 1 + 1 + 1) 0 (by kernel_rfl) (fun w1 h1 => (HC2.out.step h1).blk (w.heap.size + 1 + 1 + 1, [.int .i64 l], 2) (by simp)) (z := l) rfl Try.underlying2 (below_drewN HBB.out 1) ?_
        simp only [Act.put, List.setIfInBounds_toArray, List.set_cons_zero, List.set_cons_succ]
        refine la_auto (i := 10) #[true, true, true, true, true, true, true, true, true, true, true, false, false, false, false] rfl (by kernel_rfl) HPB.out (fun K hK => ?_)
        go_simp
        refine hK _ ?_
        clear hK K
        refine la_auto (i := 11) #[true, true, true, true, true, true, true, true, true, true, true, true, false, false, false] rfl (by kernel_rfl) HPB.out (fun K hK => ?_)
        go_simp
        refine hK _ ?_
        clear hK K
        refine la_value (i := 12) #[true, true, true, true, true, true, true, true, true, true, true, true, true, false, false] (some 43) rfl rfl (by kernel_rfl) (by kernel_rfl) (.slice (some ⟨wr.heap.size, 0, none⟩) 1 1) ((wr.drewN 1).alloc (.cells (plotVals (plotEl F r k l i)).toArray 112)) (by first | (go_simp; done) | (go_simp; rfl)) ((below_drewN HBB.out 1).alloc HBB.out.size _) ?_
        simp only [Act.put, List.setIfInBounds_toArray, List.set_cons_zero, List.set_cons_succ]
        refine la_append (i := 13) #[true, true, true, true, true, true, true, true, true, true, true, true, true, true, false] (some 44) rfl rfl (by kernel_rfl) k112 (w0 := w2) w2.heap.size (by kernel_rfl) (.tmp 31) (.tmp 43) 77 112 (.agg #[.int .i16 0, .int .i16 0, .int .i16 0, .int .i16 0]) 8 rfl Try.underlying77 info_plot rfl (by decide) (by omega) _ (foldIn (plotStep F r k l) [] (F.cellsTo 100) j) (plotEl F r k l i) (plotVals (plotEl F r k l i)) (fun _ => True) (fun _ => False) (by kernel_rfl) (by kernel_rfl) (k112_mkM _ _ _ (plotEl F r k l i)) (fun _ hk => hk.elim) (fun _ _ => trivial) (Kd.R_drewN HRR.out 1) (pw_below_drewN HBB.out 1) HBB.out.size (by have := HL.out; omega) (fun v5 w5 ho hb hg hat => ?_)
        rw [← HN.out] at ho
        have HR5 := Lib.hid ho
        have HB5 := Lib.hid hb
        have HL5 := Lib.hid (Kd.R_over (Kd.R_drewN HLL.out 1) (Kd.R_drewN HRR.out 1) (by decide) hg)
        clear ho hb hg hat
        refine ⟨HB5.out, ?_⟩
        simp only [Act.put, List.setIfInBounds_toArray, List.set_cons_zero, List.set_cons_succ]
        refine la_assign (i := 14) #[true, true, true, true, true, true, true, true, true, true, true, true, true, true, true] (some 11) rfl rfl (by kernel_rfl) (by kernel_rfl) (.tmp 44) rfl v5 (by kernel_rfl) HB5.out ?_
        simp only [Act.put, List.setIfInBounds_toArray, List.set_cons_zero, List.set_cons_succ]
        refine la_done (by kernel_rfl) ?_
        clear HPB
        clear er ek el
        go_wp2
        go_roundw
        case rel => exact ⟨j + 1, by omega, by go_num, HR5, HL5, HB5⟩
        case measure => simp only [intOf]; omega
      · have HN : Hid (foldIn (plotStep F r k l) [] (F.cellsTo 100) (j + 1) = foldIn (plotStep F r k l) [] (F.cellsTo 100) j) := Lib.hid (by simp only [foldIn]; rw [hk, Int.toNat_natCast]; unfold plotStep; rw [if_neg c0])
        clear hk
        go_wp2
        go_roundw
        case rel => exact ⟨j + 1, by omega, by go_num, by rw [HN.out]; exact HRR, HLL, HBB⟩
        case measure => simp only [intOf]; omega
    · obtain rfl : j = (F.cellsTo 100).length := by omega
      obtain ⟨Au, cu, rfl⟩ := Kd.R_slice HRR.out
      have hbd := HL.out
      by_cases c6 : 6 < (foldIn (plotStep F r k l) [] (F.cellsTo 100) (F.cellsTo 100).length).length
      · have HR : Hid (plotRes F r k l = ([], 3)) := Lib.hid (by rw [HPR.out, ← HSM.out, if_pos c6])
        go_wp2
        go_ret2
        exact ⟨.slice none 0 0, by rw [HR.out]; rfl, by rw [HR.out]; exact Kd.R_nil _ _ _ _ _, (HC2.out.step HBB.out).below⟩
      · have HR : Hid (plotRes F r k l = (foldN (plotStep F r k l) [] 100, 0)) := Lib.hid (by rw [HPR.out, ← HSM.out, if_neg c6])
        go_wp2
        go_ret2
        exact ⟨_, by rw [HR.out]; rfl, by rw [HR.out]; exact Kd.R_lower (by rw [← HSM.out]; exact HRR.out) HC2.out.below.size, (HC2.out.step HBB.out).below⟩
end Go.Proofs.Ytlhiaofanejcoaa
