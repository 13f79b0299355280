/- Sets of cells by the program: what is in both, in one but not in another, of a kind; the list of a set. No condition but that the numbers are within their kinds. -/
import Derived.Test.YtalmlgkedcdkdaaBits
import Derived.Test.YtalmlgkedcdkdaaHC
import Derived.Test.YtalmlgkedcdkdaaEC
import Derived.Test.YtalmlgkedcdkdaaG3
import Derived.Test.YtalmlgkedcdkdaaGap
import Derived.Test.YtalmlgkedcdkdaaGB
namespace Go.Proofs.Ytalmlgkedcdkdaa
open Go.RowKit Go.Proofs.YtalmlgkedcdkdaaW.PrintWords Go.Proofs.YtalmlgkedcdkdaaW.PrintLast Go.Proofs.YtalmlgkedcdkdaaW.PrintMore
set_option linter.unusedSimpArgs false
set_option linter.unusedVariables false

/-! ### Sets -/
set_option maxHeartbeats 2000000 in
theorem cut_any (x y : Int) (w : World) : Calls Try.prog 29 #[.agg (vrow .u64 [x, y]).toArray] w fun e w' => e = .returned (.agg (vrow .u64 [x, bits .and .u64 y 68719476735]).toArray) ∧ Below w.heap.size w w' := by
  have hz := zeroCells
  go_enter Try.func29, Try.ntmps29
  go_upto_region 1 with (fail)
  obtain ⟨W, hW⟩ : ∃ W, W = (w.alloc (.cells (vrow .u64 [x, y]).toArray 34)).alloc (.cells (zrow .u64 2).toArray 34) := ⟨_, rfl⟩
  have HC := Lib.hid (boxed2 w (vrow .u64 [x, y]) (zrow .u64 2) 34 34)
  rw [← hW] at HC ⊢
  clear hW
  have HR := Lib.hid (HC.out.blk (w.heap.size + 1, zrow .u64 2, 34) (by simp))
  have c0 : W.cell? ⟨w.heap.size, 0, none⟩ = some (.int .u64 x) := (HC.out.blk (w.heap.size, vrow .u64 [x, y], 34) (by simp)).cell rfl
  have c1 : W.cell? ⟨w.heap.size, 1, none⟩ = some (.int .u64 y) := (HC.out.blk (w.heap.size, vrow .u64 [x, y], 34) (by simp)).cell rfl
  go_wp2_with (first
    | (with_reducible refine wpList_store_all rfl 34 (.tmp 2) (.tmp 8) rfl _ (vrow .u64 [x, bits .and .u64 y 68719476735]) rfl rfl HR.out rfl (by kernel_rfl) (vrow_one _ _) ?_))
  exact post_blk (p := 2) (T := 34) rfl rfl rfl (HR.out.row _) Try.underlying34 rfl (by kernel_rfl) ⟨rfl, below_setRow HC.out.below (by omega) _⟩

set_option maxHeartbeats 2000000 in
theorem bothOf_any {U V : List Int} (hU : ClOk U) (hV : ClOk V) (w : World) : Calls Try.prog 38 #[.agg (vrow .u64 U).toArray, .agg (vrow .u64 V).toArray] w fun e w' => e = .returned (.agg (vrow .u64 (setTo (fun j => hasN U j && hasN V j) 100)).toArray) ∧ Below w.heap.size w w' := by
  have hz := zeroCells
  have HQ := Lib.hid (both_setTo hU hV)
  obtain ⟨x, y, rfl, _⟩ := hU.two
  obtain ⟨a, b, rfl, _⟩ := hV.two
  clear hU hV
  have HE : Hid (setTo (fun j => hasN [x, y] j && hasN [a, b] j) 100 = [bits .and .u64 x a, bits .and .u64 (bits .and .u64 y b) 68719476735]) := Lib.hid HQ.out.symm
  rw [HE.out]
  go_enter Try.func38, Try.ntmps38
  go_upto_region 1 with (fail)
  obtain ⟨W, hW⟩ : ∃ W, W = ((w.alloc (.cells (vrow .u64 [x, y]).toArray 34)).alloc (.cells (vrow .u64 [a, b]).toArray 34)).alloc (.cells (zrow .u64 2).toArray 34) := ⟨_, rfl⟩
  have HC := Lib.hid (boxed3 w (vrow .u64 [x, y]) (vrow .u64 [a, b]) (zrow .u64 2) 34 34 34)
  rw [← hW] at HC ⊢
  clear hW
  have HR := Lib.hid (HC.out.blk (w.heap.size + 1 + 1, zrow .u64 2, 34) (by simp))
  have c0 : W.cell? ⟨w.heap.size, 0, none⟩ = some (.int .u64 x) := (HC.out.blk (w.heap.size, vrow .u64 [x, y], 34) (by simp)).cell rfl
  have c1 : W.cell? ⟨w.heap.size, 1, none⟩ = some (.int .u64 y) := (HC.out.blk (w.heap.size, vrow .u64 [x, y], 34) (by simp)).cell rfl
  have d0 : W.cell? ⟨w.heap.size + 1, 0, none⟩ = some (.int .u64 a) := (HC.out.blk (w.heap.size + 1, vrow .u64 [a, b], 34) (by simp)).cell rfl
  have d1 : W.cell? ⟨w.heap.size + 1, 1, none⟩ = some (.int .u64 b) := (HC.out.blk (w.heap.size + 1, vrow .u64 [a, b], 34) (by simp)).cell rfl
  go_wp2_with (first
    | (go_at_call 29; refine (cut_any (bits .and .u64 x a) (bits .and .u64 y b) _).mono ?_; rintro e w2 ⟨rfl, hb⟩; have HC2 := Lib.hid (HC.out.step hb); clear hb)
    | (with_reducible refine wpList_store_all rfl 34 (.tmp 4) (.tmp 16) rfl _ (vrow .u64 [bits .and .u64 x a, bits .and .u64 (bits .and .u64 y b) 68719476735]) rfl rfl (HC2.out.blk (w.heap.size + 1 + 1, zrow .u64 2, 34) (by simp)) rfl (by kernel_rfl) (vrow_one _ _) ?_))
  exact post_blk (p := 4) (T := 34) rfl rfl rfl ((HC2.out.blk (w.heap.size + 1 + 1, zrow .u64 2, 34) (by simp)).row _) Try.underlying34 rfl (by kernel_rfl) ⟨rfl, below_setRow HC2.out.below (by omega) _⟩

theorem kindClo_any (F : Fld) (hF : F.Ok) (k : Int) (g c d : Nat) (i : Nat) (hi : i < 100) (w : World) (hf : IsF w g F) (hc : Blk w c [.pointer (some ⟨g, 0, none⟩)] 40) (hd : Blk w d [.int .i64 k] 2) :
    Calls Try.prog 31 #[.int .i64 i, .pointer (some ⟨c, 0, none⟩), .pointer (some ⟨d, 0, none⟩)] w fun e w' => e = .returned (.bool (F.kind i == k)) ∧ Below w.heap.size w w' := by
  have c1 := hf.ck hF hi
  have c2 := hc.cell (i := 0) rfl
  have c3 := hd.cell (i := 0) rfl
  obtain ⟨b0, b1⟩ := hF.kb i
  clear hc hd hf hF
  cases hb : (F.kind i == k)
  all_goals
    go_enter Try.func31, Try.ntmps31
    go_wp2
    go_quiet (fail)
    go_wp2
    go_ret
    exact ⟨rfl, by repeat (first | exact Below.refl _ _ | refine below_drewN ?_ _)⟩

set_option maxHeartbeats 2000000 in
theorem ofKind_any (F : Fld) (hF : F.Ok) (k : Int) (g : Nat) (w : World) (hf : IsF w g F) :
    Calls Try.prog 20 #[.pointer (some ⟨g, 0, none⟩), .int .i64 k] w fun e w' => e = .returned (.agg (vrow .u64 (setTo (fun j => F.has (j : Int) && (F.kind j == k)) 100)).toArray) ∧ Below w.heap.size w w' := by
  have hz := zeroCells
  have HF := Lib.hid hf
  have HO := Lib.hid hF
  have hfl := hf.lt
  clear hf hF
  have HL := Lib.hid (setTo_len (fun j => F.has (j : Int) && (F.kind j == k)) 100)
  have hmf : ∀ (fn : Fn) (first cap : Array Value) (w : World), (Instr.makeFunc fn first cap).run Try.prog w = .ok (.func fn first cap) w := fun _ _ _ _ => rfl
  go_enter Try.func20, Try.ntmps20
  go_upto_region 1 with (fail)
  obtain ⟨W, hW⟩ : ∃ W, W = ((w.alloc (.cells [Value.pointer (some ⟨g, 0, none⟩)].toArray 40)).alloc (.cells [Value.int .i64 k].toArray 2)).alloc (.cells (zrow .u64 2).toArray 34) := ⟨_, rfl⟩
  have HC := Lib.hid (boxed3 w [Value.pointer (some ⟨g, 0, none⟩)] [.int .i64 k] (zrow .u64 2) 40 2 34)
  rw [← hW] at HC ⊢
  clear hW
  have HF1 : Hid (IsF W g F) := Lib.hid (HF.out.below HC.out.below hfl)
  have c0 : W.cell? ⟨w.heap.size, 0, none⟩ = some (.pointer (some ⟨g, 0, none⟩)) := (HC.out.blk (w.heap.size, [Value.pointer (some ⟨g, 0, none⟩)], 40) (by simp)).cell rfl
  go_wp2_with (first
    | (go_at_call 30; clear c0; refine (those_any F HO.out (fun i => F.kind i == k) _ 31 _ _ HF1.out (enters_of Try.func31 (by kernel_rfl) rfl) (fun i w1 hi hb => by rw [app2]; exact kindClo_any F HO.out k g _ _ i hi w1 (HF1.out.below' hb) ((HC.out.step hb).blk (w.heap.size, [Value.pointer (some ⟨g, 0, none⟩)], 40) (by simp)) ((HC.out.step hb).blk (w.heap.size + 1, [.int .i64 k], 2) (by simp)))).mono ?_; rintro e w2 ⟨rfl, hb⟩; have HC2 := Lib.hid (HC.out.step hb); clear hb)
    | (with_reducible refine wpList_store_all rfl 34 (.tmp 4) (.tmp 7) rfl _ (vrow .u64 (setTo (fun j => F.has (j : Int) && (F.kind j == k)) 100)) rfl rfl (HC2.out.blk (w.heap.size + 1 + 1, zrow .u64 2, 34) (by simp)) (by rw [vrow_len, zrow_len, HL.out]) (by rw [vrow_len, HL.out]; kernel_rfl) (vrow_one _ _) ?_))
  exact post_blk (p := 4) (T := 34) rfl rfl rfl ((HC2.out.blk (w.heap.size + 1 + 1, zrow .u64 2, 34) (by simp)).row _) Try.underlying34 rfl (by rw [vrow_len, HL.out]; kernel_rfl) ⟨rfl, below_setRow HC2.out.below (by omega) _⟩

theorem andNot_bv (x y : Int) : bits .andNot .u64 x y = ((bv x &&& ~~~ bv y).toNat : Int) := wrap_bv (bv x &&& ~~~ bv y)
theorem bv_andNot (x y : Int) : bv (bits .andNot .u64 x y) = bv x &&& ~~~ bv y := by rw [andNot_bv, bv_nat]
def lessN (U V : List Int) : List Int := [bits .andNot .u64 (nth U 0) (nth V 0), bits .and .u64 (bits .andNot .u64 (nth U 1) (nth V 1)) 68719476735]
theorem less_setTo {U V : List Int} (hU : ClOk U) (hV : ClOk V) : lessN U V = setTo (fun j => hasN U j && !hasN V j) 100 := by
  obtain ⟨x, y, rfl, x0, x1, y0, y1⟩ := hU.two
  obtain ⟨a, b, rfl, a0, a1, b0, b1⟩ := hV.two
  refine eq_setTo ⟨rfl, fun z hz => ?_⟩ _ (fun j hj => ?_) (fun j h1 h2 => ?_)
  · unfold lessN at hz
    rcases List.mem_cons.1 hz with rfl | hz
    · rw [andNot_bv]; exact bv_range _
    · rw [List.mem_singleton.1 hz, and_bv]; exact bv_range _
  · show hasN [bits .andNot .u64 x a, bits .and .u64 (bits .andNot .u64 y b) 68719476735] j = _
    rcases Nat.lt_or_ge j 64 with h' | h'
    · rw [hasN_lo _ _ h', hasN_lo _ _ h', hasN_lo _ _ h', bv_andNot, BitVec.getLsbD_and, BitVec.getLsbD_not, decide_eq_true h', Bool.true_and]
    · obtain ⟨k, rfl⟩ : ∃ k, j = k + 64 := ⟨j - 64, by omega⟩
      rw [hasN_hi _ _ (by omega), hasN_hi _ _ (by omega), hasN_hi _ _ (by omega), bv_and, bv_andNot, BitVec.getLsbD_and, BitVec.getLsbD_and, BitVec.getLsbD_not, mask_bit (by omega), decide_eq_true (by omega : k < 36), Bool.and_true, decide_eq_true (by omega : k < 64), Bool.true_and]
  · show hasN [bits .andNot .u64 x a, bits .and .u64 (bits .andNot .u64 y b) 68719476735] j = _
    obtain ⟨k, rfl⟩ : ∃ k, j = k + 64 := ⟨j - 64, by omega⟩
    rw [hasN_hi _ _ (by omega), bv_and, BitVec.getLsbD_and, mask_bit (by omega), decide_eq_false (by omega : ¬ k < 36), Bool.and_false]

set_option maxHeartbeats 2000000 in
theorem withoutOf_any {U V : List Int} (hU : ClOk U) (hV : ClOk V) (w : World) : Calls Try.prog 19 #[.agg (vrow .u64 U).toArray, .agg (vrow .u64 V).toArray] w fun e w' => e = .returned (.agg (vrow .u64 (setTo (fun j => hasN U j && !hasN V j) 100)).toArray) ∧ Below w.heap.size w w' := by
  have hz := zeroCells
  have HQ := Lib.hid (less_setTo hU hV)
  obtain ⟨x, y, rfl, _⟩ := hU.two
  obtain ⟨a, b, rfl, _⟩ := hV.two
  clear hU hV
  have HE : Hid (setTo (fun j => hasN [x, y] j && !hasN [a, b] j) 100 = [bits .andNot .u64 x a, bits .and .u64 (bits .andNot .u64 y b) 68719476735]) := Lib.hid HQ.out.symm
  rw [HE.out]
  go_enter Try.func19, Try.ntmps19
  go_upto_region 1 with (fail)
  obtain ⟨W, hW⟩ : ∃ W, W = ((w.alloc (.cells (vrow .u64 [x, y]).toArray 34)).alloc (.cells (vrow .u64 [a, b]).toArray 34)).alloc (.cells (zrow .u64 2).toArray 34) := ⟨_, rfl⟩
  have HC := Lib.hid (boxed3 w (vrow .u64 [x, y]) (vrow .u64 [a, b]) (zrow .u64 2) 34 34 34)
  rw [← hW] at HC ⊢
  clear hW
  have HR := Lib.hid (HC.out.blk (w.heap.size + 1 + 1, zrow .u64 2, 34) (by simp))
  have c0 : W.cell? ⟨w.heap.size, 0, none⟩ = some (.int .u64 x) := (HC.out.blk (w.heap.size, vrow .u64 [x, y], 34) (by simp)).cell rfl
  have c1 : W.cell? ⟨w.heap.size, 1, none⟩ = some (.int .u64 y) := (HC.out.blk (w.heap.size, vrow .u64 [x, y], 34) (by simp)).cell rfl
  have d0 : W.cell? ⟨w.heap.size + 1, 0, none⟩ = some (.int .u64 a) := (HC.out.blk (w.heap.size + 1, vrow .u64 [a, b], 34) (by simp)).cell rfl
  have d1 : W.cell? ⟨w.heap.size + 1, 1, none⟩ = some (.int .u64 b) := (HC.out.blk (w.heap.size + 1, vrow .u64 [a, b], 34) (by simp)).cell rfl
  go_wp2_with (first
    | (go_at_call 29; refine (cut_any (bits .andNot .u64 x a) (bits .andNot .u64 y b) _).mono ?_; rintro e w2 ⟨rfl, hb⟩; have HC2 := Lib.hid (HC.out.step hb); clear hb)
    | (with_reducible refine wpList_store_all rfl 34 (.tmp 4) (.tmp 16) rfl _ (vrow .u64 [bits .andNot .u64 x a, bits .and .u64 (bits .andNot .u64 y b) 68719476735]) rfl rfl (HC2.out.blk (w.heap.size + 1 + 1, zrow .u64 2, 34) (by simp)) rfl (by kernel_rfl) (vrow_one _ _) ?_))
  exact post_blk (p := 4) (T := 34) rfl rfl rfl ((HC2.out.blk (w.heap.size + 1 + 1, zrow .u64 2, 34) (by simp)).row _) Try.underlying34 rfl (by kernel_rfl) ⟨rfl, below_setRow HC2.out.below (by omega) _⟩


theorem info_I64 : (Try.prog.info? 2).map (fun i => (i.zero, i.size, i.bytes)) = some (some (.int .i64 0), 1, 8) := by kernel_rfl
set_option maxHeartbeats 4000000 in
theorem listOf_any {U : List Int} (hU : ClOk U) (w : World) : Calls Try.prog 18 #[.agg (vrow .u64 U).toArray] w fun e w' => ∃ v : Value, e = .returned v ∧ Made w w' (Gap.lst (hasN U) 100) v ∧ Below w.heap.size w w' := by
  have HU := Lib.hid hU
  have HUL := Lib.hid hU.len
  clear hU
  go_enter Try.func18, Try.ntmps18
  go_upto_region 1 with (fail)
  obtain ⟨W, hW⟩ : ∃ W, W = w.alloc (.cells (vrow .u64 U).toArray 34) := ⟨_, rfl⟩
  have HC := Lib.hid (boxed1 w (vrow .u64 U) 34)
  rw [← hW] at HC ⊢
  clear hW
  go_wp2_with (first
    | ((with_reducible refine gate_dst (N := 5) rfl ?_); refine Kd.R_lit (Kd.int .i64) (w0 := W) W.heap.size 2 ?hg (N := 5) ?hd (xs := ([] : List Int)) (inner := []) (ok := fun _ => True) (okp := fun _ => True) ?hr ?hp (fun _ hk => hk) trivial (Below.refl _ _) (Nat.le_refl _) (by simp) ?_; (case hd => rfl); (case hg => rfl); (case hr => first | (go_simp; done) | (go_simp; rfl)); (case hp => exact (Reps.none _ _)); intro v1 w1 ho1 hb1 hg1 hn1; clear hg1 hn1; have HR1 := Lib.hid ho1; have HB1 := Lib.hid hb1; clear ho1 hb1))
  go_loopw [3, 6] (fun u v wr => ∃ i : Nat, i ≤ 100 ∧ v = .int .i64 i ∧ Hid (Made W wr (Gap.lst (hasN U) i) u) ∧ Hid (Below W.heap.size W wr)) (fun _ v _ => 100 - (intOf v).toNat)
  case atStart => exact ⟨0, by omega, rfl, Lib.hid HR1.out, HB1⟩
  case round =>
    clear HR1 HB1
    obtain ⟨i, hi, rfl, HRr, HB⟩ := hrel
    have HL : Hid ((Gap.lst (hasN U) i).length ≤ i) := Lib.hid (Gap.lst_len _ i)
    by_cases hlt : i < 100
    · cases hs : hasN U i
      · have HS := Lib.hid hs
        have HN : Hid (Gap.lst (hasN U) (i + 1) = Gap.lst (hasN U) i) := Lib.hid (Gap.lst_no hs)
        clear hs
        go_wp2_with (first
          | (with_reducible refine wpList_load_blk rfl 34 (.tmp 1) rfl _ 0 rfl (vrow .u64 U) _ ((HC.out.step HB.out).blk (w.heap.size, vrow .u64 U, 34) (by simp)) (by rw [List.drop_zero, List.take_length]) Try.underlying34 rfl (by rw [vrow_len, HUL.out]; kernel_rfl) ?_)
          | (go_at_call 28; refine (hasCell_any HU.out hlt _).mono ?_; rintro e w5 ⟨rfl, hb⟩; rw [HS.out]; have HB5 := Lib.hid (HB.out.trans (hb.mono HB.out.size)); have HR5 := Lib.hid (Kd.R_below HRr.out hb); clear hb))
        go_roundw
        case rel => exact ⟨i + 1, by omega, by go_num, by rw [HN.out]; exact HR5, HB5⟩
        case measure => simp only [intOf]; omega
      · have HS := Lib.hid hs
        have HN : Hid (Gap.lst (hasN U) (i + 1) = Gap.lst (hasN U) i ++ [(i : Int)]) := Lib.hid (Gap.lst_yes hs)
        clear hs
        go_wp2_with (first
          | (with_reducible refine wpList_load_blk rfl 34 (.tmp 1) rfl _ 0 rfl (vrow .u64 U) _ ((HC.out.step HB.out).blk (w.heap.size, vrow .u64 U, 34) (by simp)) (by rw [List.drop_zero, List.take_length]) Try.underlying34 rfl (by rw [vrow_len, HUL.out]; kernel_rfl) ?_)
          | (go_at_call 28; refine (hasCell_any HU.out hlt _).mono ?_; rintro e w5 ⟨rfl, hb⟩; rw [HS.out]; have HB5 := Lib.hid (HB.out.trans (hb.mono HB.out.size)); have HR5 := Lib.hid (Kd.R_below HRr.out hb); clear hb)
          | ((with_reducible refine gate_builtin (b := .append) (xs := #[.tmp 12, .tmp 14]) rfl ?_); at_builtin; refine Kd.R_append (Kd.int .i64) (w0 := W) W.heap.size rfl (.tmp 12) (.tmp 14) 48 2 (.int .i64 0) 8 rfl Try.underlying48 info_I64 rfl (by decide) (by omega) _ (Gap.lst (hasN U) i) i [.int .i64 i] (fun _ => True) (fun _ => False) rfl rfl ?aP (fun _ hk => hk.elim) ?aF ?aO ?aB ?aS ?aL ?_; (case aP => exact rfl); (case aF => exact (fun _ _ => trivial)); (case aO => exact (by (with_reducible repeat (first | apply Kd.R_alloc | apply Kd.R_drewN | apply Kd.R_drew)); exact HR5.out)); (case aB => exact (by repeat (first | (with_reducible first | exact HB5.out | apply below_alloc | apply pw_below_drewN | apply below_drew1) | exact HB5.out))); (case aS => exact (below_size (by repeat (first | (with_reducible first | exact HB5.out | apply below_alloc | apply pw_below_drewN | apply below_drew1) | exact HB5.out)))); (case aL => have := HL.out; omega); intro v2 w8 ho hb hg hat; rw [← HN.out] at ho; have HR2 := Lib.hid ho; have HB2 := Lib.hid hb; clear ho hb hg hat))
        go_roundw
        case rel => exact ⟨i + 1, by omega, by go_num, HR2, HB2⟩
        case measure => simp only [intOf]; omega
    · obtain rfl : i = 100 := by omega
      go_wp2
      go_ret
      exact ⟨_, rfl, Kd.R_lower HRr.out HC.out.below.size, (HC.out.step HB.out).below⟩

/-- The soil cells of a set. -/
def soilB (F : Fld) (U : List Int) (j : Nat) : Bool := hasN U j && (F.has (j : Int) && (F.kind j == 0))
theorem soil_set (F : Fld) {U : List Int} (hU : ClOk U) : setTo (fun j => hasN U j && hasN (setTo (fun j => F.has (j : Int) && (F.kind j == 0)) 100) j) 100 = setTo (soilB F U) 100 := setTo_same 100 fun j hj => by
  unfold soilB
  rw [hasN_setTo _ (by omega), decide_eq_true hj, Bool.true_and]
set_option maxRecDepth 100000 in
set_option maxHeartbeats 2000000 in
theorem soilOf_any (F : Fld) (hF : F.Ok) {U : List Int} (hU : ClOk U) (g : Nat) (w : World) (hf : IsF w g F) :
    Calls Try.prog 26 #[.pointer (some ⟨g, 0, none⟩), .agg (vrow .u64 U).toArray] w fun e w' => e = .returned (.agg (vrow .u64 (setTo (soilB F U) 100)).toArray) ∧ Below w.heap.size w w' := by
  have hz := zeroCells
  have HF := Lib.hid hf
  have HO := Lib.hid hF
  have HU := Lib.hid hU
  have HUL := Lib.hid hU.len
  have HSS := Lib.hid (soil_set F hU)
  have hfl := hf.lt
  clear hf hF hU
  have HL := Lib.hid (setTo_len (soilB F U) 100)
  go_enter Try.func26, Try.ntmps26
  go_upto_region 1 with (fail)
  obtain ⟨W, hW⟩ : ∃ W, W = (w.alloc (.cells (vrow .u64 U).toArray 34)).alloc (.cells (zrow .u64 2).toArray 34) := ⟨_, rfl⟩
  have HC := Lib.hid (boxed2 w (vrow .u64 U) (zrow .u64 2) 34 34)
  rw [← hW] at HC ⊢
  clear hW
  have HF1 : Hid (IsF W g F) := Lib.hid (HF.out.below HC.out.below hfl)
  have hfl1 := HF1.out.lt
  refine wp_region_K 4 5 #[false, false, false, false, false] (by kernel_rfl) (by kernel_rfl) (fun _ _ _ _ hd h => ⟨hd.symm.trans h.1, h.2⟩) (fun hPB => ?_)
  have HD := Lib.hid HC.out.drew
  have HX := Lib.hid (fun (w' : World) (h : WUp W.drew w') => (HD.out.step h))
  have HXF := Lib.hid (fun (w' : World) (h : WUp W.drew w') => ((HF1.out.drewN 1).below h (HF1.out.drewN 1).lt : IsF w' g F))
  refine wpK_take (i := 0) #[true, false, false, false, false] rfl (by kernel_rfl) hPB (y_load rfl 34 (.tmp 3) rfl w.heap.size 0 (by kernel_rfl) (vrow .u64 U) _ (HD.out.blk (w.heap.size, vrow .u64 U, 34) (by simp)) (by rw [List.drop_zero, List.take_length]) Try.underlying34 rfl (by rw [vrow_len, HUL.out]; kernel_rfl)) ?_
  simp only [Act.put, List.setIfInBounds_toArray, List.set_cons_zero, List.set_cons_succ]
  refine wpK_auto (i := 1) #[true, true, false, false, false] rfl (by kernel_rfl) hPB (fun K hK => ?_)
  go_simp
  refine hK _ ?_
  clear hK K
  refine wpK_take (i := 2) #[true, true, true, false, false] rfl (by kernel_rfl) hPB (y_call (v := .agg (vrow .u64 (setTo (fun j => F.has (j : Int) && (F.kind j == 0)) 100)).toArray) rfl Try.func20 (by kernel_rfl) rfl #[.pointer (some ⟨g, 0, none⟩), .int .i64 0] rfl (by simp only [List.map_toArray, List.map_cons, List.map_nil]; kernel_rfl) (fun w' h => ofKind_any F HO.out 0 g w' (HXF.out w' h))) ?_
  simp only [Act.put, List.setIfInBounds_toArray, List.set_cons_zero, List.set_cons_succ]
  refine wpK_take (i := 3) #[true, true, true, true, false] rfl (by kernel_rfl) hPB (y_call (v := .agg (vrow .u64 (setTo (soilB F U) 100)).toArray) rfl Try.func38 (by kernel_rfl) rfl #[.agg (vrow .u64 U).toArray, .agg (vrow .u64 (setTo (fun j => F.has (j : Int) && (F.kind j == 0)) 100)).toArray] rfl (by simp only [List.map_toArray, List.map_cons, List.map_nil]; kernel_rfl) (fun w' h => by rw [← HSS.out]; exact bothOf_any HU.out (setTo_ok _) w')) ?_
  simp only [Act.put, List.setIfInBounds_toArray, List.set_cons_zero, List.set_cons_succ]
  refine wpK_only (i := 4) #[true, true, true, true, true] (by kernel_rfl) (fun w3 hu => ?_)
  have HX3 := Lib.hid (HX.out w3 hu)
  refine k_store_all rfl rfl 34 (.tmp 4) (.tmp 8) rfl (w.heap.size + 1) (vrow .u64 (setTo (soilB F U) 100)) (by kernel_rfl) (by kernel_rfl) (HX3.out.blk (w.heap.size + 1, zrow .u64 2, 34) (by simp)) (by rw [vrow_len, zrow_len, HL.out]) (by rw [vrow_len, HL.out]; kernel_rfl) (vrow_one _ _) ⟨fun h => absurd h (by decide), ?_⟩
  simp only [Act.put]
  have hz1 := (HX3.out.blk (w.heap.size + 1, zrow .u64 2, 34) (by simp)).row (vrow .u64 (setTo (soilB F U) 100))
  have hb1 := below_setRow HX3.out.below (show w.heap.size ≤ w.heap.size + 1 by omega) (vrow .u64 (setTo (soilB F U) 100)).toArray
  refine wpK_done (by kernel_rfl) (fun w5 hu5 => ?_)
  have HP1 := Lib.hid (hz1.below hu5 hz1.lt)
  have HPB := Lib.hid (hb1.trans (hu5.mono hb1.size))
  clear hz1 hb1 hu5 hu hPB
  go_wp2
  exact post_blk (p := 4) (T := 34) rfl rfl rfl HP1.out Try.underlying34 rfl (by rw [vrow_len, HL.out]; kernel_rfl) ⟨rfl, HPB.out⟩
end Go.Proofs.Ytalmlgkedcdkdaa
