/- SeenBy, by the program and by the reference: the same. No condition but that the numbers are within their kinds. -/
import Derived.Test.YtmhkechkkpppaaaB8
import Derived.Test.YtmhkechkkpppaaaUN
import Derived.Test.YtmhkechkkpppaaaB4
namespace Go.Proofs.Ytmhkechkkpppaaa
open Go.RowKit Go.Proofs.YtmhkechkkpppaaaW.PrintWords Go.Proofs.YtmhkechkkpppaaaW.PrintLast Go.Proofs.YtmhkechkkpppaaaW.PrintMore Go.Proofs.Ytmhkechkkpppaaa.PAll
set_option linter.unusedSimpArgs false
set_option linter.unusedVariables false

/-- The cells that are seen in one of the first n minutes. -/
def seenTo (F : Fld) (b : List Int) (s : Int) (n : Nat) : List Int := setTo (fun j => F.has (j : Int) && (List.range n).any (fun i => decide (sq (rd b (i : Int)) (j : Int) ≤ s))) 100
/-- The cells that are seen, and the code. -/
noncomputable def sbRes (F : Fld) (b : List Int) (s : Int) : List Int × Int := if codeB F b (inB s 0 50) = 0 then (seenTo F b s b.length, 0) else (List.replicate 2 0, codeB F b (inB s 0 50))
theorem seenTo_len (F : Fld) (b : List Int) (s : Int) (n : Nat) : (seenTo F b s n).length = 2 := setTo_len _ _
theorem sbRes_len (F : Fld) (b : List Int) (s : Int) : (sbRes F b s).1.length = 2 := by
  unfold sbRes
  split
  · exact seenTo_len _ _ _ _
  · simp
theorem seenB_one (b : List Int) (s j : Int) {k : Nat} (hk : k < b.length) : seenB b s j 1 k = decide (sq (rd b (k : Int)) j ≤ s) := by
  unfold seenB
  have e : atN b.length 1 k 0 = k := by unfold atN; rw [Nat.zero_mul, Nat.zero_div, Nat.add_zero, Nat.mod_eq_of_lt hk]
  have e2 : List.range 1 = [0] := rfl
  rw [e2]
  simp only [List.any_cons, List.any_nil, Bool.or_false]
  unfold sAt
  rw [e]
theorem seen_set (F : Fld) (b : List Int) (s : Int) : setTo (fun j => F.has (j : Int) && decide (0 < (Gap.lst (seenB b s (j : Int) 1) b.length).length)) 100 = seenTo F b s b.length := by
  unfold seenTo
  refine setTo_same 100 fun j hj => ?_
  rw [Gap.lst_some]
  congr 1
  rw [Bool.eq_iff_iff, List.any_eq_true, List.any_eq_true]
  constructor
  · rintro ⟨i, hi, h⟩
    exact ⟨i, hi, by rw [← seenB_one b s j (List.mem_range.1 hi)]; exact h⟩
  · rintro ⟨i, hi, h⟩
    exact ⟨i, hi, by rw [seenB_one b s j (List.mem_range.1 hi)]; exact h⟩
theorem seenTo_zero (F : Fld) (b : List Int) (s : Int) : seenTo F b s 0 = [0, 0] := by
  rw [← setTo_none]
  exact setTo_same 100 fun j hj => by simp
theorem seenTo_ok (F : Fld) (b : List Int) (s : Int) (n : Nat) : ClOk (seenTo F b s n) := setTo_ok _
theorem ringSet_ok (F : Fld) (k : Nat) (s : Int) : ClOk (ringSet F k s) := setTo_ok _
theorem seenTo_step (F : Fld) (b : List Int) (s : Int) (n k : Nat) (hk : rd b (n : Int) = (k : Int)) : setTo (fun j => hasN (seenTo F b s n) j || hasN (ringSet F k s) j) 100 = seenTo F b s (n + 1) := by
  have e : ∀ p : Nat → Bool, ∀ j, j < 100 → hasN (setTo p 100) j = p j := fun p j hj => by rw [hasN_setTo p (by omega), decide_eq_true hj, Bool.true_and]
  unfold seenTo ringSet
  refine setTo_same 100 fun j hj => ?_
  rw [e _ j hj, e _ j hj, List.range_succ, List.any_append]
  unfold ringB
  simp only [List.any_cons, List.any_nil, Bool.or_false, hk]
  cases F.has (j : Int) <;> simp

theorem minC_any {b : List Int} {c : Int} {wt : Nat} (h : BtIn b c wt) (s : Int) (A : Option Addr) (n : Nat) (w : World) (hA : BtAt w A b) (hc : b.length ≤ n) :
    Calls Try.prog 62 #[.slice A b.length n, .int .i64 s, .int .i64 c, .int .i64 (wt : Int)] w fun e w' => ∃ v : Value, e = .returned v ∧ Made w w' (Gap.lst (seenB b s c wt) b.length) v ∧ Below w.heap.size w w' :=
  impl_Beat_minutes.calls (1 + b.length * (wt + 2)) A n b s c wt _ w hA hc (min_f h _ (Nat.le_refl _))
theorem sbClo1_any (s : Int) (d1 : Nat) (w : World) (h1 : Blk w d1 [.int .i64 s] 2) : Calls Try.prog 59 #[.pointer (some ⟨d1, 0, none⟩)] w fun e w' => e = .returned (.bool (inB s 0 50)) ∧ Below w.heap.size w w' := by
  have c1 := h1.cell (i := 0) rfl
  clear h1
  go_enter Try.func59, Try.ntmps59
  go_wp2_with (go_at_call 54; refine (isSight_any _ _).mono ?_; rintro e w' ⟨rfl, rfl⟩)
  go_ret
  exact ⟨rfl, Below.refl _ _⟩
theorem sbClo2_any (b : List Int) (s c : Int) (hI : BtIn b c 1) (d1 d2 : Nat) (A : Option Addr) (n : Nat) (w : World) (h1 : Blk w d1 [.slice A b.length n] 29) (h2 : Blk w d2 [.int .i64 s] 2) (hA : BtAt w A b) (hlc : b.length ≤ n) :
    Calls Try.prog 61 #[.int .i64 c, .pointer (some ⟨d1, 0, none⟩), .pointer (some ⟨d2, 0, none⟩)] w fun e w' => e = .returned (.bool (decide (0 < (Gap.lst (seenB b s c 1) b.length).length))) ∧ Below w.heap.size w w' := by
  have c1 := h1.cell (i := 0) rfl
  have c2 := h2.cell (i := 0) rfl
  have HI := Lib.hid hI
  have HA := Lib.hid hA
  have HLC := Lib.hid hlc
  clear h1 h2 hA hI hlc
  go_enter Try.func61, Try.ntmps61
  go_wp2_with (go_at_call 62; refine (minC_any HI.out s A n _ HA.out HLC.out).mono ?_; rintro e w' ⟨v, rfl, hm, hb⟩; have HB := Lib.hid hb; clear hb; obtain ⟨A2, c2, hv⟩ := Kd.R_slice hm; subst hv; clear hm)
  go_ret
  exact ⟨ret_bool (by simp), HB.out⟩


set_option maxHeartbeats 2000000 in
theorem iSeenBy_any (F : Fld) (hF : F.Ok) (b : List Int) (hb : BtOk b) (s : Int) (A : Option Addr) (n : Nat) (w : World) (hA : BtAt w A b) (hlc : b.length ≤ n) :
    Calls Try.prog 26 #[.agg F.vals.toArray, .slice A b.length n, .int .i64 s] w fun e w' => e = .returned (.tuple #[.agg (vrow .u64 (sbRes F b s).1).toArray, .int .i64 (sbRes F b s).2]) ∧ Below w.heap.size w w' := by
  have HO := Lib.hid hF
  have HBO := Lib.hid hb
  have HA := Lib.hid hA
  have HLC := Lib.hid hlc
  clear hF hb hA hlc
  have hz := zeroCells
  have hmf : ∀ (fn : Fn) (first cap : Array Value) (w : World), (Instr.makeFunc fn first cap).run Try.prog w = .ok (.func fn first cap) w := fun _ _ _ _ => rfl
  go_enter Try.func26, Try.ntmps26
  go_upto_region 1 with (fail)
  obtain ⟨W, hW⟩ : ∃ W, W = (((w.alloc (.cells F.vals.toArray 32)).alloc (.cells [Value.slice A b.length n].toArray 29)).alloc (.cells [Value.int .i64 s].toArray 2)).alloc (.cells (zrow .u64 2).toArray 40) := ⟨_, rfl⟩
  have HC := Lib.hid (boxed4 w F.vals [.slice A b.length n] [.int .i64 s] (zrow .u64 2) 32 29 2 40)
  rw [← hW] at HC ⊢
  clear hW
  have k1 : W.cell? ⟨w.heap.size + 1, 0, none⟩ = some (.slice A b.length n) := (HC.out.blk (w.heap.size + 1, [.slice A b.length n], 29) (by simp)).cell rfl
  by_cases hq : codeB F b (inB s 0 50) = 0
  · have HQ := Lib.hid hq
    have HIn : Hid (∀ j : Nat, j < 100 → BtIn b (j : Int) 1) := Lib.hid (fun j hj => btIn_at (codeB_zero hq).1 hj (by omega) (by omega))
    have HR : Hid (sbRes F b s = (seenTo F b s b.length, 0)) := Lib.hid (by unfold sbRes; rw [if_pos hq])
    have HL := Lib.hid (seenTo_len F b s b.length)
    clear hq
    go_wp2_with (first
      | (go_at_call 52; refine (beatCode_any F HO.out b HBO.out _ A n 59 _ (inB s 0 50) _ (HC.out.blk (w.heap.size, F.vals, 32) (by simp)) (Kd.C_below HA.out HC.out.below) (enters_of Try.func59 (by kernel_rfl) rfl) (fun hv w1 hb => sbClo1_any s _ w1 ((HC.out.step hb).blk (w.heap.size + 1 + 1, [.int .i64 s], 2) (by simp)))).mono ?_; rintro e w2 ⟨rfl, hb⟩; rw [HQ.out]; have HC1 := Lib.hid (HC.out.step hb); clear hb)
      | (go_at_call 60; refine (those_any F HO.out (fun j => decide (0 < (Gap.lst (seenB b s (j : Int) 1) b.length).length)) _ 61 _ _ (HC1.out.blk (w.heap.size, F.vals, 32) (by simp)) (enters_of Try.func61 (by kernel_rfl) rfl) (fun i w1 hi hb => by rw [app2]; exact sbClo2_any b s (i : Int) (HIn.out i hi) _ _ A n w1 ((HC1.out.step hb).blk (w.heap.size + 1, [.slice A b.length n], 29) (by simp)) ((HC1.out.step hb).blk (w.heap.size + 1 + 1, [.int .i64 s], 2) (by simp)) (Kd.C_below HA.out (HC1.out.step hb).below) HLC.out)).mono ?_; rintro e w3 ⟨rfl, hb⟩; rw [seen_set]; have HC2 := Lib.hid (HC1.out.step hb); clear hb)
      | (with_reducible refine wpList_store_all rfl 40 (.tmp 6) (.tmp 17) rfl _ (vrow .u64 (seenTo F b s b.length)) rfl rfl (HC2.out.blk (w.heap.size + 1 + 1 + 1, zrow .u64 2, 40) (by simp)) (by rw [vrow_len, zrow_len, HL.out]) (by rw [vrow_len, HL.out]; kernel_rfl) (vrow_one _ _) ?_))
    rw [HR.out]
    exact post_blk2 (p := 6) (q := 7) (T := 40) rfl rfl rfl rfl ((HC2.out.blk (w.heap.size + 1 + 1 + 1, zrow .u64 2, 40) (by simp)).row _) Try.underlying40 rfl (by rw [vrow_len, HL.out]; kernel_rfl) ⟨rfl, below_setRow HC2.out.below (by omega) _⟩
  · have HR : Hid (sbRes F b s = (List.replicate 2 0, codeB F b (inB s 0 50))) := Lib.hid (by unfold sbRes; rw [if_neg hq])
    have hq' : (codeB F b (inB s 0 50) != 0) = true := by simpa using hq
    go_wp2_with (first
      | (go_at_call 52; refine (beatCode_any F HO.out b HBO.out _ A n 59 _ (inB s 0 50) _ (HC.out.blk (w.heap.size, F.vals, 32) (by simp)) (Kd.C_below HA.out HC.out.below) (enters_of Try.func59 (by kernel_rfl) rfl) (fun hv w1 hb => sbClo1_any s _ w1 ((HC.out.step hb).blk (w.heap.size + 1 + 1, [.int .i64 s], 2) (by simp)))).mono ?_; rintro e w2 ⟨rfl, hb⟩; have HC1 := Lib.hid (HC.out.step hb); clear hb; have hst := run_storeCells_blk (P := Try.prog) (HC1.out.blk (w.heap.size + 1 + 1 + 1, zrow .u64 2, 40) (by simp)) (vs := zrow .u64 2) rfl (zrow_one _ _)))
    rw [HR.out]
    exact post_blk2 (p := 6) (q := 7) (T := 40) rfl rfl rfl rfl (by rw [vrow_zero]; exact (HC1.out.blk (w.heap.size + 1 + 1 + 1, zrow .u64 2, 40) (by simp)).row _) Try.underlying40 rfl (by rw [vrow_len, List.length_replicate]; kernel_rfl) ⟨rfl, below_setRow HC1.out.below (by omega) _⟩


set_option maxHeartbeats 4000000 in
theorem sSeenBy_any (F : Fld) (hF : F.Ok) (b : List Int) (hb : BtOk b) (s : Int) (A : Option Addr) (n : Nat) (w : World) (hA : BtAt w A b) (hlc : b.length ≤ n) :
    Calls Try.prog 25 #[.agg F.vals.toArray, .slice A b.length n, .int .i64 s] w fun e w' => e = .returned (.tuple #[.agg (vrow .u64 (sbRes F b s).1).toArray, .int .i64 (sbRes F b s).2]) ∧ Below w.heap.size w w' := by
  have HO := Lib.hid hF
  have HBO := Lib.hid hb
  have HA := Lib.hid hA
  have HLC := Lib.hid hlc
  have hbl := hA.2.1
  clear hF hb hA hlc
  have hz := zeroCells
  go_enter Try.func25, Try.ntmps25
  go_upto_region 1 with (fail)
  obtain ⟨W, hW⟩ : ∃ W, W = (w.alloc (.cells F.vals.toArray 32)).alloc (.cells (zrow .u64 2).toArray 40) := ⟨_, rfl⟩
  have HC := Lib.hid (boxed2 w F.vals (zrow .u64 2) 32 40)
  rw [← hW] at HC ⊢
  clear hW
  by_cases hq : codeB F b (inB s 0 50) = 0
  · have HQ := Lib.hid hq
    have HBC := Lib.hid (beat_cells (codeB_zero hq).1).2.2
    have hb40 : b.length ≤ 40 := (beat_cells (codeB_zero hq).1).2.1
    have HR : Hid (sbRes F b s = (seenTo F b s b.length, 0)) := Lib.hid (by unfold sbRes; rw [if_pos hq])
    clear hq
    go_wp2_with (first
      | (go_at_call 49; refine (l05Asked_any F HO.out b HBO.out _ A n s true _ (HC.out.blk (w.heap.size, F.vals, 32) (by simp)) (Kd.C_below HA.out HC.out.below)).mono ?_; rintro e w2 ⟨rfl, m1, hw⟩; rw [Bool.and_true, HQ.out]; have HC1 := Lib.hid (HC.out.step (show Below W.heap.size W w2 by rw [hw]; exact below_drewN (Below.refl _ _) _)); clear hw)
      | ((with_reducible refine gate_op (.store 40 (.tmp 9) (.tmp 18)) rfl ?_); refine wpList_store_all rfl 40 (.tmp 9) (.tmp 18) rfl _ (zrow .u64 2) (by kernel_rfl) (by kernel_rfl) (Blk.new' _ (zrow .u64 2) 40) rfl (by rw [zrow_len]; kernel_rfl) (zrow_one _ _) ?_; refine wpl_name (fun w' => Below w2.heap.size w2 w' ∧ Blk w' w2.heap.size (zrow .u64 2) 40) ⟨below_setRow ((Below.refl _ _).alloc (Nat.le_refl _) _) (Nat.le_refl _) _, (Blk.new' _ (zrow .u64 2) 40).row _⟩ ?_; rintro w3 ⟨hb, hK⟩; have HK := Lib.hid hK; have HC3 := Lib.hid (HC1.out.step hb); clear hb hK))
    have hg1 : w.heap.size < w2.heap.size := HC1.out.lt (w.heap.size, F.vals, 32) (by simp)
    have hg2 : w.heap.size + 1 < w2.heap.size := HC1.out.lt (w.heap.size + 1, zrow .u64 2, 40) (by simp)
    generalize w2.heap.size = g at *
    clear HC1
    go_loopw [10] (fun v wr => ∃ i : Nat, i ≤ b.length ∧ v = .int .i64 i ∧ Hid (Cls w [(w.heap.size, F.vals, 32), (w.heap.size + 1, zrow .u64 2, 40)] wr) ∧ Hid (Blk wr g (vrow .u64 (seenTo F b s i)) 40)) (fun v _ => b.length - (intOf v).toNat)
    case atStart => exact ⟨0, by omega, rfl, HC3, by rw [seenTo_zero]; exact HK⟩
    case round =>
      obtain ⟨i, hi, rfl, HCr, HKr⟩ := hrel
      by_cases hlt : i < b.length
      · obtain ⟨k, hk, hk2⟩ := HBC.out i hlt
        obtain ⟨ad, hA2, hx⟩ := Kd.at_int HA.out (i : Int) (by omega) (by omega)
        subst hA2
        have HN := Lib.hid (seenTo_step F b s i k hk)
        have HL := Lib.hid (seenTo_len F b s i)
        have HL1 := Lib.hid (seenTo_len F b s (i + 1))
        go_upto_region 8 with (fail)
        refine wp_region_K 9 10 #[false, false, false, false, false, false, false, false, false, false] (by kernel_rfl) (by kernel_rfl) (fun _ _ _ _ hd h => ⟨hd.symm.trans h.1, h.2⟩) (fun hPB => ?_)
        have HD := Lib.hid HCr.out.drew
        have HKD : Hid (Blk wr.drew g (vrow .u64 (seenTo F b s i)) 40) := Lib.hid (HKr.out.drewN 1)
        have HX := Lib.hid (fun (w' : World) (h : WUp wr.drew w') => (HD.out.step h))
        have HXK := Lib.hid (fun (w' : World) (h : WUp wr.drew w') => HKD.out.below h HKD.out.lt)
        have HXI := Lib.hid (show ∀ w', WUp wr.drew w' → w'.cell? (ad.add i) = some (.int .i16 (k : Int)) from fun w' h => by
          obtain ⟨ad', e1, e2⟩ := Kd.at_int (Kd.C_below HA.out ((HD.out.step h).below)) (i : Int) (by omega) (by omega)
          cases e1
          rw [Int.toNat_natCast, hk] at e2
          exact e2)
        have ek : IntKind.i64.wrap (k : Int) = (k : Int) := by rw [IntKind.wrap_i64]; omega
        refine wpK_take (i := 0) #[true, false, false, false, false, false, false, false, false, false] rfl (by kernel_rfl) hPB (y_load rfl 40 (.tmp 9) rfl g 0 (by kernel_rfl) (vrow .u64 (seenTo F b s i)) _ HKD.out (by rw [List.drop_zero, List.take_length]) Try.underlying40 rfl (by rw [vrow_len, HL.out]; kernel_rfl)) ?_
        simp only [Act.put, List.setIfInBounds_toArray, List.set_cons_zero, List.set_cons_succ]
        refine wpK_auto (i := 1) #[true, true, false, false, false, false, false, false, false, false] rfl (by kernel_rfl) hPB (fun K hK => ?_)
        go_simp
        refine hK _ ?_
        clear hK K
        refine wpK_auto (i := 2) #[true, true, true, false, false, false, false, false, false, false] rfl (by kernel_rfl) hPB (fun K hK => ?_)
        go_simp
        refine hK _ ?_
        clear hK K
        refine wpK_auto (i := 3) #[true, true, true, true, false, false, false, false, false, false] rfl (by kernel_rfl) hPB (fun K hK => ?_)
        go_simp
        refine hK _ ?_
        clear hK K
        refine wpK_take (i := 4) #[true, true, true, true, true, false, false, false, false, false] rfl (by kernel_rfl) hPB (y_loadc (v := .int .i16 (k : Int)) rfl 24 (.tmp 28) rfl (ad.add i) (by kernel_rfl) (fun w' h => run_loadc_int 24 Try.underlying24 (HXI.out w' h))) ?_
        simp only [Act.put, List.setIfInBounds_toArray, List.set_cons_zero, List.set_cons_succ]
        refine wpK_auto (i := 5) #[true, true, true, true, true, true, false, false, false, false] rfl (by kernel_rfl) hPB (fun K hK => ?_)
        go_simp
        refine hK _ ?_
        clear hK K
        refine wpK_auto (i := 6) #[true, true, true, true, true, true, true, false, false, false] rfl (by kernel_rfl) hPB (fun K hK => ?_)
        go_simp
        refine hK _ ?_
        clear hK K
        refine wpK_take (i := 7) #[true, true, true, true, true, true, true, true, false, false] rfl (by kernel_rfl) hPB (y_call (v := .agg (vrow .u64 (ringSet F k s)).toArray) rfl Try.func51 (by kernel_rfl) rfl #[.pointer (some ⟨w.heap.size, 0, none⟩), .int .i64 (k : Int), .int .i64 s] rfl (by simp only [List.map_toArray, List.map_cons, List.map_nil]; kernel_rfl) (fun w' h => sRing_any F HO.out k hk2 s _ w' ((HX.out w' h).blk (w.heap.size, F.vals, 32) (by simp)))) ?_
        simp only [Act.put, List.setIfInBounds_toArray, List.set_cons_zero, List.set_cons_succ]
        refine wpK_take (i := 8) #[true, true, true, true, true, true, true, true, true, false] rfl (by kernel_rfl) hPB (y_call (v := .agg (vrow .u64 (seenTo F b s (i + 1))).toArray) rfl Try.func58 (by kernel_rfl) rfl #[.agg (vrow .u64 (seenTo F b s i)).toArray, .agg (vrow .u64 (ringSet F k s)).toArray] rfl (by simp only [List.map_toArray, List.map_cons, List.map_nil]; kernel_rfl) (fun w' h => by rw [← HN.out]; exact union_any (seenTo_ok F b s i) (ringSet_ok F k s) w')) ?_
        simp only [Act.put, List.setIfInBounds_toArray, List.set_cons_zero, List.set_cons_succ]
        refine wpK_only (i := 9) #[true, true, true, true, true, true, true, true, true, true] (by kernel_rfl) (fun w4 hu => ?_)
        have HX4 := Lib.hid (HX.out w4 hu)
        refine k_store_all rfl rfl 40 (.tmp 9) (.tmp 33) rfl g (vrow .u64 (seenTo F b s (i + 1))) (by kernel_rfl) (by kernel_rfl) (HXK.out w4 hu) (by rw [vrow_len, vrow_len, HL.out, HL1.out]) (by rw [vrow_len, HL1.out]; kernel_rfl) (vrow_one _ _) ⟨fun h => absurd h (by decide), ?_⟩
        simp only [Act.put]
        have hz1 := (HXK.out w4 hu).row (vrow .u64 (seenTo F b s (i + 1)))
        have hc1 := HX4.out.row' (vrow .u64 (seenTo F b s (i + 1))).toArray (g := g) (by omega) (fun x hx => by
          simp only [List.mem_cons, List.not_mem_nil, or_false] at hx
          rcases hx with rfl | rfl
          · exact (show w.heap.size ≠ g by omega)
          · exact (show w.heap.size + 1 ≠ g by omega))
        refine wpK_done (by kernel_rfl) (fun w5 hu5 => ?_)
        have HZ5 := Lib.hid (hz1.below hu5 hz1.lt)
        have HC5 := Lib.hid (hc1.step hu5)
        clear hz1 hc1 hu5 hu hPB
        go_wp2
        go_roundw
        case rel => exact ⟨i + 1, by omega, by go_num, HC5, HZ5⟩
        case measure => simp only [intOf]; omega
      · obtain rfl : i = b.length := by omega
        have HL := Lib.hid (seenTo_len F b s b.length)
        go_wp2_with (first
          | (with_reducible refine wpList_load_blk rfl 40 (.tmp 9) rfl _ 0 rfl (vrow .u64 (seenTo F b s b.length)) _ HKr.out (by rw [List.drop_zero, List.take_length]) Try.underlying40 rfl (by rw [vrow_len, HL.out]; kernel_rfl) ?_)
          | (with_reducible refine wpList_store_all rfl 40 (.tmp 6) (.tmp 34) rfl _ (vrow .u64 (seenTo F b s b.length)) rfl rfl (HCr.out.blk (w.heap.size + 1, zrow .u64 2, 40) (by simp)) (by rw [vrow_len, zrow_len, HL.out]) (by rw [vrow_len, HL.out]; kernel_rfl) (vrow_one _ _) ?_))
        rw [HR.out]
        exact post_blk2 (p := 6) (q := 7) (T := 40) rfl rfl rfl rfl ((HCr.out.blk (w.heap.size + 1, zrow .u64 2, 40) (by simp)).row _) Try.underlying40 rfl (by rw [vrow_len, HL.out]; kernel_rfl) ⟨rfl, below_setRow HCr.out.below (by omega) _⟩
  · have HR : Hid (sbRes F b s = (List.replicate 2 0, codeB F b (inB s 0 50))) := Lib.hid (by unfold sbRes; rw [if_neg hq])
    have hq' : (codeB F b (inB s 0 50) != 0) = true := by simpa using hq
    go_wp2_with (first
      | (go_at_call 49; refine (l05Asked_any F HO.out b HBO.out _ A n s true _ (HC.out.blk (w.heap.size, F.vals, 32) (by simp)) (Kd.C_below HA.out HC.out.below)).mono ?_; rintro e w2 ⟨rfl, m1, hw⟩; rw [Bool.and_true]; have HC1 := Lib.hid (HC.out.step (show Below W.heap.size W w2 by rw [hw]; exact below_drewN (Below.refl _ _) _)); clear hw; have hst := run_storeCells_blk (P := Try.prog) (HC1.out.blk (w.heap.size + 1, zrow .u64 2, 40) (by simp)) (vs := zrow .u64 2) rfl (zrow_one _ _)))
    rw [HR.out]
    exact post_blk2 (p := 6) (q := 7) (T := 40) rfl rfl rfl rfl (by rw [vrow_zero]; exact (HC1.out.blk (w.heap.size + 1, zrow .u64 2, 40) (by simp)).row _) Try.underlying40 rfl (by rw [vrow_len, List.length_replicate]; kernel_rfl) ⟨rfl, below_setRow HC1.out.below (by omega) _⟩
end Go.Proofs.Ytmhkechkkpppaaa
