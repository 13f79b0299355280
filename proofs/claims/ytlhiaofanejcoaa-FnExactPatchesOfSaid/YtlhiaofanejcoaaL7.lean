/- PatchesOf, by the program and by the reference: the same. No condition but that the numbers are within their kinds. -/
import Derived.Test.YtlhiaofanejcoaaL6
namespace Go.Proofs.Ytlhiaofanejcoaa
open Go.RowKit
set_option linter.unusedSimpArgs false
set_option linter.unusedVariables false

/-- Three arguments boxed, and a result laid. -/
theorem boxed4 (w : World) (cs ds es fs : List Value) (T U V X : TypeId) : Cls w [(w.heap.size, cs, T), (w.heap.size + 1, ds, U), (w.heap.size + 1 + 1, es, V), (w.heap.size + 1 + 1 + 1, fs, X)] ((((w.alloc (.cells cs.toArray T)).alloc (.cells ds.toArray U)).alloc (.cells es.toArray V)).alloc (.cells fs.toArray X)) := by
  refine ⟨((((Below.refl _ _).alloc (Nat.le_refl _) _).alloc (by simp) _).alloc (by simp; omega) _).alloc (by simp; omega) _, fun x hx => ?_⟩
  simp only [List.mem_cons, List.not_mem_nil, or_false] at hx
  rcases hx with rfl | rfl | rfl | rfl
  · exact (((Blk.new' w cs T).alloc _).alloc _).alloc _
  · exact ((Blk.newAt (by simp)).alloc _).alloc _
  · exact (Blk.newAt (by simp)).alloc _
  · exact Blk.newAt (by simp)

noncomputable def patRes (F : Fld) (os : List Int) (n : Int) : List Int × Int := if (F.valid && ownAll F os) = true then (if inB n 0 9 = true then (setTo (fun i => nth os i == n) 100, 0) else (List.replicate 2 0, 2)) else (List.replicate 2 0, 1)
theorem patRes_len (F : Fld) (os : List Int) (n : Int) : (patRes F os n).1.length = 2 := by
  unfold patRes
  split
  · split
    · exact setTo_len _ _
    · simp
  · simp
theorem ownAll_at {F : Fld} {os : List Int} (h : ownAll F os = true) {i : Nat} (hi : i < 100) : ownB (F.has (i : Int)) (nth os i) = true := by
  unfold ownAll allB at h
  exact List.all_eq_true.1 h i (List.mem_range.2 hi)
theorem pat_same {F : Fld} {os : List Int} {n : Int} (h : (F.valid && ownAll F os) = true) (hn : inB n 0 9 = true) : setTo (fun j => F.has (j : Int) && (nth os j == n)) 100 = setTo (fun j => nth os j == n) 100 := by
  rw [Bool.and_eq_true] at h
  have hn' := inB_iff.1 hn
  refine setTo_same 100 fun i hi => ?_
  have ho := ownAll_at h.2 hi
  cases hx : F.has (i : Int)
  · rw [hx] at ho
    have : nth os i = -1 := by simpa [ownB] using ho
    rw [this]
    have : ((-1 : Int) == n) = false := by simp; omega
    rw [this]
    rfl
  · rfl

theorem patClo_any (os : List Int) (hs : OsOk os) (n : Int) (c d : Nat) (i : Nat) (hi : i < 100) (w : World) (hc : Blk w c (vrow .i8 os) 32) (hd : Blk w d [.int .i64 n] 2) :
    Calls Try.prog 76 #[.int .i64 i, .pointer (some ⟨c, 0, none⟩), .pointer (some ⟨d, 0, none⟩)] w fun e w' => e = .returned (.bool (nth os i == n)) ∧ Below w.heap.size w w' := by
  have c1 := hc.cell (vrow_get (k := .i8) (zs := os) (i := i) (by rw [hs.len]; exact hi))
  have c2 := hd.cell (i := 0) rfl
  obtain ⟨b0, b1⟩ := hs.nb hi
  clear hc hd hs
  cases hb : (nth os i == n)
  all_goals
    go_enter Try.func76, Try.ntmps76
    go_wp2
    go_quiet (fail)
    go_wp2
    go_ret
    exact ⟨rfl, by repeat (first | exact Below.refl _ _ | refine below_drewN ?_ _)⟩

set_option maxHeartbeats 2000000 in
theorem iPat_any (F : Fld) (hF : F.Ok) (os : List Int) (hs : OsOk os) (n : Int) (w : World) :
    Calls Try.prog 33 #[.agg F.vals.toArray, .agg (vrow .i8 os).toArray, .int .i64 n] w fun e w' => e = .returned (.tuple #[.agg (vrow .u64 (patRes F os n).1).toArray, .int .i64 (patRes F os n).2]) ∧ Below w.heap.size w w' := by
  have HO := Lib.hid hF
  have HS := Lib.hid hs
  clear hF hs
  have hz := zeroCells
  have hmf : ∀ (fn : Fn) (first cap : Array Value) (w : World), (Instr.makeFunc fn first cap).run Try.prog w = .ok (.func fn first cap) w := fun _ _ _ _ => rfl
  go_enter Try.func33, Try.ntmps33
  go_upto_region 1 with (fail)
  obtain ⟨W, hW⟩ : ∃ W, W = (((w.alloc (.cells F.vals.toArray 30)).alloc (.cells (vrow .i8 os).toArray 32)).alloc (.cells [Value.int .i64 n].toArray 2)).alloc (.cells (zrow .u64 2).toArray 49) := ⟨_, rfl⟩
  have HC := Lib.hid (boxed4 w F.vals (vrow .i8 os) [.int .i64 n] (zrow .u64 2) 30 32 2 49)
  rw [← hW] at HC ⊢
  clear hW
  cases hv : (F.valid && ownAll F os)
  · have HR : Hid (patRes F os n = (List.replicate 2 0, 1)) := Lib.hid (by unfold patRes; rw [if_neg (by rw [hv]; decide)])
    have HV := Lib.hid hv
    clear hv
    go_wp2_with (first
      | (with_reducible refine wpList_load_blk rfl 30 (.tmp 3) rfl _ 0 rfl F.vals _ (HC.out.blk (w.heap.size, F.vals, 30) (by simp)) (by rw [List.drop_zero, List.take_length]) Try.underlying30 rfl (by rw [HO.out.len]; kernel_rfl) ?_)
      | (with_reducible refine wpList_load_blk rfl 32 (.tmp 4) rfl _ 0 rfl (vrow .i8 os) _ (HC.out.blk (w.heap.size + 1, vrow .i8 os, 32) (by simp)) (by rw [List.drop_zero, List.take_length]) Try.underlying32 rfl (by rw [vrow_len, HS.out.len]; kernel_rfl) ?_)
      | (go_at_call 18; refine (iValidOwners_any F HO.out os HS.out _).mono ?_; rintro e w1 ⟨rfl, hb⟩; rw [HV.out]; have HC1 := Lib.hid (HC.out.step hb); clear hb; have hst := run_storeCells_blk (P := Try.prog) (HC1.out.blk (w.heap.size + 1 + 1 + 1, zrow .u64 2, 49) (by simp)) (vs := zrow .u64 2) rfl (zrow_one _ _)))
    rw [HR.out]
    exact post_blk2 (p := 6) (q := 7) (T := 49) rfl rfl rfl rfl (by rw [vrow_zero]; exact (HC1.out.blk (w.heap.size + 1 + 1 + 1, zrow .u64 2, 49) (by simp)).row _) Try.underlying49 rfl (by rw [vrow_len, List.length_replicate]; kernel_rfl) ⟨rfl, below_setRow HC1.out.below (by omega) _⟩
  · have HV := Lib.hid hv
    cases hn : inB n 0 9
    · have HR : Hid (patRes F os n = (List.replicate 2 0, 2)) := Lib.hid (by unfold patRes; rw [if_pos hv, if_neg (by rw [hn]; decide)])
      have HN := Lib.hid hn
      clear hv hn
      go_wp2_with (first
        | (with_reducible refine wpList_load_blk rfl 30 (.tmp 3) rfl _ 0 rfl F.vals _ (HC.out.blk (w.heap.size, F.vals, 30) (by simp)) (by rw [List.drop_zero, List.take_length]) Try.underlying30 rfl (by rw [HO.out.len]; kernel_rfl) ?_)
        | (with_reducible refine wpList_load_blk rfl 32 (.tmp 4) rfl _ 0 rfl (vrow .i8 os) _ (HC.out.blk (w.heap.size + 1, vrow .i8 os, 32) (by simp)) (by rw [List.drop_zero, List.take_length]) Try.underlying32 rfl (by rw [vrow_len, HS.out.len]; kernel_rfl) ?_)
        | (go_at_call 18; refine (iValidOwners_any F HO.out os HS.out _).mono ?_; rintro e w1 ⟨rfl, hb⟩; rw [HV.out]; have HC1 := Lib.hid (HC.out.step hb); clear hb; have c5 := (HC1.out.blk (w.heap.size + 1 + 1, [.int .i64 n], 2) (by simp)).cell (i := 0) rfl; have hst := run_storeCells_blk (P := Try.prog) (HC1.out.blk (w.heap.size + 1 + 1 + 1, zrow .u64 2, 49) (by simp)) (vs := zrow .u64 2) rfl (zrow_one _ _))
        | (go_at_call 75; refine (within_any _ _ _ _).mono ?_; rintro e w' ⟨rfl, rfl⟩; rw [HN.out]))
      rw [HR.out]
      exact post_blk2 (p := 6) (q := 7) (T := 49) rfl rfl rfl rfl (by rw [vrow_zero]; exact (HC1.out.blk (w.heap.size + 1 + 1 + 1, zrow .u64 2, 49) (by simp)).row _) Try.underlying49 rfl (by rw [vrow_len, List.length_replicate]; kernel_rfl) ⟨rfl, below_setRow HC1.out.below (by omega) _⟩
    · have HR : Hid (patRes F os n = (setTo (fun i => nth os i == n) 100, 0)) := Lib.hid (by unfold patRes; rw [if_pos hv, if_pos hn])
      have HN := Lib.hid hn
      have HQ := Lib.hid (pat_same hv hn)
      have HL := Lib.hid (setTo_len (fun i => nth os i == n) 100)
      clear hv hn
      go_wp2_with (first
        | (with_reducible refine wpList_load_blk rfl 30 (.tmp 3) rfl _ 0 rfl F.vals _ (HC.out.blk (w.heap.size, F.vals, 30) (by simp)) (by rw [List.drop_zero, List.take_length]) Try.underlying30 rfl (by rw [HO.out.len]; kernel_rfl) ?_)
        | (with_reducible refine wpList_load_blk rfl 32 (.tmp 4) rfl _ 0 rfl (vrow .i8 os) _ (HC.out.blk (w.heap.size + 1, vrow .i8 os, 32) (by simp)) (by rw [List.drop_zero, List.take_length]) Try.underlying32 rfl (by rw [vrow_len, HS.out.len]; kernel_rfl) ?_)
        | (go_at_call 18; refine (iValidOwners_any F HO.out os HS.out _).mono ?_; rintro e w1 ⟨rfl, hb⟩; rw [HV.out]; have HC1 := Lib.hid (HC.out.step hb); clear hb; have c5 := (HC1.out.blk (w.heap.size + 1 + 1, [.int .i64 n], 2) (by simp)).cell (i := 0) rfl)
        | (go_at_call 75; refine (within_any _ _ _ _).mono ?_; rintro e w' ⟨rfl, rfl⟩; rw [HN.out])
        | (go_at_call 71; clear c5; refine (those_any F HO.out (fun i => nth os i == n) _ 76 _ _ (HC1.out.blk (w.heap.size, F.vals, 30) (by simp)) (enters_of Try.func76 (by kernel_rfl) rfl) (fun i w2 hi hb2 => by rw [app2]; exact patClo_any os HS.out n (w.heap.size + 1) (w.heap.size + 1 + 1) i hi w2 ((HC1.out.step hb2).blk (w.heap.size + 1, vrow .i8 os, 32) (by simp)) ((HC1.out.step hb2).blk (w.heap.size + 1 + 1, [.int .i64 n], 2) (by simp)))).mono ?_; rintro e w2 ⟨rfl, hb⟩; rw [HQ.out]; have HC2 := Lib.hid (HC1.out.step hb); clear hb)
        | (with_reducible refine wpList_store_all rfl 49 (.tmp 6) (.tmp 20) rfl _ (vrow .u64 (setTo (fun i => nth os i == n) 100)) rfl rfl (HC2.out.blk (w.heap.size + 1 + 1 + 1, zrow .u64 2, 49) (by simp)) (by rw [vrow_len, zrow_len, HL.out]) (by rw [vrow_len, HL.out]; kernel_rfl) (vrow_one _ _) ?_))
      rw [HR.out]
      exact post_blk2 (p := 6) (q := 7) (T := 49) rfl rfl rfl rfl ((HC2.out.blk (w.heap.size + 1 + 1 + 1, zrow .u64 2, 49) (by simp)).row _) Try.underlying49 rfl (by rw [vrow_len, HL.out]; kernel_rfl) ⟨rfl, below_setRow HC2.out.below (by omega) _⟩

set_option maxHeartbeats 2000000 in
theorem sPat_any (F : Fld) (hF : F.Ok) (os : List Int) (hs : OsOk os) (n : Int) (w : World) :
    Calls Try.prog 32 #[.agg F.vals.toArray, .agg (vrow .i8 os).toArray, .int .i64 n] w fun e w' => e = .returned (.tuple #[.agg (vrow .u64 (patRes F os n).1).toArray, .int .i64 (patRes F os n).2]) ∧ Below w.heap.size w w' := by
  have HO := Lib.hid hF
  have HS := Lib.hid hs
  clear hF hs
  have hz := zeroCells
  go_enter Try.func32, Try.ntmps32
  go_upto_region 1 with (fail)
  obtain ⟨W, hW⟩ : ∃ W, W = ((w.alloc (.cells F.vals.toArray 30)).alloc (.cells (vrow .i8 os).toArray 32)).alloc (.cells (zrow .u64 2).toArray 49) := ⟨_, rfl⟩
  have HC := Lib.hid (boxed3 w F.vals (vrow .i8 os) (zrow .u64 2) 30 32 49)
  rw [← hW] at HC ⊢
  clear hW
  cases hv : (F.valid && ownAll F os)
  · have HR : Hid (patRes F os n = (List.replicate 2 0, 1)) := Lib.hid (by unfold patRes; rw [if_neg (by rw [hv]; decide)])
    have HV := Lib.hid hv
    have hst := run_storeCells_blk (P := Try.prog) (HC.out.blk (w.heap.size + 1 + 1, zrow .u64 2, 49) (by simp)) (vs := zrow .u64 2) rfl (zrow_one _ _)
    clear hv
    go_wp2_with (first
      | (go_at_call 55; refine (l06Owners_any F HO.out os HS.out _ _ _ (HC.out.blk (w.heap.size, F.vals, 30) (by simp)) (HC.out.blk (w.heap.size + 1, vrow .i8 os, 32) (by simp))).mono ?_; rintro e w1 ⟨rfl, rfl⟩; rw [HV.out]))
    rw [HR.out]
    exact post_blk2 (p := 6) (q := 7) (T := 49) rfl rfl rfl rfl (by rw [vrow_zero]; exact (HC.out.blk (w.heap.size + 1 + 1, zrow .u64 2, 49) (by simp)).row _) Try.underlying49 rfl (by rw [vrow_len, List.length_replicate]; kernel_rfl) ⟨rfl, below_setRow HC.out.below (by omega) _⟩
  · have HV := Lib.hid hv
    cases hn : inB n 0 9
    · have HR : Hid (patRes F os n = (List.replicate 2 0, 2)) := Lib.hid (by unfold patRes; rw [if_pos hv, if_neg (by rw [hn]; decide)])
      have HN := Lib.hid hn
      have hst := run_storeCells_blk (P := Try.prog) (HC.out.blk (w.heap.size + 1 + 1, zrow .u64 2, 49) (by simp)) (vs := zrow .u64 2) rfl (zrow_one _ _)
      clear hv hn
      go_wp2_with (first
        | (go_at_call 55; refine (l06Owners_any F HO.out os HS.out _ _ _ (HC.out.blk (w.heap.size, F.vals, 30) (by simp)) (HC.out.blk (w.heap.size + 1, vrow .i8 os, 32) (by simp))).mono ?_; rintro e w1 ⟨rfl, rfl⟩; rw [HV.out])
        | (go_at_call 74; refine (in_any _ _ _ _).mono ?_; rintro e w' ⟨rfl, rfl⟩; rw [HN.out]))
      rw [HR.out]
      exact post_blk2 (p := 6) (q := 7) (T := 49) rfl rfl rfl rfl (by rw [vrow_zero]; exact (HC.out.blk (w.heap.size + 1 + 1, zrow .u64 2, 49) (by simp)).row _) Try.underlying49 rfl (by rw [vrow_len, List.length_replicate]; kernel_rfl) ⟨rfl, below_setRow HC.out.below (by omega) _⟩
    · have HR : Hid (patRes F os n = (setTo (fun i => nth os i == n) 100, 0)) := Lib.hid (by unfold patRes; rw [if_pos hv, if_pos hn])
      have HN := Lib.hid hn
      have HL := Lib.hid (setTo_len (fun i => nth os i == n) 100)
      clear hv hn
      go_upto_region 6 with (first
        | (go_at_call 55; refine (l06Owners_any F HO.out os HS.out _ _ _ (HC.out.blk (w.heap.size, F.vals, 30) (by simp)) (HC.out.blk (w.heap.size + 1, vrow .i8 os, 32) (by simp))).mono ?_; rintro e w1 ⟨rfl, rfl⟩; rw [HV.out])
        | (go_at_call 74; refine (in_any _ _ _ _).mono ?_; rintro e w' ⟨rfl, rfl⟩; rw [HN.out])
        | (with_reducible refine wpList_store_all rfl 49 (.tmp 8) (.tmp 17) rfl _ (zrow .u64 2) rfl rfl (Blk.new' W (zrow .u64 2) 49) rfl (by rw [zrow_len]; kernel_rfl) (zrow_one _ _) ?_))
      obtain ⟨W2, hW⟩ : ∃ W2, W2 = (W.alloc (.cells (zrow .u64 2).toArray 49)).setRow W.heap.size (zrow .u64 2).toArray := ⟨_, rfl⟩
      have HB0 : Hid (Blk W2 W.heap.size (zrow .u64 2) 49) := Lib.hid (by rw [hW]; exact (Blk.new' W (zrow .u64 2) 49).row _)
      have HC2 : Hid (Cls w [(w.heap.size, F.vals, 30), (w.heap.size + 1, vrow .i8 os, 32), (w.heap.size + 1 + 1, zrow .u64 2, 49)] W2) := Lib.hid (HC.out.step (by rw [hW]; exact below_setRow ((Below.refl _ _).alloc (Nat.le_refl _) _) (Nat.le_refl _) _))
      have HSz := Lib.hid HC.out.below.size
      have HA1 := Lib.hid (HC.out.lt (w.heap.size + 1, vrow .i8 os, 32) (by simp))
      have HA2 := Lib.hid (HC.out.lt (w.heap.size + 1 + 1, zrow .u64 2, 49) (by simp))
      rw [← hW]
      clear hW
      go_wp2
      go_loopw [9] (fun v wr => ∃ i : Nat, i ≤ 100 ∧ v = .int .i64 i ∧ Hid (Kept W.heap.size W2 wr) ∧ Hid (Blk wr W.heap.size (vrow .u64 (setTo (fun i => nth os i == n) i)) 49)) (fun v _ => 100 - (intOf v).toNat)
      case atStart => exact ⟨0, by omega, rfl, Lib.hid (Kept.refl _ _), HB0⟩
      case round =>
        obtain ⟨i, hi, rfl, HK, HB⟩ := hrel
        by_cases hlt : i < 100
        · have c1 := (HK.out.blk (HC2.out.blk (w.heap.size + 1, vrow .i8 os, 32) (by simp)) (Nat.ne_of_lt HA1.out)).cell (vrow_get (k := .i8) (zs := os) (i := i) (by rw [HS.out.len]; exact hlt))
          obtain ⟨b0, b1⟩ := HS.out.nb hlt
          simp only at c1
          cases h2 : (nth os i == n)
          · have HN2 : Hid (setTo (fun i => nth os i == n) (i + 1) = setTo (fun i => nth os i == n) i) := Lib.hid (by simp only [setTo]; rw [if_neg (by rw [h2]; decide)])
            go_wp2
            go_roundw
            case rel => exact ⟨i + 1, by omega, by go_num, HK, by rw [HN2.out]; exact HB⟩
            case measure => simp only [intOf]; omega
          · have HN2 : Hid (setTo (fun i => nth os i == n) (i + 1) = putN (setTo (fun i => nth os i == n) i) i) := Lib.hid (by simp only [setTo]; rw [if_pos h2])
            go_wp2_with (first
              | (go_at_call 70; refine (sPut_any _ (setTo_len _ i) _ i hlt _ HB.out).mono ?_; rintro e w6 ⟨rfl, m, hw6⟩; have HK6 : Hid (Kept W.heap.size W2 w6) := Lib.hid (by rw [hw6]; exact (HK.out.set _ _).drewN _); have HB6 : Hid (Blk w6 W.heap.size (vrow .u64 (setTo (fun i => nth os i == n) (i + 1))) 49) := Lib.hid (by rw [HN2.out, ← putN_row, hw6]; exact (HB.out.set _ _).drewN _); clear hw6))
            go_roundw
            case rel => exact ⟨i + 1, by omega, by go_num, HK6, HB6⟩
            case measure => simp only [intOf]; omega
        · obtain rfl : i = 100 := by omega
          have HR2 : Hid (Blk wr (w.heap.size + 1 + 1) (zrow .u64 2) 49) := Lib.hid (HK.out.blk (HC2.out.blk (w.heap.size + 1 + 1, zrow .u64 2, 49) (by simp)) (Nat.ne_of_lt HA2.out))
          have HBW : Hid (Below w.heap.size w wr) := Lib.hid (HK.out.below HC2.out.below HSz.out HC2.out.below.size)
          go_wp2_with (first
            | (with_reducible refine wpList_load_blk rfl 49 (.tmp 8) rfl _ 0 rfl (vrow .u64 (setTo (fun i => nth os i == n) 100)) _ HB.out (by rw [List.drop_zero, List.take_length]) Try.underlying49 rfl (by rw [vrow_len, HL.out]; kernel_rfl) ?_)
            | (with_reducible refine wpList_store_all rfl 49 (.tmp 6) (.tmp 30) rfl _ (vrow .u64 (setTo (fun i => nth os i == n) 100)) rfl rfl HR2.out (by rw [vrow_len, zrow_len, HL.out]) (by rw [vrow_len, HL.out]; kernel_rfl) (vrow_one _ _) ?_))
          rw [HR.out]
          exact post_blk2 (p := 6) (q := 7) (T := 49) rfl rfl rfl rfl (HR2.out.row _) Try.underlying49 rfl (by rw [vrow_len, HL.out]; kernel_rfl) ⟨rfl, below_setRow HBW.out (by omega) _⟩

end Go.Proofs.Ytlhiaofanejcoaa
