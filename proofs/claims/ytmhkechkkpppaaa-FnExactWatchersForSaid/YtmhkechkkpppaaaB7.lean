/- WatchersFor, by the program and by the reference: the same. No condition but that the numbers are within their kinds. -/
import Derived.Test.YtmhkechkkpppaaaB6
namespace Go.Proofs.Ytmhkechkkpppaaa
open Go.RowKit Go.Proofs.YtmhkechkkpppaaaW.PrintWords Go.Proofs.YtmhkechkkpppaaaW.PrintLast Go.Proofs.YtmhkechkkpppaaaW.PrintMore Go.Proofs.Ytmhkechkkpppaaa.PAll
set_option linter.unusedSimpArgs false
set_option linter.unusedVariables false

/-- Whether j + 1 watchers do. -/
def wok (F : Fld) (b : List Int) (s : Int) (U : List Int) (most : Int) (j : Nat) : Bool := (worI F b s (j + 1) U).2.2 && decide ((worI F b s (j + 1) U).2.1 ≤ most)
def wfFind (F : Fld) (b : List Int) (s : Int) (U : List Int) (most : Int) : Int × Int := match (List.range 8).find? (wok F b s U most) with
  | some j => (((j + 1 : Nat) : Int), 0)
  | none => (0, 6)
def wfB (s most : Int) : Bool := inB s 0 50 && inB most 1 40
noncomputable def wfRes (F : Fld) (b : List Int) (s : Int) (U : List Int) (most : Int) : Int × Int := if codeB F b (wfB s most) = 0 then wfFind F b s U most else (0, codeB F b (wfB s most))
theorem wf_yes {F : Fld} {b : List Int} {s most : Int} {U : List Int} {i : Nat} (hi : i < 8) (h : wok F b s U most i = true) (hf : ∀ j, j < i → wok F b s U most j = false) : wfFind F b s U most = (((i + 1 : Nat) : Int), 0) := by
  have e : (List.range 8).find? (wok F b s U most) = some i := List.find?_range_eq_some.2 ⟨h, List.mem_range.2 hi, fun j hj => by rw [hf j hj]; rfl⟩
  unfold wfFind
  rw [e]
theorem wf_no {F : Fld} {b : List Int} {s most : Int} {U : List Int} (hf : ∀ j, j < 8 → wok F b s U most j = false) : wfFind F b s U most = (0, 6) := by
  have e : (List.range 8).find? (wok F b s U most) = none := List.find?_eq_none.2 fun j hj => by rw [hf j (List.mem_range.1 hj)]; decide
  unfold wfFind
  rw [e]
theorem wfClo_any (s most : Int) (d1 d2 : Nat) (w : World) (h1 : Blk w d1 [.int .i64 s] 2) (h2 : Blk w d2 [.int .i64 most] 2) : Calls Try.prog 77 #[.pointer (some ⟨d1, 0, none⟩), .pointer (some ⟨d2, 0, none⟩)] w fun e w' => e = .returned (.bool (wfB s most)) ∧ Below w.heap.size w w' := by
  have c1 := h1.cell (i := 0) rfl
  have c2 := h2.cell (i := 0) rfl
  clear h1 h2
  unfold wfB
  cases hs : inB s 0 50
  · have HS := Lib.hid hs
    clear hs
    go_enter Try.func77, Try.ntmps77
    go_wp2_with (go_at_call 54; refine (isSight_any _ _).mono ?_; rintro e w' ⟨rfl, rfl⟩; rw [HS.out])
    go_ret
    exact ⟨rfl, Below.refl _ _⟩
  · have HS := Lib.hid hs
    clear hs
    cases hm : inB most 1 40
    all_goals
      have HM := Lib.hid hm
      clear hm
      go_enter Try.func77, Try.ntmps77
      go_wp2_with (first
        | (go_at_call 54; refine (isSight_any _ _).mono ?_; rintro e w' ⟨rfl, rfl⟩; rw [HS.out])
        | (go_at_call 55; refine (within_any _ _ _ _).mono ?_; rintro e w' ⟨rfl, rfl⟩; rw [HM.out]))
      go_ret
      exact ⟨rfl, Below.refl _ _⟩


set_option maxHeartbeats 2000000 in
theorem iWatchersFor_any (F : Fld) (hF : F.Ok) (b : List Int) (hb : BtOk b) (s : Int) (U : List Int) (hU : ClOk U) (most : Int) (A : Option Addr) (n : Nat) (w : World) (hA : BtAt w A b) (hlc : b.length ≤ n) :
    Calls Try.prog 43 #[.agg F.vals.toArray, .slice A b.length n, .int .i64 s, .agg (vrow .u64 U).toArray, .int .i64 most] w fun e w' => e = .returned (.tuple #[.int .i64 (wfRes F b s U most).1, .int .i64 (wfRes F b s U most).2]) ∧ Below w.heap.size w w' := by
  have HO := Lib.hid hF
  have HBO := Lib.hid hb
  have HA := Lib.hid hA
  have HUL := Lib.hid hU.len
  have HU := Lib.hid hU
  have HLC := Lib.hid hlc
  clear hF hb hA hlc hU
  have hmf : ∀ (fn : Fn) (first cap : Array Value) (w : World), (Instr.makeFunc fn first cap).run Try.prog w = .ok (.func fn first cap) w := fun _ _ _ _ => rfl
  go_enter Try.func43, Try.ntmps43
  go_upto_region 1 with (fail)
  obtain ⟨W, hW⟩ : ∃ W, W = (((w.alloc (.cells F.vals.toArray 32)).alloc (.cells [Value.int .i64 s].toArray 2)).alloc (.cells (vrow .u64 U).toArray 40)).alloc (.cells [Value.int .i64 most].toArray 2) := ⟨_, rfl⟩
  have HC := Lib.hid (boxed4 w F.vals [.int .i64 s] (vrow .u64 U) [.int .i64 most] 32 2 40 2)
  rw [← hW] at HC ⊢
  clear hW
  by_cases hq : codeB F b (wfB s most) = 0
  · have HQ := Lib.hid hq
    have HWA := Lib.hid (fun (i : Nat) (hi : i < 8) (w1 : World) (hb : Below w.heap.size w w1) (hf : IsF w1 w.heap.size F) => iWorst_any F HO.out b (codeB_zero hq).1 s (i + 1) (by omega) (by omega) U HU.out w.heap.size A n w1 hf (Kd.C_below HA.out hb) HLC.out)
    clear hq
    go_wp2_with (first
      | (go_at_call 52; refine (beatCode_any F HO.out b HBO.out _ A n 77 _ (wfB s most) _ (HC.out.blk (w.heap.size, F.vals, 32) (by simp)) (Kd.C_below HA.out HC.out.below) (enters_of Try.func77 (by kernel_rfl) rfl) (fun _ w1 hb => wfClo_any s most _ _ w1 ((HC.out.step hb).blk (w.heap.size + 1, [.int .i64 s], 2) (by simp)) ((HC.out.step hb).blk (w.heap.size + 1 + 1 + 1, [.int .i64 most], 2) (by simp)))).mono ?_; rintro e w2 ⟨rfl, hb⟩; rw [HQ.out]; have HC1 := Lib.hid (HC.out.step hb); clear hb))
    go_loopw [13] (fun v wr => ∃ i : Nat, i ≤ 8 ∧ v = .int .i64 ((i + 1 : Nat) : Int) ∧ Hid (∀ j, j < i → wok F b s U most j = false) ∧ Hid (Below w2.heap.size w2 wr)) (fun v _ => 9 - (intOf v).toNat)
    case atStart => exact ⟨0, by omega, rfl, Lib.hid (fun j hj => by omega), Lib.hid (Below.refl _ _)⟩
    case round =>
      obtain ⟨i, hi, rfl, HS, HB⟩ := hrel
      have HC2 := Lib.hid (HC1.out.step HB.out)
      by_cases hlt : i < 8
      · have HWO := Lib.hid (HWA.out i hlt wr)
        have HK0 : Hid (wok F b s U most i = ((worI F b s (i + 1) U).2.2 && decide ((worI F b s (i + 1) U).2.1 ≤ most))) := Lib.hid rfl
        generalize worI F b s (i + 1) U = V at *
        cases hk : V.2.2
        · have HVK := Lib.hid hk
          have HK : Hid (wok F b s U most i = false) := Lib.hid (by rw [HK0.out, hk]; rfl)
          clear hk
          have k1 : wr.cell? ⟨w.heap.size + 1, 0, none⟩ = some (.int .i64 s) := (HC2.out.blk (w.heap.size + 1, [.int .i64 s], 2) (by simp)).cell rfl
          go_wp2_with (first
          | (with_reducible refine wpList_load_blk rfl 40 (.tmp 8) rfl _ 0 rfl (vrow .u64 U) _ (HC2.out.blk (w.heap.size + 1 + 1, vrow .u64 U, 40) (by simp)) (by rw [List.drop_zero, List.take_length]) Try.underlying40 rfl (by rw [vrow_len, HUL.out]; kernel_rfl) ?_)
          | (go_at_call 76; refine (HWO.out HC2.out.below (HC2.out.blk (w.heap.size, F.vals, 32) (by simp))).mono ?_; rintro e w3 ⟨rfl, hb⟩; have HC3 := Lib.hid (HC2.out.step hb); have HB3 := Lib.hid hb; clear hb; rw [HVK.out]))
          go_roundw
          case rel => exact ⟨i + 1, by omega, by go_num, Lib.hid (fun j hj => if e : j = i then e ▸ HK.out else HS.out j (by omega)), Lib.hid (HB.out.trans (HB3.out.mono HB.out.size))⟩
          case measure => simp only [intOf]; omega
        · have HVK := Lib.hid hk
          by_cases hm : V.2.1 ≤ most
          · have HR : Hid (wfRes F b s U most = (((i + 1 : Nat) : Int), 0)) := Lib.hid (by unfold wfRes; rw [if_pos HQ.out]; exact wf_yes hlt (by rw [HK0.out, hk, decide_eq_true hm]; rfl) HS.out)
            clear hk
            have k1 : wr.cell? ⟨w.heap.size + 1, 0, none⟩ = some (.int .i64 s) := (HC2.out.blk (w.heap.size + 1, [.int .i64 s], 2) (by simp)).cell rfl
            go_wp2_with (first
            | (with_reducible refine wpList_load_blk rfl 40 (.tmp 8) rfl _ 0 rfl (vrow .u64 U) _ (HC2.out.blk (w.heap.size + 1 + 1, vrow .u64 U, 40) (by simp)) (by rw [List.drop_zero, List.take_length]) Try.underlying40 rfl (by rw [vrow_len, HUL.out]; kernel_rfl) ?_)
            | (go_at_call 76; refine (HWO.out HC2.out.below (HC2.out.blk (w.heap.size, F.vals, 32) (by simp))).mono ?_; rintro e w3 ⟨rfl, hb⟩; have HC3 := Lib.hid (HC2.out.step hb); have HB3 := Lib.hid hb; clear hb; rw [HVK.out]; have k3 : w3.cell? ⟨w.heap.size + 1 + 1 + 1, 0, none⟩ = some (.int .i64 most) := (HC3.out.blk (w.heap.size + 1 + 1 + 1, [.int .i64 most], 2) (by simp)).cell rfl))
            go_ret2
            exact ⟨by rw [HR.out]; rfl, HC3.out.below⟩
          · have HK : Hid (wok F b s U most i = false) := Lib.hid (by rw [HK0.out, hk, decide_eq_false hm]; rfl)
            clear hk
            have k1 : wr.cell? ⟨w.heap.size + 1, 0, none⟩ = some (.int .i64 s) := (HC2.out.blk (w.heap.size + 1, [.int .i64 s], 2) (by simp)).cell rfl
            go_wp2_with (first
            | (with_reducible refine wpList_load_blk rfl 40 (.tmp 8) rfl _ 0 rfl (vrow .u64 U) _ (HC2.out.blk (w.heap.size + 1 + 1, vrow .u64 U, 40) (by simp)) (by rw [List.drop_zero, List.take_length]) Try.underlying40 rfl (by rw [vrow_len, HUL.out]; kernel_rfl) ?_)
            | (go_at_call 76; refine (HWO.out HC2.out.below (HC2.out.blk (w.heap.size, F.vals, 32) (by simp))).mono ?_; rintro e w3 ⟨rfl, hb⟩; have HC3 := Lib.hid (HC2.out.step hb); have HB3 := Lib.hid hb; clear hb; rw [HVK.out]; have k3 : w3.cell? ⟨w.heap.size + 1 + 1 + 1, 0, none⟩ = some (.int .i64 most) := (HC3.out.blk (w.heap.size + 1 + 1 + 1, [.int .i64 most], 2) (by simp)).cell rfl))
            go_roundw
            case rel => exact ⟨i + 1, by omega, by go_num, Lib.hid (fun j hj => if e : j = i then e ▸ HK.out else HS.out j (by omega)), Lib.hid (HB.out.trans (HB3.out.mono HB.out.size))⟩
            case measure => simp only [intOf]; omega
      · obtain rfl : i = 8 := by omega
        have HR : Hid (wfRes F b s U most = (0, 6)) := Lib.hid (by unfold wfRes; rw [if_pos HQ.out]; exact wf_no HS.out)
        go_wp2
        go_ret2
        exact ⟨by rw [HR.out]; rfl, HC2.out.below⟩

  · have HR : Hid (wfRes F b s U most = (0, codeB F b (wfB s most))) := Lib.hid (by unfold wfRes; rw [if_neg hq])
    have hq' : (codeB F b (wfB s most) != 0) = true := by simpa using hq
    go_wp2_with (first
      | (go_at_call 52; refine (beatCode_any F HO.out b HBO.out _ A n 77 _ (wfB s most) _ (HC.out.blk (w.heap.size, F.vals, 32) (by simp)) (Kd.C_below HA.out HC.out.below) (enters_of Try.func77 (by kernel_rfl) rfl) (fun _ w1 hb => wfClo_any s most _ _ w1 ((HC.out.step hb).blk (w.heap.size + 1, [.int .i64 s], 2) (by simp)) ((HC.out.step hb).blk (w.heap.size + 1 + 1 + 1, [.int .i64 most], 2) (by simp)))).mono ?_; rintro e w2 ⟨rfl, hb⟩; have HC1 := Lib.hid (HC.out.step hb); clear hb))
    go_ret2
    exact ⟨by rw [HR.out]; rfl, HC1.out.below⟩


set_option maxHeartbeats 2000000 in
theorem sWatchersFor_any (F : Fld) (hF : F.Ok) (b : List Int) (hb : BtOk b) (s : Int) (U : List Int) (hU : ClOk U) (most : Int) (A : Option Addr) (n : Nat) (w : World) (hA : BtAt w A b) (hlc : b.length ≤ n) :
    Calls Try.prog 42 #[.agg F.vals.toArray, .slice A b.length n, .int .i64 s, .agg (vrow .u64 U).toArray, .int .i64 most] w fun e w' => e = .returned (.tuple #[.int .i64 (wfRes F b s U most).1, .int .i64 (wfRes F b s U most).2]) ∧ Below w.heap.size w w' := by
  have HO := Lib.hid hF
  have HBO := Lib.hid hb
  have HA := Lib.hid hA
  have HU := Lib.hid hU
  have HLC := Lib.hid hlc
  have HWB : Hid ((inB s 0 50 && inB most 1 40) = wfB s most) := Lib.hid rfl
  clear hF hb hA hlc hU
  go_enter Try.func42, Try.ntmps42
  go_upto_region 1 with (fail)
  obtain ⟨W, hW⟩ : ∃ W, W = (w.alloc (.cells F.vals.toArray 32)).alloc (.cells (vrow .u64 U).toArray 40) := ⟨_, rfl⟩
  have HC := Lib.hid (boxed2 w F.vals (vrow .u64 U) 32 40)
  rw [← hW] at HC ⊢
  clear hW
  by_cases hq : codeB F b (wfB s most) = 0
  · have HQ := Lib.hid hq
    have HWA := Lib.hid (fun (i : Nat) (hi : i < 8) (w1 : World) (hb : Below w.heap.size w w1) (hf : IsF w1 w.heap.size F) (hd : Blk w1 (w.heap.size + 1) (vrow .u64 U) 40) => sWorst_any F HO.out b (codeB_zero hq).1 s (i + 1) (by omega) (by omega) U HU.out w.heap.size (w.heap.size + 1) A n w1 hf hd (Kd.C_below HA.out hb) HLC.out)
    have HOK := Lib.hid (fun (i : Nat) (hi : i < 8) => wor_ok (codeB_zero hq).1 s (i + 1) (by omega) (by omega) U)
    clear hq
    go_wp2_with (first
      | (go_at_call 50; refine (in_any _ _ _ _).mono ?_; rintro e w' ⟨rfl, rfl⟩)
      | (go_at_call 49; refine (l05Asked_any F HO.out b HBO.out _ A n s (inB most 1 40) _ (HC.out.blk (w.heap.size, F.vals, 32) (by simp)) (Kd.C_below HA.out HC.out.below)).mono ?_; rintro e w2 ⟨rfl, m, hw⟩; rw [HWB.out, HQ.out]; have HC1 := Lib.hid (HC.out.step (show Below W.heap.size W w2 by rw [hw]; exact below_drewN (Below.refl _ _) _)); clear hw))
    go_loopw [13] (fun v wr => ∃ i : Nat, i ≤ 8 ∧ v = .int .i64 ((i + 1 : Nat) : Int) ∧ Hid (∀ j, j < i → wok F b s U most j = false) ∧ Hid (Below w2.heap.size w2 wr)) (fun v _ => 9 - (intOf v).toNat)
    case atStart => exact ⟨0, by omega, rfl, Lib.hid (fun j hj => by omega), Lib.hid (Below.refl _ _)⟩
    case round =>
      obtain ⟨i, hi, rfl, HS, HB⟩ := hrel
      have HC2 := Lib.hid (HC1.out.step HB.out)
      by_cases hlt : i < 8
      · have HWO := Lib.hid (HWA.out i hlt wr)
        have HK0 : Hid (wok F b s U most i = ((worI F b s (i + 1) U).2.2 && decide ((worI F b s (i + 1) U).2.1 ≤ most))) := Lib.hid rfl
        obtain ⟨hw1, hw2⟩ := HOK.out i hlt
        have HW1 := Lib.hid hw1
        have HW2 := Lib.hid hw2
        clear hw1 hw2
        generalize worI F b s (i + 1) U = V at *
        generalize worS F b s (i + 1) U = X at *
        cases hk : X.2.2
        · have HVK := Lib.hid hk
          have HK : Hid (wok F b s U most i = false) := Lib.hid (by rw [HK0.out, ← HW1.out, hk]; rfl)
          clear hk
          skip
          go_wp2_with (first
          | (go_at_call 74; refine (HWO.out HC2.out.below (HC2.out.blk (w.heap.size, F.vals, 32) (by simp)) (HC2.out.blk (w.heap.size + 1, vrow .u64 U, 40) (by simp))).mono ?_; rintro e w3 ⟨rfl, hb⟩; have HC3 := Lib.hid (HC2.out.step hb); have HB3 := Lib.hid hb; clear hb; rw [HVK.out]))
          go_roundw
          case rel => exact ⟨i + 1, by omega, by go_num, Lib.hid (fun j hj => if e : j = i then e ▸ HK.out else HS.out j (by omega)), Lib.hid (HB.out.trans (HB3.out.mono HB.out.size))⟩
          case measure => simp only [intOf]; omega
        · have HVK := Lib.hid hk
          by_cases hm : X.2.1 ≤ most
          · have HR : Hid (wfRes F b s U most = (((i + 1 : Nat) : Int), 0)) := Lib.hid (by unfold wfRes; rw [if_pos HQ.out]; exact wf_yes hlt (by rw [HK0.out, ← HW2.out (by rw [← HW1.out, hk]), hk, decide_eq_true hm]; rfl) HS.out)
            clear hk
            skip
            go_wp2_with (first
            | (go_at_call 74; refine (HWO.out HC2.out.below (HC2.out.blk (w.heap.size, F.vals, 32) (by simp)) (HC2.out.blk (w.heap.size + 1, vrow .u64 U, 40) (by simp))).mono ?_; rintro e w3 ⟨rfl, hb⟩; have HC3 := Lib.hid (HC2.out.step hb); have HB3 := Lib.hid hb; clear hb; rw [HVK.out]))
            go_ret2
            exact ⟨by rw [HR.out]; rfl, HC3.out.below⟩
          · have HK : Hid (wok F b s U most i = false) := Lib.hid (by rw [HK0.out, ← HW2.out (by rw [← HW1.out, hk]), hk, decide_eq_false hm]; rfl)
            clear hk
            skip
            go_wp2_with (first
            | (go_at_call 74; refine (HWO.out HC2.out.below (HC2.out.blk (w.heap.size, F.vals, 32) (by simp)) (HC2.out.blk (w.heap.size + 1, vrow .u64 U, 40) (by simp))).mono ?_; rintro e w3 ⟨rfl, hb⟩; have HC3 := Lib.hid (HC2.out.step hb); have HB3 := Lib.hid hb; clear hb; rw [HVK.out]))
            go_roundw
            case rel => exact ⟨i + 1, by omega, by go_num, Lib.hid (fun j hj => if e : j = i then e ▸ HK.out else HS.out j (by omega)), Lib.hid (HB.out.trans (HB3.out.mono HB.out.size))⟩
            case measure => simp only [intOf]; omega
      · obtain rfl : i = 8 := by omega
        have HR : Hid (wfRes F b s U most = (0, 6)) := Lib.hid (by unfold wfRes; rw [if_pos HQ.out]; exact wf_no HS.out)
        go_wp2
        go_ret2
        exact ⟨by rw [HR.out]; rfl, HC2.out.below⟩

  · have HR : Hid (wfRes F b s U most = (0, codeB F b (wfB s most))) := Lib.hid (by unfold wfRes; rw [if_neg hq])
    have hq' : (codeB F b (wfB s most) != 0) = true := by simpa using hq
    go_wp2_with (first
      | (go_at_call 50; refine (in_any _ _ _ _).mono ?_; rintro e w' ⟨rfl, rfl⟩)
      | (go_at_call 49; refine (l05Asked_any F HO.out b HBO.out _ A n s (inB most 1 40) _ (HC.out.blk (w.heap.size, F.vals, 32) (by simp)) (Kd.C_below HA.out HC.out.below)).mono ?_; rintro e w2 ⟨rfl, m, hw⟩; rw [HWB.out]; have HC1 := Lib.hid (HC.out.step (show Below W.heap.size W w2 by rw [hw]; exact below_drewN (Below.refl _ _) _)); clear hw))
    go_ret2
    exact ⟨by rw [HR.out]; rfl, HC1.out.below⟩

end Go.Proofs.Ytmhkechkkpppaaa
