/- CheckBeat, by the program and by the reference: the same. No condition but that the numbers are within their kinds. -/
import Derived.Test.YtmhkechkkpppaaaB2
import Derived.Test.YtmhkechkkpppaaaI1
namespace Go.Proofs.Ytmhkechkkpppaaa
open Go.RowKit Go.Proofs.YtmhkechkkpppaaaW.PrintWords Go.Proofs.YtmhkechkkpppaaaW.PrintLast Go.Proofs.YtmhkechkkpppaaaW.PrintMore Go.Proofs.Ytmhkechkkpppaaa.PAll
set_option linter.unusedSimpArgs false
set_option linter.unusedVariables false

/-- Whether a beat sees all of the cells of a list, and the code. -/
noncomputable def cbRes (F : Fld) (b : List Int) (s : Int) (ts : List Int) : Bool × Int := if codeB F b (inB s 0 50 && allIn F ts) = 0 then (!anyI (fun i => gapB b s (rd ts (i : Int)) 1 == 0) ts.length, 0) else (false, codeB F b (inB s 0 50 && allIn F ts))
theorem allIn_at {F : Fld} {ts : List Int} (h : allIn F ts = true) (i : Nat) (hi : i < ts.length) : F.has (rd ts (i : Int)) = true := by
  cases hh : F.has (rd ts (i : Int))
  · unfold allIn at h
    rw [anyI_yes i hi (by rw [hh]; rfl)] at h
    cases h
  · rfl
theorem cbClo1_any (F : Fld) (hF : F.Ok) (s : Int) (ts : List Int) (g d1 d2 : Nat) (A2 : Option Addr) (n2 : Nat) (w : World) (hf : IsF w g F) (h1 : Blk w d1 [.int .i64 s] 2) (h2 : Blk w d2 [.slice A2 ts.length n2] 48) (hA : Kd.C (Kd.int .i64) w A2 ts.length ts) :
    Calls Try.prog 70 #[.pointer (some ⟨d1, 0, none⟩), .pointer (some ⟨g, 0, none⟩), .pointer (some ⟨d2, 0, none⟩)] w fun e w' => e = .returned (.bool (inB s 0 50 && allIn F ts)) ∧ Below w.heap.size w w' := by
  have c1 := h1.cell (i := 0) rfl
  have c2 := h2.cell (i := 0) rfl
  have HF := Lib.hid hf
  have HO := Lib.hid hF
  have HA := Lib.hid hA
  clear h1 h2 hf hF hA
  cases hs : inB s 0 50
  · have HS := Lib.hid hs
    clear hs
    go_enter Try.func70, Try.ntmps70
    go_wp2_with (go_at_call 54; refine (isSight_any _ _).mono ?_; rintro e w' ⟨rfl, rfl⟩; rw [HS.out])
    go_ret
    exact ⟨rfl, Below.refl _ _⟩
  · have HS := Lib.hid hs
    clear hs
    go_enter Try.func70, Try.ntmps70
    go_wp2_with (first
      | (go_at_call 54; refine (isSight_any _ _).mono ?_; rintro e w' ⟨rfl, rfl⟩; rw [HS.out])
      | (go_at_call 71; refine (areCells_any F HO.out ts _ _ _ _ HF.out HA.out).mono ?_; rintro e w' ⟨rfl, hb⟩; have HB := Lib.hid hb; clear hb))
    go_ret
    exact ⟨by rw [Bool.true_and]; rfl, HB.out⟩
theorem cbClo2_any (b : List Int) (s c : Int) (hI : BtIn b c 1) (d1 d2 : Nat) (A : Option Addr) (n : Nat) (w : World) (h1 : Blk w d1 [.slice A b.length n] 29) (h2 : Blk w d2 [.int .i64 s] 2) (hA : BtAt w A b) (hlc : b.length ≤ n) :
    Calls Try.prog 73 #[.int .i64 c, .pointer (some ⟨d1, 0, none⟩), .pointer (some ⟨d2, 0, none⟩)] w fun e w' => e = .returned (.bool (gapB b s c 1 == 0)) ∧ Below w.heap.size w w' := by
  have c1 := h1.cell (i := 0) rfl
  have c2 := h2.cell (i := 0) rfl
  have HI := Lib.hid hI
  have HA := Lib.hid hA
  have HLC := Lib.hid hlc
  clear h1 h2 hA hI hlc
  go_enter Try.func73, Try.ntmps73
  go_wp2_with (go_at_call 69; refine (gapC_any HI.out s A n _ HA.out HLC.out).mono ?_; rintro e w' ⟨rfl, hb⟩; have HB := Lib.hid hb; clear hb)
  go_ret
  exact ⟨rfl, HB.out⟩


set_option maxHeartbeats 2000000 in
theorem iCheckBeat_any (F : Fld) (hF : F.Ok) (b : List Int) (hb : BtOk b) (s : Int) (ts : List Int) (A : Option Addr) (n : Nat) (A2 : Option Addr) (n2 : Nat) (w : World) (hA : BtAt w A b) (hlc : b.length ≤ n) (hA2 : Kd.C (Kd.int .i64) w A2 ts.length ts) :
    Calls Try.prog 38 #[.agg F.vals.toArray, .slice A b.length n, .int .i64 s, .slice A2 ts.length n2] w fun e w' => e = .returned (.tuple #[.bool (cbRes F b s ts).1, .int .i64 (cbRes F b s ts).2]) ∧ Below w.heap.size w w' := by
  have HO := Lib.hid hF
  have HBO := Lib.hid hb
  have HA := Lib.hid hA
  have HA2 := Lib.hid hA2
  have HLC := Lib.hid hlc
  clear hF hb hA hlc hA2
  have hmf : ∀ (fn : Fn) (first cap : Array Value) (w : World), (Instr.makeFunc fn first cap).run Try.prog w = .ok (.func fn first cap) w := fun _ _ _ _ => rfl
  go_enter Try.func38, Try.ntmps38
  go_upto_region 1 with (fail)
  obtain ⟨W, hW⟩ : ∃ W, W = (((w.alloc (.cells F.vals.toArray 32)).alloc (.cells [Value.slice A b.length n].toArray 29)).alloc (.cells [Value.int .i64 s].toArray 2)).alloc (.cells [Value.slice A2 ts.length n2].toArray 48) := ⟨_, rfl⟩
  have HC := Lib.hid (boxed4 w F.vals [.slice A b.length n] [.int .i64 s] [.slice A2 ts.length n2] 32 29 2 48)
  rw [← hW] at HC ⊢
  clear hW
  have k1 : W.cell? ⟨w.heap.size + 1, 0, none⟩ = some (.slice A b.length n) := (HC.out.blk (w.heap.size + 1, [.slice A b.length n], 29) (by simp)).cell rfl
  by_cases hq : codeB F b (inB s 0 50 && allIn F ts) = 0
  · have HQ := Lib.hid hq
    have HIn : Hid (∀ i : Nat, i < ts.length → BtIn b (rd ts (i : Int)) 1) := Lib.hid (fun (i : Nat) (hi : i < ts.length) => (btIn_of (wt := 1) (codeB_zero hq).1 (allIn_at (Bool.and_eq_true_iff.1 (codeB_zero hq).2).2 i hi) (by decide)).1)
    have HR : Hid (cbRes F b s ts = (!anyI (fun i => gapB b s (rd ts (i : Int)) 1 == 0) ts.length, 0)) := Lib.hid (by unfold cbRes; rw [if_pos hq])
    clear hq
    go_wp2_with (first
      | (go_at_call 52; refine (beatCode_any F HO.out b HBO.out _ A n 70 _ (inB s 0 50 && allIn F ts) _ (HC.out.blk (w.heap.size, F.vals, 32) (by simp)) (Kd.C_below HA.out HC.out.below) (enters_of Try.func70 (by kernel_rfl) rfl) (fun _ w1 hb => cbClo1_any F HO.out s ts _ _ _ A2 n2 w1 ((HC.out.step hb).blk (w.heap.size, F.vals, 32) (by simp)) ((HC.out.step hb).blk (w.heap.size + 1 + 1, [.int .i64 s], 2) (by simp)) ((HC.out.step hb).blk (w.heap.size + 1 + 1 + 1, [.slice A2 ts.length n2], 48) (by simp)) (Kd.C_below HA2.out (HC.out.step hb).below))).mono ?_; rintro e w2 ⟨rfl, hb⟩; rw [HQ.out]; have HC1 := Lib.hid (HC.out.step hb); clear hb; have k3 : w2.cell? ⟨w.heap.size + 1 + 1 + 1, 0, none⟩ = some (.slice A2 ts.length n2) := (HC1.out.blk (w.heap.size + 1 + 1 + 1, [.slice A2 ts.length n2], 48) (by simp)).cell rfl)
      | (go_at_call 72; refine (intHas_any ts (fun i => gapB b s (rd ts (i : Int)) 1 == 0) A2 n2 73 _ _ (Kd.C_below HA2.out HC1.out.below) (enters_of Try.func73 (by kernel_rfl) rfl) (fun i w1 hi hb => by rw [app2]; exact cbClo2_any b s _ (HIn.out i hi) _ _ A n w1 ((HC1.out.step hb).blk (w.heap.size + 1, [.slice A b.length n], 29) (by simp)) ((HC1.out.step hb).blk (w.heap.size + 1 + 1, [.int .i64 s], 2) (by simp)) (Kd.C_below HA.out (HC1.out.step hb).below) HLC.out)).mono ?_; rintro e w3 ⟨rfl, hb⟩; have HC2 := Lib.hid (HC1.out.step hb); clear hb))
    go_ret2
    exact ⟨by rw [HR.out]; rfl, HC2.out.below⟩
  · have HR : Hid (cbRes F b s ts = (false, codeB F b (inB s 0 50 && allIn F ts))) := Lib.hid (by unfold cbRes; rw [if_neg hq])
    have hq' : (codeB F b (inB s 0 50 && allIn F ts) != 0) = true := by simpa using hq
    go_wp2_with (first
      | (go_at_call 52; refine (beatCode_any F HO.out b HBO.out _ A n 70 _ (inB s 0 50 && allIn F ts) _ (HC.out.blk (w.heap.size, F.vals, 32) (by simp)) (Kd.C_below HA.out HC.out.below) (enters_of Try.func70 (by kernel_rfl) rfl) (fun _ w1 hb => cbClo1_any F HO.out s ts _ _ _ A2 n2 w1 ((HC.out.step hb).blk (w.heap.size, F.vals, 32) (by simp)) ((HC.out.step hb).blk (w.heap.size + 1 + 1, [.int .i64 s], 2) (by simp)) ((HC.out.step hb).blk (w.heap.size + 1 + 1 + 1, [.slice A2 ts.length n2], 48) (by simp)) (Kd.C_below HA2.out (HC.out.step hb).below))).mono ?_; rintro e w2 ⟨rfl, hb⟩; have HC1 := Lib.hid (HC.out.step hb); clear hb; have k3 : w2.cell? ⟨w.heap.size + 1 + 1 + 1, 0, none⟩ = some (.slice A2 ts.length n2) := (HC1.out.blk (w.heap.size + 1 + 1 + 1, [.slice A2 ts.length n2], 48) (by simp)).cell rfl))
    go_ret2
    exact ⟨by rw [HR.out]; rfl, HC1.out.below⟩


def allTo (F : Fld) (ts : List Int) (i : Nat) : Bool := !anyI (fun i => !F.has (rd ts (i : Int))) i
theorem allTo_step (F : Fld) (ts : List Int) (i : Nat) : allTo F ts (i + 1) = (allTo F ts i && F.has (rd ts (i : Int))) := by
  unfold allTo
  rw [anyI_step]
  cases anyI (fun i => !F.has (rd ts (i : Int))) i <;> simp
set_option maxHeartbeats 4000000 in
theorem sCheckBeat_any (F : Fld) (hF : F.Ok) (b : List Int) (hb : BtOk b) (s : Int) (ts : List Int) (A : Option Addr) (n : Nat) (A2 : Option Addr) (n2 : Nat) (w : World) (hA : BtAt w A b) (hlc : b.length ≤ n) (hA2 : Kd.C (Kd.int .i64) w A2 ts.length ts) :
    Calls Try.prog 36 #[.agg F.vals.toArray, .slice A b.length n, .int .i64 s, .slice A2 ts.length n2] w fun e w' => e = .returned (.tuple #[.bool (cbRes F b s ts).1, .int .i64 (cbRes F b s ts).2]) ∧ Below w.heap.size w w' := by
  have HO := Lib.hid hF
  have HBO := Lib.hid hb
  have HA := Lib.hid hA
  have HA2 := Lib.hid hA2
  have hlen := hA2.2.1
  have HLC := Lib.hid hlc
  clear hF hb hA hlc hA2
  go_enter Try.func36, Try.ntmps36
  go_upto_region 1 with (fail)
  obtain ⟨W, hW⟩ : ∃ W, W = w.alloc (.cells F.vals.toArray 32) := ⟨_, rfl⟩
  have HC := Lib.hid (boxed1 w F.vals 32)
  rw [← hW] at HC ⊢
  clear hW
  go_wp2
  go_loopw [10, 11] (fun u v wr => ∃ i : Nat, i ≤ ts.length ∧ u = .bool (allTo F ts i) ∧ v = .int .i64 i ∧ ∃ m, wr = W.drewN m) (fun _ v _ => ts.length - (intOf v).toNat)
  case atStart => exact ⟨0, by omega, rfl, rfl, 0, rfl⟩
  case round =>
    obtain ⟨i, hi, rfl, rfl, m, rfl⟩ := hrel
    by_cases hlt : i < ts.length
    · have HB := Lib.hid (HC.out.step (below_drewN (Below.refl W.heap.size W) m))
      obtain ⟨ad, hA, x0⟩ := Kd.at_int (Kd.C_below HA2.out HB.out.below) (i : Int) (by omega) (by omega)
      subst hA
      rw [Int.toNat_natCast] at x0
      have HN := Lib.hid (allTo_step F ts i)
      generalize rd ts (i : Int) = x at *
      cases hy : allTo F ts i
      · have HY : Hid (allTo F ts (i + 1) = false) := Lib.hid (by rw [HN.out, hy]; rfl)
        clear hy
        go_wp2
        go_roundw
        case rel => exact ⟨i + 1, by omega, by rw [HY.out], by go_num, m, rfl⟩
        case measure => simp only [intOf]; omega
      · have HY : Hid (allTo F ts (i + 1) = F.has x) := Lib.hid (by rw [HN.out, hy]; rfl)
        clear hy
        go_wp2_with (go_at_call 63; refine (is_any F w.heap.size _ _ (HB.out.blk (w.heap.size, F.vals, 32) (by simp)) HO.out).mono ?_; rintro e w5 ⟨rfl, rfl⟩)
        go_roundw
        case rel => exact ⟨i + 1, by omega, by rw [HY.out], by go_num, m, rfl⟩
        case measure => simp only [intOf]; omega
    · obtain rfl : i = ts.length := by omega
      have HC0 := Lib.hid (HC.out.step (below_drewN (Below.refl W.heap.size W) m))
      have HE : Hid (allTo F ts ts.length = allIn F ts) := Lib.hid rfl
      by_cases hq : codeB F b (inB s 0 50 && allIn F ts) = 0
      · have HQ := Lib.hid hq
        have HIn : Hid (∀ i : Nat, i < ts.length → BtIn b (rd ts (i : Int)) 1) := Lib.hid (fun (i : Nat) (hi : i < ts.length) => (btIn_of (wt := 1) (codeB_zero hq).1 (allIn_at (Bool.and_eq_true_iff.1 (codeB_zero hq).2).2 i hi) (by decide)).1)
        have HR0 : Hid (cbRes F b s ts = (!anyI (fun i => gapB b s (rd ts (i : Int)) 1 == 0) ts.length, 0)) := Lib.hid (by unfold cbRes; rw [if_pos hq])
        clear hq
        go_wp2_with (first
          | (go_at_call 49; rw [HE.out]; refine (l05Asked_any F HO.out b HBO.out _ A n s (allIn F ts) _ (HC0.out.blk (w.heap.size, F.vals, 32) (by simp)) (Kd.C_below HA.out HC0.out.below)).mono ?_; rintro e w2 ⟨rfl, m, hw⟩; rw [HQ.out]; have HC1 := Lib.hid (HC0.out.step (show Below _ _ w2 by rw [hw]; exact below_drewN (Below.refl _ _) _)); clear hw))
        go_loopw [13] (fun v wr => ∃ i : Nat, i ≤ ts.length ∧ v = .int .i64 i ∧ Hid (∀ j, j < i → (gapB b s (rd ts (j : Int)) 1 == 0) = false) ∧ Hid (Below w2.heap.size w2 wr)) (fun v _ => ts.length - (intOf v).toNat)
        case atStart => exact ⟨0, by omega, rfl, Lib.hid (fun j hj => by omega), Lib.hid (Below.refl _ _)⟩
        case round =>
          obtain ⟨i, hi, rfl, HS, HB⟩ := hrel
          have HC2 := Lib.hid (HC1.out.step HB.out)
          by_cases hlt : i < ts.length
          · obtain ⟨ad, hA, x0⟩ := Kd.at_int (Kd.C_below HA2.out HC2.out.below) (i : Int) (by omega) (by omega)
            subst hA
            rw [Int.toNat_natCast] at x0
            have HG := Lib.hid (HIn.out i hlt)
            have HP : Hid (∀ (q : Bool), (gapB b s (rd ts (i : Int)) 1 == 0) = q → q = true → anyI (fun i => gapB b s (rd ts (i : Int)) 1 == 0) ts.length = true) := Lib.hid (fun q e1 e2 => anyI_yes i hlt (by rw [e1, e2]))
            have HP2 : Hid (∀ j, j < i + 1 → j ≠ i → (gapB b s (rd ts (j : Int)) 1 == 0) = false) := Lib.hid (fun j hj hn => HS.out j (by omega))
            have HP3 : Hid (∀ j, j = i → rd ts (j : Int) = rd ts (i : Int)) := Lib.hid (fun j e => by rw [e])
            generalize rd ts (i : Int) = x at *
            cases h0 : (gapB b s x 1 == 0)
            · have H0 := Lib.hid h0
              go_wp2_with (first
                | (go_at_call 67; refine (sgapC_any HG.out s A n _ (Kd.C_below HA.out HC2.out.below) HLC.out).mono ?_; rintro e w4 ⟨rfl, hb⟩; have HB4 := Lib.hid (HB.out.trans (hb.mono HB.out.size)); clear hb))
              go_roundw
              case rel => exact ⟨i + 1, by omega, by go_num, Lib.hid (fun j hj => if e : j = i then by rw [HP3.out j e]; exact H0.out else HP2.out j hj e), HB4⟩
              case measure => simp only [intOf]; omega
            · have HR : Hid (cbRes F b s ts = (false, 0)) := Lib.hid (by rw [HR0.out, HP.out _ h0 rfl]; rfl)
              go_wp2_with (first
                | (go_at_call 67; refine (sgapC_any HG.out s A n _ (Kd.C_below HA.out HC2.out.below) HLC.out).mono ?_; rintro e w4 ⟨rfl, hb⟩; have HB4 := Lib.hid (HC2.out.step hb); clear hb))
              go_ret2
              exact ⟨by rw [HR.out]; rfl, HB4.out.below⟩
          · obtain rfl : i = ts.length := by omega
            have HR : Hid (cbRes F b s ts = (true, 0)) := Lib.hid (by rw [HR0.out, anyI_no HS.out]; rfl)
            go_wp2
            go_ret2
            exact ⟨by rw [HR.out]; rfl, HC2.out.below⟩
      · have HR : Hid (cbRes F b s ts = (false, codeB F b (inB s 0 50 && allIn F ts))) := Lib.hid (by unfold cbRes; rw [if_neg hq])
        have hq' : (codeB F b (inB s 0 50 && allIn F ts) != 0) = true := by simpa using hq
        go_wp2_with (first
          | (go_at_call 49; rw [HE.out]; refine (l05Asked_any F HO.out b HBO.out _ A n s (allIn F ts) _ (HC0.out.blk (w.heap.size, F.vals, 32) (by simp)) (Kd.C_below HA.out HC0.out.below)).mono ?_; rintro e w2 ⟨rfl, m, hw⟩; have HC1 := Lib.hid (HC0.out.step (show Below _ _ w2 by rw [hw]; exact below_drewN (Below.refl _ _) _)); clear hw))
        go_ret2
        exact ⟨by rw [HR.out]; rfl, HC1.out.below⟩

end Go.Proofs.Ytmhkechkkpppaaa
