/- FalseClaims and FairClaims, by the program and by the reference: the same. No condition but that the numbers are within their kinds. -/
import Derived.Test.YtpkapkgfmibooaaLO
import Derived.Test.YtpkapkgfmibooaaI1
import Derived.Test.YtpkapkgfmibooaaEP
import Derived.Test.YtpkapkgfmibooaaGap
import Derived.Test.YtpkapkgfmibooaaPAllx1
import Derived.Test.YtpkapkgfmibooaaPAllx2
namespace Go.Proofs.Ytpkapkgfmibooaa
open Go.RowKit Go.Proofs.YtpkapkgfmibooaaW.PrintWords Go.Proofs.YtpkapkgfmibooaaW.PrintLast Go.Proofs.YtpkapkgfmibooaaW.PrintMore Go.Proofs.Ytpkapkgfmibooaa.PAll
set_option linter.unusedSimpArgs false
set_option linter.unusedVariables false

theorem app0E (a : Value) : #[a] ++ (#[] : Array Value) = #[a] := by simp
/-- Whether all numbers of a list are amounts of money. -/
def moneys (ts : List Int) : Bool := !anyI (fun i => !inB (rd ts (i : Int)) 0 1000000) ts.length
theorem moneyClo_any (z : Int) (w : World) : Calls Try.prog 79 #[.int .i64 z] w fun e w' => e = .returned (.bool (!inB z 0 1000000)) ∧ Below w.heap.size w w' := by
  go_enter Try.func79, Try.ntmps79
  go_wp2_with (go_at_call 53; refine (within_any _ _ _ _).mono ?_; rintro e w' ⟨rfl, rfl⟩)
  go_ret
  exact ⟨rfl, Below.refl _ _⟩
theorem areMoneys_any (ts : List Int) (A : Option Addr) (n : Nat) (w : World) (hA : Kd.C (Kd.int .i64) w A ts.length ts) :
    Calls Try.prog 70 #[.slice A ts.length n] w fun e w' => e = .returned (.bool (moneys ts)) ∧ Below w.heap.size w w' := by
  have HA := Lib.hid hA
  clear hA
  go_enter Try.func70, Try.ntmps70
  go_wp2_with (go_at_call 78; refine (intHas_any ts (fun i => !inB (rd ts (i : Int)) 0 1000000) A n 79 #[] _ HA.out (enters_of Try.func79 (by kernel_rfl) rfl) (fun i w1 hi hb => by rw [app0E]; exact moneyClo_any _ w1)).mono ?_; rintro e w2 ⟨rfl, hb⟩; have HB := Lib.hid hb; clear hb)
  go_ret
  exact ⟨rfl, HB.out⟩
theorem in_f (a b c : Int) : spec_l00In.f a b c = some (inB a b c) := by
  unfold spec_l00In.f inB
  by_cases h : b ≤ a
  · simp [h]
  · simp [h]
theorem money_f (z : Int) : spec_l06Money.f z = some (inB z 0 1000000) := by
  unfold spec_l06Money.f
  rw [in_f]
  rfl
theorem amounts_l0 (ts : List Int) (hl : ts.length ≤ 1048576) : ∀ d i, i + d = ts.length → (∀ j, j < i → inB (rd ts (j : Int)) 0 1000000 = true) → ∀ K, 1 + d ≤ K → spec_l06Amounts.l0 K ts 0 (i : Int) = some (moneys ts && decide ((ts.length : Int) ≤ 100)) := by
  intro d
  induction d with
  | zero =>
    intro i hi hj K hK
    obtain ⟨K, rfl⟩ : ∃ k, K = k + 1 := ⟨K - 1, by omega⟩
    have e : moneys ts = true := by
      unfold moneys
      rw [anyI_no (fun j hjl => by rw [hj j (by omega)]; rfl)]
      rfl
    simp only [spec_l06Amounts.l0]
    rw [if_neg (by omega), money_f, e]
    simp [inB]
  | succ d ih =>
    intro i hi hj K hK
    obtain ⟨K, rfl⟩ : ∃ k, K = k + 1 := ⟨K - 1, by omega⟩
    simp only [spec_l06Amounts.l0]
    rw [if_pos (by omega), if_pos (by omega), money_f, Option.bind_some]
    cases h : inB (rd ts (i : Int)) 0 1000000
    · have e : moneys ts = false := by
        unfold moneys
        rw [anyI_yes i (by omega) (by rw [h]; rfl)]
        rfl
      rw [if_neg (by decide), e]
      rfl
    · rw [if_pos rfl]
      have wi : wrap64 ((i : Int) + 1) = ((i + 1 : Nat) : Int) := by unfold wrap64; omega
      rw [wi]
      exact ih (i + 1) (by omega) (fun j hjl => by
        rcases Nat.lt_or_ge j i with h1 | h1
        · exact hj j h1
        · have e : j = i := by omega
          rw [e]; exact h) K (by omega)
theorem amounts_any (ts : List Int) (hl : ts.length ≤ 1048576) (A : Option Addr) (n : Nat) (w : World) (hA : Kd.C (Kd.int .i64) w A ts.length ts) (hc : ts.length ≤ n) :
    Calls Try.prog 69 #[.slice A ts.length n, .int .i64 0] w fun e w' => e = .returned (.bool (moneys ts && decide ((ts.length : Int) ≤ 100))) ∧ Below w.heap.size w w' :=
  (spec_l06Amounts.calls (ts.length + 1) A n ts 0 _ w hA hc (by unfold spec_l06Amounts.f; exact amounts_l0 ts hl ts.length 0 (by omega) (fun j hj => by omega) _ (by omega))).mono fun e w' ⟨he, hb⟩ => ⟨he, hb.below⟩

/-- The code of two fields, owners and claims. -/
noncomputable def clCode (F G : Fld) (os ts : List Int) : Int := if ownCode F G os = 0 then (if (decide (ts.length = 10) && moneys ts) = true then 0 else 2) else ownCode F G os
theorem cl_own {F G : Fld} {os ts : List Int} (h : ¬ ownCode F G os = 0) : clCode F G os ts = ownCode F G os := by unfold clCode; rw [if_neg h]
theorem cl_len {F G : Fld} {os ts : List Int} (h : ownCode F G os = 0) (hl : ¬ ts.length = 10) : clCode F G os ts = 2 := by unfold clCode; rw [if_pos h, decide_eq_false hl]; rfl
theorem cl_mon {F G : Fld} {os ts : List Int} (h : ownCode F G os = 0) (hl : ts.length = 10) (hm : moneys ts = false) : clCode F G os ts = 2 := by unfold clCode; rw [if_pos h, hm, Bool.and_false]; rfl
theorem cl_yes {F G : Fld} {os ts : List Int} (h : ownCode F G os = 0) (hl : ts.length = 10) (hm : moneys ts = true) : clCode F G os ts = 0 := by unfold clCode; rw [if_pos h, hm, decide_eq_true hl]; rfl
theorem cl_zero {F G : Fld} {os ts : List Int} (h : clCode F G os ts = 0) : ownCode F G os = 0 ∧ ts.length = 10 := by
  by_cases h0 : ownCode F G os = 0
  · refine ⟨h0, ?_⟩
    by_cases hl : ts.length = 10
    · exact hl
    · rw [cl_len h0 hl] at h
      cases h
  · rw [cl_own h0] at h
    exact absurd h h0


set_option maxHeartbeats 4000000 in
theorem claimsCode_any (F G : Fld) (hF : F.Ok) (hG : G.Ok) (os : List Int) (hs : OsOk os) (ts : List Int) (hl : ts.length ≤ 1048576) (b c d : Nat) (A : Option Addr) (n : Nat) (w : World) (hf : IsF w b F) (hg : IsF w c G) (hd : Blk w d (vrow .i8 os) 34) (hA : Kd.C (Kd.int .i64) w A ts.length ts) (hlc : ts.length ≤ n) :
    Calls Try.prog 47 #[.pointer (some ⟨b, 0, none⟩), .pointer (some ⟨c, 0, none⟩), .pointer (some ⟨d, 0, none⟩), .slice A ts.length n] w fun e w' => e = .returned (.int .i64 (clCode F G os ts)) ∧ Below w.heap.size w w' := by
  have HO := Lib.hid hF
  have HP := Lib.hid hG
  have HF := Lib.hid hf
  have HG := Lib.hid hg
  have HD := Lib.hid hd
  have HS := Lib.hid hs
  have HA := Lib.hid hA
  have HLC := Lib.hid hlc
  have HLN := Lib.hid hl
  clear hF hG hf hg hd hs hA hlc
  by_cases h0 : ownCode F G os = 0
  · have HQ := Lib.hid h0
    by_cases hln : ts.length = 10
    · cases hm : moneys ts
      · have HM : Hid (moneys ts = false) := Lib.hid (by exact hm)
        have HR := Lib.hid (cl_mon (F := F) (G := G) (os := os) h0 hln hm)
        have hln' : ((ts.length : Int) != 10) = false := by rw [hln]; rfl
        clear h0 hm hln hl
        go_enter Try.func47, Try.ntmps47
        go_wp2_with (first
          | (go_at_call 44; refine (ownersCode_any F G HO.out HP.out os HS.out b c d _ HF.out HG.out HD.out).mono ?_; rintro e w1 ⟨rfl, hb⟩; rw [HQ.out]; have HB1 := Lib.hid hb; clear hb)
          | (go_at_call 70; refine (areMoneys_any ts A n _ (Kd.C_below HA.out HB1.out)).mono ?_; rintro e w2 ⟨rfl, hb⟩; rw [HM.out]; have HB2 := Lib.hid (HB1.out.trans (hb.mono HB1.out.size)); clear hb))
        go_ret
        exact ⟨ret_i64 HR.out.symm, HB2.out⟩
      · have HM : Hid (moneys ts = true) := Lib.hid (by exact hm)
        have HR := Lib.hid (cl_yes (F := F) (G := G) (os := os) h0 hln hm)
        have hln' : ((ts.length : Int) != 10) = false := by rw [hln]; rfl
        clear h0 hm hln hl
        go_enter Try.func47, Try.ntmps47
        go_wp2_with (first
          | (go_at_call 44; refine (ownersCode_any F G HO.out HP.out os HS.out b c d _ HF.out HG.out HD.out).mono ?_; rintro e w1 ⟨rfl, hb⟩; rw [HQ.out]; have HB1 := Lib.hid hb; clear hb)
          | (go_at_call 70; refine (areMoneys_any ts A n _ (Kd.C_below HA.out HB1.out)).mono ?_; rintro e w2 ⟨rfl, hb⟩; rw [HM.out]; have HB2 := Lib.hid (HB1.out.trans (hb.mono HB1.out.size)); clear hb))
        go_ret
        exact ⟨ret_i64 HR.out.symm, HB2.out⟩
    · have HR := Lib.hid (cl_len (F := F) (G := G) (os := os) h0 hln)
      have hln' : ((ts.length : Int) != 10) = true := by simp; omega
      clear h0 hln hl
      go_enter Try.func47, Try.ntmps47
      go_wp2_with (first
        | (go_at_call 44; refine (ownersCode_any F G HO.out HP.out os HS.out b c d _ HF.out HG.out HD.out).mono ?_; rintro e w1 ⟨rfl, hb⟩; rw [HQ.out]; have HB1 := Lib.hid hb; clear hb))
      go_ret
      exact ⟨ret_i64 HR.out.symm, HB1.out⟩
  · have HR := Lib.hid (cl_own (ts := ts) h0)
    have h0' : (ownCode F G os != 0) = true := by simpa using h0
    have h0'' : (ownCode F G os == 0) = false := by simpa using h0
    go_enter Try.func47, Try.ntmps47
    go_wp2_with (first
      | (go_at_call 44; refine (ownersCode_any F G HO.out HP.out os HS.out b c d _ HF.out HG.out HD.out).mono ?_; rintro e w1 ⟨rfl, hb⟩; have HB1 := Lib.hid hb; clear hb))
    go_ret
    exact ⟨ret_i64 HR.out.symm, HB1.out⟩


set_option maxHeartbeats 4000000 in
theorem l06Claimed_any (F G : Fld) (hF : F.Ok) (hG : G.Ok) (os : List Int) (hs : OsOk os) (ts : List Int) (hl : ts.length ≤ 1048576) (b c d : Nat) (A : Option Addr) (n : Nat) (w : World) (hf : IsF w b F) (hg : IsF w c G) (hd : Blk w d (vrow .i8 os) 34) (hA : Kd.C (Kd.int .i64) w A ts.length ts) (hlc : ts.length ≤ n) :
    Calls Try.prog 46 #[.pointer (some ⟨b, 0, none⟩), .pointer (some ⟨c, 0, none⟩), .pointer (some ⟨d, 0, none⟩), .slice A ts.length n] w fun e w' => e = .returned (.int .i64 (clCode F G os ts)) ∧ Below w.heap.size w w' := by
  have HO := Lib.hid hF
  have HP := Lib.hid hG
  have HF := Lib.hid hf
  have HG := Lib.hid hg
  have HD := Lib.hid hd
  have HS := Lib.hid hs
  have HA := Lib.hid hA
  have HLC := Lib.hid hlc
  have HLN := Lib.hid hl
  clear hF hG hf hg hd hs hA hlc
  by_cases h0 : ownCode F G os = 0
  · have HQ := Lib.hid h0
    by_cases hln : ts.length = 10
    · cases hm : moneys ts
      · have HM : Hid ((moneys ts && decide ((ts.length : Int) ≤ 100)) = false) := Lib.hid (by rw [hm]; rfl)
        have HR := Lib.hid (cl_mon (F := F) (G := G) (os := os) h0 hln hm)
        have hln' : ((ts.length : Int) != 10) = false := by rw [hln]; rfl
        clear h0 hm hln hl
        go_enter Try.func46, Try.ntmps46
        go_wp2_with (first
          | (go_at_call 42; refine (l06Owned_any F G HO.out HP.out os HS.out b c d _ HF.out HG.out HD.out).mono ?_; rintro e w1 ⟨rfl, hb⟩; rw [HQ.out]; have HB1 := Lib.hid hb; clear hb)
          | (go_at_call 69; refine (amounts_any ts HLN.out A n _ (Kd.C_below HA.out HB1.out) HLC.out).mono ?_; rintro e w2 ⟨rfl, hb⟩; rw [HM.out]; have HB2 := Lib.hid (HB1.out.trans (hb.mono HB1.out.size)); clear hb))
        go_ret
        exact ⟨ret_i64 HR.out.symm, HB2.out⟩
      · have HM : Hid ((moneys ts && decide ((ts.length : Int) ≤ 100)) = true) := Lib.hid (by rw [hm, hln]; rfl)
        have HR := Lib.hid (cl_yes (F := F) (G := G) (os := os) h0 hln hm)
        have hln' : ((ts.length : Int) != 10) = false := by rw [hln]; rfl
        clear h0 hm hln hl
        go_enter Try.func46, Try.ntmps46
        go_wp2_with (first
          | (go_at_call 42; refine (l06Owned_any F G HO.out HP.out os HS.out b c d _ HF.out HG.out HD.out).mono ?_; rintro e w1 ⟨rfl, hb⟩; rw [HQ.out]; have HB1 := Lib.hid hb; clear hb)
          | (go_at_call 69; refine (amounts_any ts HLN.out A n _ (Kd.C_below HA.out HB1.out) HLC.out).mono ?_; rintro e w2 ⟨rfl, hb⟩; rw [HM.out]; have HB2 := Lib.hid (HB1.out.trans (hb.mono HB1.out.size)); clear hb))
        go_ret
        exact ⟨ret_i64 HR.out.symm, HB2.out⟩
    · have HR := Lib.hid (cl_len (F := F) (G := G) (os := os) h0 hln)
      have hln' : ((ts.length : Int) != 10) = true := by simp; omega
      clear h0 hln hl
      go_enter Try.func46, Try.ntmps46
      go_wp2_with (first
        | (go_at_call 42; refine (l06Owned_any F G HO.out HP.out os HS.out b c d _ HF.out HG.out HD.out).mono ?_; rintro e w1 ⟨rfl, hb⟩; rw [HQ.out]; have HB1 := Lib.hid hb; clear hb))
      go_ret
      exact ⟨ret_i64 HR.out.symm, HB1.out⟩
  · have HR := Lib.hid (cl_own (ts := ts) h0)
    have h0' : (ownCode F G os != 0) = true := by simpa using h0
    have h0'' : (ownCode F G os == 0) = false := by simpa using h0
    go_enter Try.func46, Try.ntmps46
    go_wp2_with (first
      | (go_at_call 42; refine (l06Owned_any F G HO.out HP.out os HS.out b c d _ HF.out HG.out HD.out).mono ?_; rintro e w1 ⟨rfl, hb⟩; have HB1 := Lib.hid hb; clear hb))
    go_ret
    exact ⟨ret_i64 HR.out.symm, HB1.out⟩

end Go.Proofs.Ytpkapkgfmibooaa
