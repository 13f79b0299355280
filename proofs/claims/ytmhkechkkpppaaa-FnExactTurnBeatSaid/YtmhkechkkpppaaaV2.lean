/- Beats that are valid for a field, by the program and by the reference: the same. No condition but that the numbers are within their kinds. -/
import Derived.Test.YtmhkechkkpppaaaV1
import Derived.Test.YtmhkechkkpppaaaGA
namespace Go.Proofs.Ytmhkechkkpppaaa
open Go.RowKit Go.Proofs.YtmhkechkkpppaaaW.PrintWords Go.Proofs.YtmhkechkkpppaaaW.PrintLast Go.Proofs.YtmhkechkkpppaaaW.PrintMore
set_option linter.unusedSimpArgs false
set_option linter.unusedVariables false

/-- A slice of cells that reads as b. -/
abbrev BtAt (w : World) (A : Option Addr) (b : List Int) : Prop := Kd.C (Kd.int .i16) w A b.length b
/-- Each number is within its kind. -/
def BtOk (b : List Int) : Prop := ∀ i : Nat, i < b.length → -32768 ≤ rd b (i : Int) ∧ rd b (i : Int) ≤ 32767
def prevI (n i : Nat) : Nat := (i + n - 1) % n
theorem prevI_lt {n i : Nat} (h : 0 < n) : prevI n i < n := Nat.mod_lt _ h
def okI (F : Fld) (b : List Int) (i : Nat) : Bool := F.way (rd b (i : Int)) && (F.way (rd b (prevI b.length i : Nat)) && decide (sq (rd b (i : Int)) (rd b (prevI b.length i : Nat)) ≤ 1))
def okS (F : Fld) (b : List Int) (i : Nat) : Bool := F.way (rd b (i : Int)) && (F.has (rd b (prevI b.length i : Nat)) && decide (sq (rd b (prevI b.length i : Nat)) (rd b (i : Int)) ≤ 1))
theorem allB_iff {n : Nat} {p : Nat → Bool} : allB n p = true ↔ ∀ i, i < n → p i = true :=
  ⟨fun h i hi => List.all_eq_true.1 h i (List.mem_range.2 hi), allB_yes⟩
theorem beat_same (F : Fld) (b : List Int) : allB b.length (okI F b) = allB b.length (okS F b) := by
  rw [Bool.eq_iff_iff, allB_iff, allB_iff]
  constructor
  · intro h i hi
    have h1 := h i hi
    unfold okI at h1
    unfold okS
    simp only [Bool.and_eq_true] at h1 ⊢
    exact ⟨h1.1, way_has h1.2.1, by rw [sq_comm]; exact h1.2.2⟩
  · intro h i hi
    have h1 := h i hi
    have h2 := h (prevI b.length i) (prevI_lt (by omega))
    unfold okS at h1 h2
    unfold okI
    simp only [Bool.and_eq_true] at h1 h2 ⊢
    exact ⟨h1.1, h2.1, by rw [sq_comm]; exact h1.2.2⟩
def onF (F : Fld) (b : List Int) : Bool := inB (b.length : Int) 1 40 && allB b.length (okS F b)
theorem prev_ediv {n i : Nat} (h : i < n) : ((i : Int) + (n : Int) - 1) % (n : Int) = ((prevI n i : Nat) : Int) := by
  unfold prevI
  have e : (i : Int) + (n : Int) - 1 = ((i + n - 1 : Nat) : Int) := by omega
  rw [e]
  rfl
theorem prev_tmod {n i : Nat} (h : i < n) : Int.tmod ((i : Int) + (n : Int) - 1) (n : Int) = ((prevI n i : Nat) : Int) := by
  rw [Int.tmod_eq_emod_of_nonneg (by omega), prev_ediv h]

set_option maxHeartbeats 2000000 in
theorem isBeat_any (F : Fld) (hF : F.Ok) (b : List Int) (hb : BtOk b) (g : Nat) (A : Option Addr) (c : Nat) (w : World) (hf : IsF w g F) (hA : BtAt w A b) :
    Calls Try.prog 82 #[.pointer (some ⟨g, 0, none⟩), .slice A b.length c] w fun e w' => e = .returned (.bool (onF F b)) ∧ ∃ n, w' = w.drewN n := by
  have HF := Lib.hid hf
  have HO := Lib.hid hF
  have HBO := Lib.hid hb
  have HA := Lib.hid hA
  clear hf hF hb hA
  cases hl : inB (b.length : Int) 1 40
  · have HL := Lib.hid hl
    have HR : Hid (onF F b = false) := Lib.hid (by unfold onF; rw [hl]; rfl)
    clear hl
    go_enter Try.func82, Try.ntmps82
    go_wp2_with (go_at_call 55; refine (within_any _ _ _ _).mono ?_; rintro e w' ⟨rfl, rfl⟩; rw [HL.out])
    go_ret
    exact ⟨ret_bool HR.out.symm, 0, rfl⟩
  · have HL := Lib.hid hl
    obtain ⟨l0, l1⟩ := inB_iff.1 hl
    have HR0 : Hid (onF F b = allB b.length (okI F b)) := Lib.hid (by unfold onF; rw [hl, Bool.true_and, beat_same])
    clear hl
    go_enter Try.func82, Try.ntmps82
    go_wp2_with (go_at_call 55; refine (within_any _ _ _ _).mono ?_; rintro e w' ⟨rfl, rfl⟩; rw [HL.out])
    go_loopw [14] (fun v wr => ∃ i : Nat, i ≤ b.length ∧ v = .int .i64 i ∧ Hid (∀ j, j < i → okI F b j = true) ∧ ∃ n, wr = w.drewN n) (fun v _ => b.length - (intOf v).toNat)
    case atStart => exact ⟨0, by omega, rfl, Lib.hid (fun j hj => by omega), 0, rfl⟩
    case round =>
      obtain ⟨i, hi, rfl, HP, n, rfl⟩ := hrel
      by_cases hlt : i < b.length
      · have hC := Kd.C_drewN HA.out n
        obtain ⟨ad, hA, hx⟩ := Kd.at_int hC (i : Int) (by omega) (by omega)
        obtain ⟨q, hq⟩ : ∃ q, q = prevI b.length i := ⟨_, rfl⟩
        have hq1 := prev_ediv hlt
        have hq2 := prev_tmod hlt
        have hqn : q < b.length := by rw [hq]; exact prevI_lt (by omega)
        obtain ⟨ad2, hA2, hx2⟩ := Kd.at_int hC (q : Int) (by omega) (by omega)
        subst hA
        injection hA2 with hA2
        subst hA2
        rw [Int.toNat_natCast] at hx hx2
        have hz := HBO.out i hlt
        have hp := HBO.out q hqn
        have HE : Hid (okI F b i = (F.way (rd b (i : Int)) && (F.way (rd b (q : Int)) && decide (sq (rd b (i : Int)) (rd b (q : Int)) ≤ 1)))) := Lib.hid (by unfold okI; rw [← hq])
        rw [← hq] at hq1 hq2
        clear hq hC
        have hNo : ∀ (h : okI F b i = false), onF F b = false := fun h => by rw [HR0.out]; exact allB_no i hlt h
        have HNo := Lib.hid hNo
        clear hNo
        generalize hzv : rd b (i : Int) = z at *
        generalize hpv : rd b (q : Int) = p at *
        clear hzv hpv
        obtain ⟨z0, z1⟩ := hz
        obtain ⟨p0, p1⟩ := hp
        cases hwz : F.way z
        · have HZ := Lib.hid hwz
          have HR := Lib.hid (HNo.out (by rw [HE.out, hwz]; rfl))
          clear hwz
          go_wp2_with (go_at_call 97; refine (isWay_any F HO.out _ _ _ (HF.out.drewN _)).mono ?_; rintro e w' ⟨rfl, rfl⟩; rw [HZ.out])
          go_ret
          exact ⟨ret_bool HR.out.symm, _, rfl⟩
        · have HZ := Lib.hid hwz
          obtain ⟨zi, rfl, hzi⟩ := has_nat (way_has hwz)
          cases hwp : F.way p
          · have HP2 := Lib.hid hwp
            have HR := Lib.hid (HNo.out (by rw [HE.out, hwz, hwp]; rfl))
            clear hwz hwp
            go_wp2_with (go_at_call 97; refine (isWay_any F HO.out _ _ _ (HF.out.drewN _)).mono ?_; rintro e w' ⟨rfl, rfl⟩; (first | rw [HZ.out] | rw [HP2.out]))
            go_ret
            exact ⟨ret_bool HR.out.symm, _, rfl⟩
          · have HP2 := Lib.hid hwp
            obtain ⟨pi, rfl, hpi⟩ := has_nat (way_has hwp)
            cases hn : decide (sq (zi : Int) (pi : Int) ≤ 1)
            · have HN := Lib.hid hn
              have HR := Lib.hid (HNo.out (by rw [HE.out, hwz, hwp, hn]; rfl))
              clear hwz hwp hn
              go_wp2_with (first
                | (go_at_call 97; refine (isWay_any F HO.out _ _ _ (HF.out.drewN _)).mono ?_; rintro e w' ⟨rfl, rfl⟩; (first | rw [HZ.out] | rw [HP2.out]))
                | (go_at_call 98; refine (areNear_any zi pi hzi hpi _).mono ?_; rintro e w' ⟨rfl, m, rfl⟩; rw [HN.out]))
              go_ret
              exact ⟨ret_bool HR.out.symm, _, rfl⟩
            · have HN := Lib.hid hn
              have HY : Hid (okI F b i = true) := Lib.hid (by rw [HE.out, hwz, hwp, hn]; rfl)
              clear hwz hwp hn
              go_wp2_with (first
                | (go_at_call 97; refine (isWay_any F HO.out _ _ _ (HF.out.drewN _)).mono ?_; rintro e w' ⟨rfl, rfl⟩; (first | rw [HZ.out] | rw [HP2.out]))
                | (go_at_call 98; refine (areNear_any zi pi hzi hpi _).mono ?_; rintro e w' ⟨rfl, m, rfl⟩; rw [HN.out]))
              go_roundw
              case rel => exact ⟨i + 1, by omega, by go_num, Lib.hid (fun j hj => by
                rcases Nat.lt_or_ge j i with h | h
                · exact HP.out j h
                · have e : j = i := by omega
                  rw [e]; exact HY.out), _, rfl⟩
              case measure => simp only [intOf]; omega
      · have HR : Hid (onF F b = true) := Lib.hid (by rw [HR0.out]; exact allB_yes fun j hj => HP.out j (by omega))
        go_wp2
        go_ret
        exact ⟨ret_bool HR.out.symm, _, rfl⟩

set_option maxHeartbeats 2000000 in
theorem l05Ok_any (F : Fld) (hF : F.Ok) (b : List Int) (hb : BtOk b) (g : Nat) (A : Option Addr) (c : Nat) (w : World) (hf : IsF w g F) (hA : BtAt w A b) :
    Calls Try.prog 44 #[.pointer (some ⟨g, 0, none⟩), .slice A b.length c] w fun e w' => e = .returned (.bool (F.valid && onF F b)) ∧ ∃ n, w' = w.drewN n := by
  have HF := Lib.hid hf
  have HO := Lib.hid hF
  have HBO := Lib.hid hb
  have HA := Lib.hid hA
  clear hf hF hb hA
  cases hv : F.valid
  · have HV := Lib.hid hv
    clear hv
    go_enter Try.func44, Try.ntmps44
    go_wp2_with (go_at_call 78; (with_reducible refine (l01Ok_any F HO.out _ _ HF.out).mono ?_); rintro e w1 ⟨rfl, rfl⟩; rw [HV.out])
    go_ret
    exact ⟨ret_bool (by rfl), 0, rfl⟩
  have HV := Lib.hid hv
  clear hv
  cases hl : inB (b.length : Int) 1 40
  · have HL := Lib.hid hl
    have HR : Hid ((true && onF F b) = false) := Lib.hid (by unfold onF; rw [hl]; rfl)
    clear hl
    go_enter Try.func44, Try.ntmps44
    go_wp2_with (first
      | (go_at_call 78; (with_reducible refine (l01Ok_any F HO.out _ _ HF.out).mono ?_); rintro e w1 ⟨rfl, rfl⟩; rw [HV.out])
      | (go_at_call 50; refine (in_any _ _ _ _).mono ?_; rintro e w' ⟨rfl, rfl⟩; rw [HL.out]))
    go_ret
    exact ⟨ret_bool HR.out.symm, 0, rfl⟩
  · have HL := Lib.hid hl
    obtain ⟨l0, l1⟩ := inB_iff.1 hl
    have HR0 : Hid ((true && onF F b) = allB b.length (okS F b)) := Lib.hid (by unfold onF; rw [hl, Bool.true_and, Bool.true_and])
    clear hl
    go_enter Try.func44, Try.ntmps44
    go_wp2_with (first
      | (go_at_call 78; (with_reducible refine (l01Ok_any F HO.out _ _ HF.out).mono ?_); rintro e w1 ⟨rfl, rfl⟩; rw [HV.out])
      | (go_at_call 50; refine (in_any _ _ _ _).mono ?_; rintro e w' ⟨rfl, rfl⟩; rw [HL.out]))
    go_loopw [5] (fun v wr => ∃ i : Nat, i ≤ b.length ∧ v = .int .i64 i ∧ Hid (∀ j, j < i → okS F b j = true) ∧ ∃ n, wr = w.drewN n) (fun v _ => b.length - (intOf v).toNat)
    case atStart => exact ⟨0, by omega, rfl, Lib.hid (fun j hj => by omega), 0, rfl⟩
    case round =>
      obtain ⟨i, hi, rfl, HP, n, rfl⟩ := hrel
      by_cases hlt : i < b.length
      · have hC := Kd.C_drewN HA.out n
        obtain ⟨ad, hA, hx⟩ := Kd.at_int hC (i : Int) (by omega) (by omega)
        obtain ⟨q, hq⟩ : ∃ q, q = prevI b.length i := ⟨_, rfl⟩
        have hq1 := prev_ediv hlt
        have hq2 := prev_tmod hlt
        have hqn : q < b.length := by rw [hq]; exact prevI_lt (by omega)
        obtain ⟨ad2, hA2, hx2⟩ := Kd.at_int hC (q : Int) (by omega) (by omega)
        subst hA
        injection hA2 with hA2
        subst hA2
        rw [Int.toNat_natCast] at hx hx2
        have hz := HBO.out i hlt
        have hp := HBO.out q hqn
        have HE : Hid (okS F b i = (F.way (rd b (i : Int)) && (F.has (rd b (q : Int)) && decide (sq (rd b (q : Int)) (rd b (i : Int)) ≤ 1)))) := Lib.hid (by unfold okS; rw [← hq])
        rw [← hq] at hq1 hq2
        clear hq hC
        have HNo := Lib.hid (fun (h : okS F b i = false) => show (true && onF F b) = false by rw [HR0.out]; exact allB_no i hlt h)
        generalize hzv : rd b (i : Int) = z at *
        generalize hpv : rd b (q : Int) = p at *
        clear hzv hpv
        obtain ⟨z0, z1⟩ := hz
        obtain ⟨p0, p1⟩ := hp
        cases hwz : F.way z
        · have HZ := Lib.hid hwz
          have HR := Lib.hid (HNo.out (by rw [HE.out, hwz]; rfl))
          clear hwz
          go_wp2_with (go_at_call 79; refine (walk_any F HO.out _ _ _ (HF.out.drewN _)).mono ?_; rintro e w' ⟨rfl, rfl⟩; rw [HZ.out])
          go_ret
          exact ⟨ret_bool HR.out.symm, _, rfl⟩
        · have HZ := Lib.hid hwz
          obtain ⟨zi, rfl, hzi⟩ := has_nat (way_has hwz)
          cases hwp : F.has p
          · have HP2 := Lib.hid hwp
            have HR := Lib.hid (HNo.out (by rw [HE.out, hwz, hwp]; rfl))
            clear hwz hwp
            go_wp2_with (first
              | (go_at_call 79; refine (walk_any F HO.out _ _ _ (HF.out.drewN _)).mono ?_; rintro e w' ⟨rfl, rfl⟩; rw [HZ.out])
              | (go_at_call 63; refine (is_any F _ _ _ (HF.out.drewN _) HO.out).mono ?_; rintro e w' ⟨rfl, rfl⟩; rw [HP2.out]))
            go_ret
            exact ⟨ret_bool HR.out.symm, _, rfl⟩
          · have HP2 := Lib.hid hwp
            obtain ⟨pi, rfl, hpi⟩ := has_nat hwp
            by_cases hn : sq (pi : Int) (zi : Int) ≤ 1
            · have HY : Hid (okS F b i = true) := Lib.hid (by rw [HE.out, hwz, hwp, decide_eq_true hn]; rfl)
              clear hwz hwp
              go_wp2_with (first
                | (go_at_call 79; refine (walk_any F HO.out _ _ _ (HF.out.drewN _)).mono ?_; rintro e w' ⟨rfl, rfl⟩; rw [HZ.out])
                | (go_at_call 63; refine (is_any F _ _ _ (HF.out.drewN _) HO.out).mono ?_; rintro e w' ⟨rfl, rfl⟩; rw [HP2.out])
                | (go_at_call 80; refine (sSquare_any pi zi hpi hzi _).mono ?_; rintro e w' ⟨rfl, m, rfl⟩))
              go_roundw
              case rel => exact ⟨i + 1, by omega, by go_num, Lib.hid (fun j hj => by
                rcases Nat.lt_or_ge j i with h | h
                · exact HP.out j h
                · have e : j = i := by omega
                  rw [e]; exact HY.out), _, rfl⟩
              case measure => simp only [intOf]; omega
            · have HR := Lib.hid (HNo.out (by rw [HE.out, hwz, hwp, decide_eq_false hn]; rfl))
              clear hwz hwp
              go_wp2_with (first
                | (go_at_call 79; refine (walk_any F HO.out _ _ _ (HF.out.drewN _)).mono ?_; rintro e w' ⟨rfl, rfl⟩; rw [HZ.out])
                | (go_at_call 63; refine (is_any F _ _ _ (HF.out.drewN _) HO.out).mono ?_; rintro e w' ⟨rfl, rfl⟩; rw [HP2.out])
                | (go_at_call 80; refine (sSquare_any pi zi hpi hzi _).mono ?_; rintro e w' ⟨rfl, m, rfl⟩))
              go_ret
              exact ⟨ret_bool HR.out.symm, _, rfl⟩
      · have HR : Hid ((true && onF F b) = true) := Lib.hid (by rw [HR0.out]; exact allB_yes fun j hj => HP.out j (by omega))
        go_wp2
        go_ret
        exact ⟨ret_bool HR.out.symm, _, rfl⟩

theorem validBeat_any (F : Fld) (hF : F.Ok) (b : List Int) (hb : BtOk b) (A : Option Addr) (c : Nat) (w : World) (hA : BtAt w A b) :
    Calls Try.prog 47 #[.agg F.vals.toArray, .slice A b.length c] w fun e w' => e = .returned (.bool (F.valid && onF F b)) ∧ Below w.heap.size w w' := by
  have HO := Lib.hid hF
  have HBO := Lib.hid hb
  have HA := Lib.hid hA
  clear hF hb hA
  go_enter Try.func47, Try.ntmps47
  go_upto_region 1 with (fail)
  obtain ⟨W, hW⟩ : ∃ W, W = w.alloc (.cells F.vals.toArray 32) := ⟨_, rfl⟩
  have HC := Lib.hid (boxed1 w F.vals 32)
  rw [← hW] at HC ⊢
  clear hW
  cases hv : F.valid
  · have HV := Lib.hid hv
    clear hv
    go_wp2_with (first
      | (with_reducible refine wpList_load_blk rfl 32 (.tmp 2) rfl _ 0 rfl F.vals _ (HC.out.blk (w.heap.size, F.vals, 32) (by simp)) (by rw [List.drop_zero, List.take_length]) Try.underlying32 rfl (by rw [HO.out.len]; kernel_rfl) ?_)
      | (go_at_call 81; (with_reducible refine (validField_any F HO.out _).mono ?_); rintro e w1 ⟨rfl, hb⟩; rw [HV.out]; have HC1 := Lib.hid (HC.out.step hb); clear hb))
    go_ret
    exact ⟨ret_bool (by rw [HV.out]; rfl), HC1.out.below⟩
  · have HV := Lib.hid hv
    clear hv
    cases hn : onF F b
    all_goals
      have HN := Lib.hid hn
      clear hn
      go_wp2_with (first
        | (with_reducible refine wpList_load_blk rfl 32 (.tmp 2) rfl _ 0 rfl F.vals _ (HC.out.blk (w.heap.size, F.vals, 32) (by simp)) (by rw [List.drop_zero, List.take_length]) Try.underlying32 rfl (by rw [HO.out.len]; kernel_rfl) ?_)
        | (go_at_call 81; (with_reducible refine (validField_any F HO.out _).mono ?_); rintro e w1 ⟨rfl, hb⟩; rw [HV.out]; have HC1 := Lib.hid (HC.out.step hb); clear hb)
        | (go_at_call 82; refine (isBeat_any F HO.out b HBO.out _ A _ _ (HC1.out.blk (w.heap.size, F.vals, 32) (by simp)) (Kd.C_below HA.out HC1.out.below)).mono ?_; rintro e w' ⟨rfl, m, rfl⟩; rw [HN.out]))
      go_ret
      exact ⟨ret_bool (by rw [HV.out, HN.out]; rfl), below_drewN HC1.out.below _⟩

/-- The code of a field and a beat, and of whether numbers are as told. -/
noncomputable def codeB (F : Fld) (b : List Int) (q : Bool) : Int := if (F.valid && onF F b) = true then (if q = true then 0 else 2) else 1
theorem codeB_0 {F : Fld} {b : List Int} (h : (F.valid && onF F b) = true) : codeB F b true = 0 := by unfold codeB; rw [if_pos h]; rfl
theorem codeB_2 {F : Fld} {b : List Int} (h : (F.valid && onF F b) = true) : codeB F b false = 2 := by unfold codeB; rw [if_pos h]; rfl
theorem codeB_1 {F : Fld} {b : List Int} (h : (F.valid && onF F b) = false) (q : Bool) : codeB F b q = 1 := by unfold codeB; rw [if_neg (by rw [h]; decide)]

set_option maxHeartbeats 1000000 in
theorem beatCode_any (F : Fld) (hF : F.Ok) (b : List Int) (hb : BtOk b) (g : Nat) (A : Option Addr) (c : Nat) (f : FuncId) (caps : Array Value) (q : Bool) (w : World) (hf : IsF w g F) (hA : BtAt w A b)
    (eg : ∀ args w, (callFunc f args).run Try.prog w = .ok (.enter f args) w)
    (hc : (F.valid && onF F b) = true → ∀ w1, Below w.heap.size w w1 → Calls Try.prog f caps w1 fun e w' => e = .returned (.bool q) ∧ Below w1.heap.size w1 w') :
    Calls Try.prog 52 #[.pointer (some ⟨g, 0, none⟩), .slice A b.length c, .func (.func f) #[] caps] w fun e w' => e = .returned (.int .i64 (codeB F b q)) ∧ Below w.heap.size w w' := by
  have HF := Lib.hid hf
  have HO := Lib.hid hF
  have HBO := Lib.hid hb
  have HA := Lib.hid hA
  have HC := Lib.hid hc
  clear hf hF hb hA hc
  cases hv : (F.valid && onF F b)
  · have HV := Lib.hid hv
    have HR := Lib.hid (codeB_1 hv q)
    clear hv
    go_enter Try.func52, Try.ntmps52
    go_wp2_with (first
      | (with_reducible refine wpList_load_blk rfl 32 (.tmp 9) rfl _ 0 rfl F.vals _ HF.out (by rw [List.drop_zero, List.take_length]) Try.underlying32 rfl (by rw [HO.out.len]; kernel_rfl) ?_)
      | (go_at_call 47; refine (validBeat_any F HO.out b HBO.out A _ _ HA.out).mono ?_; rintro e w1 ⟨rfl, hb⟩; rw [HV.out]; have HB1 := Lib.hid hb; clear hb))
    go_ret
    exact ⟨ret_i64 HR.out.symm, HB1.out⟩
  · have HV := Lib.hid hv
    cases q
    · have HR := Lib.hid (codeB_2 hv)
      clear hv
      go_enter Try.func52, Try.ntmps52
      go_wp2_with (first
        | (with_reducible refine wpList_load_blk rfl 32 (.tmp 9) rfl _ 0 rfl F.vals _ HF.out (by rw [List.drop_zero, List.take_length]) Try.underlying32 rfl (by rw [HO.out.len]; kernel_rfl) ?_)
        | (go_at_call 47; refine (validBeat_any F HO.out b HBO.out A _ _ HA.out).mono ?_; rintro e w1 ⟨rfl, hb⟩; rw [HV.out]; have HB1 := Lib.hid hb; clear hb)
        | (go_at_fn f; refine (HC.out HV.out _ HB1.out).mono ?_; rintro e w2 ⟨rfl, hb⟩; have HB2 := Lib.hid (HB1.out.trans (hb.mono HB1.out.size)); clear hb))
      go_ret
      exact ⟨ret_i64 HR.out.symm, HB2.out⟩
    · have HR := Lib.hid (codeB_0 hv)
      clear hv
      go_enter Try.func52, Try.ntmps52
      go_wp2_with (first
        | (with_reducible refine wpList_load_blk rfl 32 (.tmp 9) rfl _ 0 rfl F.vals _ HF.out (by rw [List.drop_zero, List.take_length]) Try.underlying32 rfl (by rw [HO.out.len]; kernel_rfl) ?_)
        | (go_at_call 47; refine (validBeat_any F HO.out b HBO.out A _ _ HA.out).mono ?_; rintro e w1 ⟨rfl, hb⟩; rw [HV.out]; have HB1 := Lib.hid hb; clear hb)
        | (go_at_fn f; refine (HC.out HV.out _ HB1.out).mono ?_; rintro e w2 ⟨rfl, hb⟩; have HB2 := Lib.hid (HB1.out.trans (hb.mono HB1.out.size)); clear hb))
      go_ret
      exact ⟨ret_i64 HR.out.symm, HB2.out⟩

theorem l05Asked_any (F : Fld) (hF : F.Ok) (b : List Int) (hb : BtOk b) (g : Nat) (A : Option Addr) (c : Nat) (s : Int) (q : Bool) (w : World) (hf : IsF w g F) (hA : BtAt w A b) :
    Calls Try.prog 49 #[.pointer (some ⟨g, 0, none⟩), .slice A b.length c, .int .i64 s, .bool q] w fun e w' => e = .returned (.int .i64 (codeB F b (inB s 0 50 && q))) ∧ ∃ n, w' = w.drewN n := by
  have HF := Lib.hid hf
  have HO := Lib.hid hF
  have HBO := Lib.hid hb
  have HA := Lib.hid hA
  clear hf hF hb hA
  cases hv : (F.valid && onF F b)
  · have HV := Lib.hid hv
    have HR := Lib.hid (codeB_1 hv (inB s 0 50 && q))
    clear hv
    go_enter Try.func49, Try.ntmps49
    go_wp2_with (first
      | (go_at_call 44; refine (l05Ok_any F HO.out b HBO.out _ A _ _ HF.out HA.out).mono ?_; rintro e w' ⟨rfl, m, rfl⟩; rw [HV.out]))
    go_ret
    exact ⟨ret_i64 HR.out.symm, _, rfl⟩
  · have HV := Lib.hid hv
    cases hs : inB s 0 50
    · have HS := Lib.hid hs
      have HR : Hid (codeB F b (false && q) = 2) := Lib.hid (codeB_2 hv)
      clear hv hs
      go_enter Try.func49, Try.ntmps49
      go_wp2_with (first
        | (go_at_call 44; refine (l05Ok_any F HO.out b HBO.out _ A _ _ HF.out HA.out).mono ?_; rintro e w' ⟨rfl, m, rfl⟩; rw [HV.out])
        | (go_at_call 50; refine (in_any _ _ _ _).mono ?_; rintro e w' ⟨rfl, rfl⟩; rw [HS.out]))
      go_ret
      exact ⟨ret_i64 HR.out.symm, _, rfl⟩
    · have HS := Lib.hid hs
      cases q
      · have HR : Hid (codeB F b (true && false) = 2) := Lib.hid (codeB_2 hv)
        clear hv hs
        go_enter Try.func49, Try.ntmps49
        go_wp2_with (first
          | (go_at_call 44; refine (l05Ok_any F HO.out b HBO.out _ A _ _ HF.out HA.out).mono ?_; rintro e w' ⟨rfl, m, rfl⟩; rw [HV.out])
          | (go_at_call 50; refine (in_any _ _ _ _).mono ?_; rintro e w' ⟨rfl, rfl⟩; rw [HS.out]))
        go_ret
        exact ⟨ret_i64 HR.out.symm, _, rfl⟩
      · have HR : Hid (codeB F b (true && true) = 0) := Lib.hid (codeB_0 hv)
        clear hv hs
        go_enter Try.func49, Try.ntmps49
        go_wp2_with (first
          | (go_at_call 44; refine (l05Ok_any F HO.out b HBO.out _ A _ _ HF.out HA.out).mono ?_; rintro e w' ⟨rfl, m, rfl⟩; rw [HV.out])
          | (go_at_call 50; refine (in_any _ _ _ _).mono ?_; rintro e w' ⟨rfl, rfl⟩; rw [HS.out]))
        go_ret
        exact ⟨ret_i64 HR.out.symm, _, rfl⟩

end Go.Proofs.Ytmhkechkkpppaaa
