/- Which owners are valid, by the program and by the reference: the same. No condition but that the numbers are within their kinds. -/
import Derived.Test.YtlhiaofanejcoaaF5
namespace Go.Proofs.Ytlhiaofanejcoaa
open Go.RowKit
set_option linter.unusedSimpArgs false
set_option linter.unusedVariables false

/-- One number's owner, tested. -/
def ownB (x : Bool) (o : Int) : Bool := !((x && !inB o 0 9) || (!x && o != -1))
/-- All numbers' owners. -/
def ownAll (F : Fld) (os : List Int) : Bool := allB 100 fun i => ownB (F.has (i : Int)) (nth os i)
/-- Owners' numbers, each within its kind. -/
structure OsOk (os : List Int) : Prop where
  len : os.length = 100
  b : ∀ z ∈ os, -128 ≤ z ∧ z ≤ 127
theorem OsOk.nb {os : List Int} (h : OsOk os) {i : Nat} (hi : i < 100) : -128 ≤ nth os i ∧ nth os i ≤ 127 := by
  have hl : i < os.length := by rw [h.len]; exact hi
  unfold nth
  rw [List.getD_eq_getElem?_getD, List.getElem?_eq_getElem hl]
  exact h.b _ (List.getElem_mem hl)

set_option maxHeartbeats 1000000 in
theorem areOwners_any (F : Fld) (ho : F.Ok) (os : List Int) (hs : OsOk os) (b c : Nat) (w : World) (hf : IsF w b F) (hc : Blk w c (vrow .i8 os) 32) :
    Calls Try.prog 59 #[.pointer (some ⟨b, 0, none⟩), .pointer (some ⟨c, 0, none⟩)] w fun e w' => e = .returned (.bool (ownAll F os)) ∧ Below w.heap.size w w' := by
  have HF := Lib.hid hf
  have HO := Lib.hid ho
  have HS := Lib.hid hs
  have HC := Lib.hid hc
  clear hf ho hs hc
  go_enter Try.func59, Try.ntmps59
  go_wp2
  go_loopw [8] (fun v wr => ∃ i : Nat, i ≤ 100 ∧ v = .int .i64 i ∧ Hid (∀ j, j < i → ownB (F.has (j : Int)) (nth os j) = true) ∧ ∃ n, wr = w.drewN n) (fun v _ => 100 - (intOf v).toNat)
  case atStart => exact ⟨0, by omega, rfl, Lib.hid (fun j hj => by omega), 0, rfl⟩
  case round =>
    obtain ⟨i, hi, rfl, HP, n, rfl⟩ := hrel
    by_cases hlt : i < 100
    · have ck := HC.out.cell (vrow_get (k := .i8) (zs := os) (i := i) (by rw [HS.out.len]; exact hlt))
      have kb := HS.out.nb hlt
      obtain ⟨kb0, kb1⟩ := kb
      cases hx : F.has (i : Int) <;> cases hr : inB (nth os i) 0 9 <;> cases b2 : (nth os i != -1)
      all_goals
        have HX := Lib.hid hx
        have HR := Lib.hid hr
        cases hq : ownB (F.has (i : Int)) (nth os i)
        · first
          | (exfalso; revert hq; simp [ownB, hx, hr, b2]; done)
          | (have HD : Hid (ownAll F os = false) := Lib.hid (allB_no i hlt hq)
             clear hx hr hq
             go_wp2
             go_quiet (fail)
             go_wp2_with (first
               | (go_at_call 89; refine (has_any F _ _ _ (HF.out.drewN _) HO.out).mono ?_; rintro e w' ⟨rfl, rfl⟩; rw [HX.out])
               | (go_at_call 75; refine (within_any _ _ _ _).mono ?_; rintro e w' ⟨rfl, rfl⟩; rw [HR.out]))
             go_ret
             exact ⟨ret_bool HD.out.symm, below_drewN (Below.refl _ _) _⟩)
        · first
          | (exfalso; revert hq; simp [ownB, hx, hr, b2]; done)
          | (have HD := Lib.hid hq
             clear hx hr hq
             go_wp2
             go_quiet (fail)
             go_wp2_with (first
               | (go_at_call 89; refine (has_any F _ _ _ (HF.out.drewN _) HO.out).mono ?_; rintro e w' ⟨rfl, rfl⟩; rw [HX.out])
               | (go_at_call 75; refine (within_any _ _ _ _).mono ?_; rintro e w' ⟨rfl, rfl⟩; rw [HR.out]))
             go_roundw
             case rel => exact ⟨i + 1, by omega, by go_num, Lib.hid (fun j hj => by
                rcases Nat.lt_or_ge j i with h | h
                · exact HP.out j h
                · have e : j = i := by omega
                  rw [e]; exact HD.out), _, rfl⟩
             case measure => simp [intOf]; omega)
    · have HV : Hid (ownAll F os = true) := Lib.hid (allB_yes fun j hj => HP.out j (by omega))
      go_wp2
      go_ret
      exact ⟨ret_bool HV.out.symm, below_drewN (Below.refl _ _) _⟩

set_option maxHeartbeats 1000000 in
theorem l06Owners_any (F : Fld) (ho : F.Ok) (os : List Int) (hs : OsOk os) (b c : Nat) (w : World) (hf : IsF w b F) (hc : Blk w c (vrow .i8 os) 32) :
    Calls Try.prog 55 #[.pointer (some ⟨b, 0, none⟩), .pointer (some ⟨c, 0, none⟩)] w fun e w' => e = .returned (.bool (F.valid && ownAll F os)) ∧ w = w' := by
  have HF := Lib.hid hf
  have HO := Lib.hid ho
  have HS := Lib.hid hs
  have HC := Lib.hid hc
  clear hf ho hs hc
  go_enter Try.func55, Try.ntmps55
  cases hv : F.valid
  · have HV := Lib.hid hv
    clear hv
    go_wp2_with (go_at_call 60; refine (l01Ok_any F HO.out _ _ HF.out).mono ?_; rintro e w' ⟨rfl, rfl⟩; rw [HV.out])
    go_ret
    exact ⟨ret_bool (by simp), rfl⟩
  have HV := Lib.hid hv
  clear hv
  go_wp2_with (go_at_call 60; refine (l01Ok_any F HO.out _ _ HF.out).mono ?_; rintro e w' ⟨rfl, rfl⟩; rw [HV.out])
  go_loop [5] (fun v => ∃ i : Nat, i ≤ 100 ∧ v = .int .i64 i ∧ Hid (∀ j, j < i → ownB (F.has (j : Int)) (nth os j) = true)) (fun v => 100 - (intOf v).toNat)
  case atStart => exact ⟨0, by omega, rfl, Lib.hid (fun j hj => by omega)⟩
  case round =>
    obtain ⟨i, hi, rfl, HP⟩ := hrel
    by_cases hlt : i < 100
    · have ck := HC.out.cell (vrow_get (k := .i8) (zs := os) (i := i) (by rw [HS.out.len]; exact hlt))
      have kb := HS.out.nb hlt
      obtain ⟨kb0, kb1⟩ := kb
      cases hx : F.has (i : Int) <;> cases hr : inB (nth os i) 0 9 <;> cases b2 : (nth os i != -1)
      all_goals
        have HX := Lib.hid hx
        have HR := Lib.hid hr
        cases hq : ownB (F.has (i : Int)) (nth os i)
        · first
          | (exfalso; revert hq; simp [ownB, hx, hr, b2]; done)
          | (have HD : Hid (ownAll F os = false) := Lib.hid (allB_no i hlt hq)
             clear hx hr hq
             go_wp2_with (first
               | (go_at_call 88; refine (is_any F _ _ _ HF.out HO.out).mono ?_; rintro e w' ⟨rfl, rfl⟩; rw [HX.out])
               | (go_at_call 74; refine (in_any _ _ _ _).mono ?_; rintro e w' ⟨rfl, rfl⟩; rw [HR.out]))
             go_ret
             exact ⟨ret_bool (by simp [HD.out]), rfl⟩)
        · first
          | (exfalso; revert hq; simp [ownB, hx, hr, b2]; done)
          | (have HD := Lib.hid hq
             clear hx hr hq
             go_wp2_with (first
               | (go_at_call 88; refine (is_any F _ _ _ HF.out HO.out).mono ?_; rintro e w' ⟨rfl, rfl⟩; rw [HX.out])
               | (go_at_call 74; refine (in_any _ _ _ _).mono ?_; rintro e w' ⟨rfl, rfl⟩; rw [HR.out]))
             go_round
             case rel => exact ⟨i + 1, by omega, by go_num, Lib.hid (fun j hj => by
                rcases Nat.lt_or_ge j i with h | h
                · exact HP.out j h
                · have e : j = i := by omega
                  rw [e]; exact HD.out)⟩
             case measure => simp [intOf]; omega)
    · have HW : Hid (ownAll F os = true) := Lib.hid (allB_yes fun j hj => HP.out j (by omega))
      go_wp2
      go_ret
      exact ⟨ret_bool (by simp [HW.out]), rfl⟩

/-- Two arguments boxed. -/
theorem boxed2 (w : World) (cs ds : List Value) (T U : TypeId) : Cls w [(w.heap.size, cs, T), (w.heap.size + 1, ds, U)] ((w.alloc (.cells cs.toArray T)).alloc (.cells ds.toArray U)) := by
  refine ⟨((Below.refl _ _).alloc (Nat.le_refl _) _).alloc (by simp) _, fun x hx => ?_⟩
  simp only [List.mem_cons, List.not_mem_nil, or_false] at hx
  rcases hx with rfl | rfl
  · exact (Blk.new' w cs T).alloc _
  · exact Blk.newAt (by simp)

theorem sValidOwners_any (F : Fld) (ho : F.Ok) (os : List Int) (hs : OsOk os) (w : World) :
    Calls Try.prog 15 #[.agg F.vals.toArray, .agg (vrow .i8 os).toArray] w fun e w' => e = .returned (.bool (F.valid && ownAll F os)) ∧ Below w.heap.size w w' := by
  have HO := Lib.hid ho
  have HS := Lib.hid hs
  clear ho hs
  go_enter Try.func15, Try.ntmps15
  have HC := Lib.hid (boxed2 w F.vals (vrow .i8 os) 30 32)
  go_wp2_with (go_at_call 55; refine (l06Owners_any F HO.out os HS.out _ _ _ (HC.out.blk (w.heap.size, F.vals, 30) (by simp)) (HC.out.blk (w.heap.size + 1, vrow .i8 os, 32) (by simp))).mono ?_; rintro e w' ⟨rfl, rfl⟩)
  go_ret
  exact ⟨rfl, HC.out.below⟩

theorem iValidOwners_any (F : Fld) (ho : F.Ok) (os : List Int) (hs : OsOk os) (w : World) :
    Calls Try.prog 18 #[.agg F.vals.toArray, .agg (vrow .i8 os).toArray] w fun e w' => e = .returned (.bool (F.valid && ownAll F os)) ∧ Below w.heap.size w w' := by
  have HO := Lib.hid ho
  have HS := Lib.hid hs
  clear ho hs
  go_enter Try.func18, Try.ntmps18
  go_upto_region 1 with (fail)
  obtain ⟨W, hW⟩ : ∃ W, W = (w.alloc (.cells F.vals.toArray 30)).alloc (.cells (vrow .i8 os).toArray 32) := ⟨_, rfl⟩
  have HC := Lib.hid (boxed2 w F.vals (vrow .i8 os) 30 32)
  rw [← hW] at HC ⊢
  clear hW
  have HA := Lib.hid (HC.out.blk (w.heap.size, F.vals, 30) (by simp))
  cases hv : F.valid
  · have HV := Lib.hid hv
    clear hv
    go_wp2_with (first
      | (with_reducible refine wpList_load_blk rfl 30 (.tmp 2) rfl _ 0 rfl F.vals _ HA.out (by rw [List.drop_zero, List.take_length]) Try.underlying30 rfl (by rw [HO.out.len]; kernel_rfl) ?_)
      | (go_at_call 58; (with_reducible refine (validField_any F HO.out _).mono ?_); rintro e w' ⟨rfl, hb⟩; rw [HV.out]; have HB := Lib.hid (HC.out.step hb); clear hb))
    go_ret
    exact ⟨ret_bool (by simp [HV.out]), HB.out.below⟩
  · have HV := Lib.hid hv
    clear hv
    go_wp2_with (first
      | (with_reducible refine wpList_load_blk rfl 30 (.tmp 2) rfl _ 0 rfl F.vals _ HA.out (by rw [List.drop_zero, List.take_length]) Try.underlying30 rfl (by rw [HO.out.len]; kernel_rfl) ?_)
      | (go_at_call 58; (with_reducible refine (validField_any F HO.out _).mono ?_); rintro e w' ⟨rfl, hb⟩; rw [HV.out]; have HB := Lib.hid (HC.out.step hb); clear hb)
      | (go_at_call 59; (with_reducible refine (areOwners_any F HO.out os HS.out _ _ _ (HB.out.blk (w.heap.size, F.vals, 30) (by simp)) (HB.out.blk (w.heap.size + 1, vrow .i8 os, 32) (by simp))).mono ?_); rintro e w' ⟨rfl, hb⟩; have HB2 := Lib.hid (HB.out.step hb); clear hb))
    go_ret
    exact ⟨ret_bool (by simp [HV.out]), HB2.out.below⟩
end Go.Proofs.Ytlhiaofanejcoaa
