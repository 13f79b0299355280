/- ValidPlan, by the program: what it answers, by what ValidPlots answers. No condition but that. -/
import Derived.Test.YtpkapkgfmibooaaGC
import Derived.Test.YtpkapkgfmibooaaEP
import Derived.Test.YtpkapkgfmibooaaG3
namespace Go.Proofs.Ytpkapkgfmibooaa.VP
open Go.RowKit Go.Proofs.YtpkapkgfmibooaaW.PrintWords Go.Proofs.YtpkapkgfmibooaaW.PrintLast Go.Proofs.YtpkapkgfmibooaaW.PrintMore Go.Proofs.Ytpkapkgfmibooaa
set_option linter.unusedSimpArgs false
set_option linter.unusedVariables false

/-- How many of the first n days of a plan are each day. -/
def cntTo (p : List Int) : Nat → List Int
  | 0 => List.replicate 20 0
  | n + 1 => if 0 ≤ rd p (n : Int) then (cntTo p n).set (rd p (n : Int)).toNat (rd (cntTo p n) (rd p (n : Int)) + 1) else cntTo p n
theorem cntTo_len (p : List Int) : ∀ n, (cntTo p n).length = 20
  | 0 => by simp [cntTo]
  | n + 1 => by
    simp only [cntTo]
    split
    · rw [List.length_set]; exact cntTo_len p n
    · exact cntTo_len p n
theorem rd_set (x : List Int) (k : Nat) (v : Int) (d : Nat) (hk : k < x.length) : rd (x.set k v) (d : Int) = if d = k then v else rd x (d : Int) := by
  unfold rd
  rw [Int.toNat_natCast, List.getD_eq_getElem?_getD, List.getD_eq_getElem?_getD, List.getElem?_set]
  by_cases h : k = d
  · subst h
    simp [hk]
  · rw [if_neg h, if_neg (fun e => h e.symm)]
/-- How many of the first n days are day d. -/
def many (p : List Int) (d : Int) : Nat → Int
  | 0 => 0
  | n + 1 => if rd p (n : Int) = d then many p d n + 1 else many p d n
theorem many_bd (p : List Int) (d : Int) : ∀ n, 0 ≤ many p d n ∧ many p d n ≤ (n : Int)
  | 0 => by simp [many]
  | n + 1 => by
    have := many_bd p d n
    simp only [many]
    split <;> omega
theorem cnt_many (p : List Int) (hp : ∀ i : Nat, rd p (i : Int) ≤ 19) : ∀ n (d : Nat), d < 20 → rd (cntTo p n) (d : Int) = many p (d : Int) n
  | 0, d, hd => by
    simp only [cntTo, many]
    unfold rd
    rw [Int.toNat_natCast, List.getD_eq_getElem?_getD, List.getElem?_replicate]
    split <;> simp
  | n + 1, d, hd => by
    have ih := cnt_many p hp n d hd
    simp only [cntTo, many]
    by_cases h0 : 0 ≤ rd p (n : Int)
    · rw [if_pos h0]
      obtain ⟨k, hk⟩ : ∃ k : Nat, rd p (n : Int) = (k : Int) := ⟨(rd p (n : Int)).toNat, by omega⟩
      have := hp n
      rw [hk, Int.toNat_natCast, rd_set _ _ _ _ (by rw [cntTo_len]; omega)]
      by_cases e : d = k
      · subst e
        rw [if_pos rfl, if_pos rfl, ih]
      · rw [if_neg e, if_neg (fun h => e (by omega)), ih]
    · rw [if_neg h0, if_neg (by omega), ih]
theorem cnt_bd (p : List Int) : ∀ n (d : Nat), d < 20 → 0 ≤ rd (cntTo p n) (d : Int) ∧ rd (cntTo p n) (d : Int) ≤ (n : Int)
  | 0, d, hd => by
    simp only [cntTo]
    unfold rd
    rw [Int.toNat_natCast, List.getD_eq_getElem?_getD, List.getElem?_replicate]
    split <;> simp
  | n + 1, d, hd => by
    have ih := cnt_bd p n d hd
    simp only [cntTo]
    by_cases h0 : 0 ≤ rd p (n : Int)
    · rw [if_pos h0]
      obtain ⟨k, hk⟩ : ∃ k : Nat, rd p (n : Int) = (k : Int) := ⟨(rd p (n : Int)).toNat, by omega⟩
      rw [hk, Int.toNat_natCast]
      rcases Nat.lt_or_ge k 20 with h1 | h1
      · rw [rd_set _ _ _ _ (by rw [cntTo_len]; exact h1)]
        have ihk := cnt_bd p n k h1
        split <;> omega
      · rw [List.set_eq_of_length_le (by rw [cntTo_len]; exact h1)]
        omega
    · rw [if_neg h0]
      omega
/-- The greatest of the first n + 1 numbers. -/
def mxTo (x : List Int) : Nat → Int
  | 0 => rd x 0
  | n + 1 => if mxTo x n < rd x ((n + 1 : Nat) : Int) then rd x ((n + 1 : Nat) : Int) else mxTo x n
theorem mxTo_le (x : List Int) (h : Int) : ∀ n, mxTo x n ≤ h ↔ ∀ d : Nat, d ≤ n → rd x (d : Int) ≤ h
  | 0 => ⟨fun e d hd => by obtain rfl : d = 0 := by omega
                           exact e, fun e => e 0 (by omega)⟩
  | n + 1 => by
    have ih := mxTo_le x h n
    constructor
    · intro e d hd
      simp only [mxTo] at e
      rcases Nat.lt_or_ge n d with h1 | h1
      · obtain rfl : d = n + 1 := by omega
        split at e <;> omega
      · refine ih.1 ?_ d h1
        split at e <;> omega
    · intro e
      simp only [mxTo]
      have h1 := ih.2 (fun d hd => e d (by omega))
      have h2 := e (n + 1) (by omega)
      split <;> omega
/-- The plan's days are days, and none has too many. -/
def restB (hands : Int) (n : Nat) (p : List Int) : Bool := inB hands 1 3 && (decide (p.length = n) && (allB p.length (fun i => inB (rd p (i : Int)) (-1) 19) && decide (mxTo (cntTo p p.length) 19 ≤ hands)))
theorem hands_any (h : Int) (w : World) : Calls Try.prog 52 #[.int .i64 h] w fun e w' => e = .returned (.bool (inB h 1 3)) ∧ w = w' := by
  go_enter Try.func52, Try.ntmps52
  go_wp2_with (go_at_call 53; refine (within_any _ _ _ _).mono ?_; rintro e w' ⟨rfl, rfl⟩)
  go_ret
  exact ⟨rfl, rfl⟩
set_option maxHeartbeats 2000000 in
theorem max_any (x : List Int) (hl : x.length = 20) (g : Nat) (T : TypeId) (w : World) (hB : Blk w g (vrow .i64 x) T) :
    Calls Try.prog 54 #[.slice (some ⟨g, 0, none⟩) 20 20] w fun e w' => e = .returned (.int .i64 (mxTo x 19)) ∧ w = w' := by
  have HB := Lib.hid hB
  have hc : ∀ d : Nat, d < 20 → w.cell? ⟨g, d, none⟩ = some (.int .i64 (rd x (d : Int))) := fun d hd => by
    have := HB.out.cell (vrow_get (k := .i64) (zs := x) (i := d) (by omega))
    rw [this]
    simp [nth, rd]
  have HC := Lib.hid hc
  have c0 := hc 0 (by omega)
  clear hB hc
  go_enter Try.func54, Try.ntmps54
  go_wp2
  go_loopw [3, 4] (fun u v wr => ∃ i : Nat, i < 20 ∧ v = .int .i64 ((i + 1 : Nat) : Int) ∧ u = .int .i64 (mxTo x i) ∧ w = wr) (fun _ v _ => 20 - (intOf v).toNat)
  case atStart => exact ⟨0, by omega, rfl, rfl, rfl⟩
  case round =>
    obtain ⟨i, hi, rfl, rfl, rfl⟩ := hrel
    by_cases hlt : i + 1 < 20
    · have ci := HC.out (i + 1) hlt
      have HN : Hid (mxTo x (i + 1) = if mxTo x i < rd x ((i + 1 : Nat) : Int) then rd x ((i + 1 : Nat) : Int) else mxTo x i) := Lib.hid rfl
      generalize rd x ((i + 1 : Nat) : Int) = y at *
      generalize mxTo x i = z at *
      go_wp2
      go_roundw
      case rel => exact ⟨i + 1, by omega, by go_num, by rw [HN.out], trivial⟩
      case measure => simp only [intOf]; omega
    · obtain rfl : i = 19 := by omega
      go_wp2
      go_ret
      exact ⟨rfl, rfl⟩
theorem zero20 (w : World) : (zeroValue 81).run Try.prog w = .ok (.agg (zrow .i64 20).toArray) w := (zero_of_info (by kernel_rfl : (Try.prog.info? 81).map (fun i => (i.zero, i.size)) = some (some (.agg (zrow .i64 20).toArray), 20))).1 w
theorem vrow_rep (k : IntKind) (n : Nat) : vrow k (List.replicate n 0) = zrow k n := by simp [vrow, zrow]
theorem vrow_set (k : IntKind) (x : List Int) (n : Nat) (v : Int) : (vrow k x).set n (.int k v) = vrow k (x.set n v) := by simp [vrow, List.map_set]
theorem zrow_oneE (k : IntKind) (n : Nat) : ∀ v ∈ zrow k n, v.oneCell' = true := by intro v hv; rw [List.eq_of_mem_replicate hv]; rfl
set_option maxHeartbeats 4000000 in
theorem validPlan_any (A0 : Option Addr) (n0 c0 : Nat) (hands : Int) (p : List Int) (A2 : Option Addr) (c2 : Nat) (v : Bool) (w : World) (hp : Kd.C (Kd.int .i64) w A2 p.length p)
    (hV : Calls Try.prog 51 #[.slice A0 n0 c0] w fun e w' => e = .returned (.bool v) ∧ Below w.heap.size w w') :
    Calls Try.prog 29 #[.slice A0 n0 c0, .int .i64 hands, .slice A2 p.length c2] w fun e w' => e = .returned (.bool (v && restB hands n0 p)) ∧ Below w.heap.size w w' := by
  have HP := Lib.hid hp
  have HV := Lib.hid hV
  have hpl := hp.2.1
  have hz := zero20
  clear hp hV
  cases v
  · go_enter Try.func29, Try.ntmps29
    go_wp2_with (go_at_call 51; refine HV.out.mono ?_; rintro e w1 ⟨rfl, hb⟩; have HB1 := Lib.hid hb; clear hb)
    go_ret
    exact ⟨rfl, HB1.out⟩
  cases hh : inB hands 1 3
  · have HH := Lib.hid hh
    have HR : Hid ((true && restB hands n0 p) = false) := Lib.hid (by unfold restB; rw [hh]; rfl)
    clear hh
    go_enter Try.func29, Try.ntmps29
    go_wp2_with (first
      | (go_at_call 51; refine HV.out.mono ?_; rintro e w1 ⟨rfl, hb⟩; have HB1 := Lib.hid hb; clear hb)
      | (go_at_call 52; refine (hands_any _ _).mono ?_; rintro e w' ⟨rfl, rfl⟩; rw [HH.out]))
    go_ret
    exact ⟨ret_bool HR.out.symm, HB1.out⟩
  have HH := Lib.hid hh
  by_cases hn : p.length = n0
  · subst hn
    have HR0 : Hid ((true && restB hands p.length p) = (allB p.length (fun i => inB (rd p (i : Int)) (-1) 19) && decide (mxTo (cntTo p p.length) 19 ≤ hands))) := Lib.hid (by unfold restB; rw [hh, decide_eq_true rfl]; rfl)
    clear hh
    go_enter Try.func29, Try.ntmps29
    go_wp2_with (first
      | (go_at_call 51; refine HV.out.mono ?_; rintro e w1 ⟨rfl, hb⟩; have HB1 := Lib.hid hb; clear hb)
      | (go_at_call 52; refine (hands_any _ _).mono ?_; rintro e w' ⟨rfl, rfl⟩; rw [HH.out])
      | ((with_reducible refine gate_op (.store 81 (.tmp 7) (.tmp 25)) rfl ?_); refine wpList_store_all rfl 81 (.tmp 7) (.tmp 25) rfl _ (zrow .i64 20) (by kernel_rfl) (by kernel_rfl) (Blk.new' _ (zrow .i64 20) 81) rfl (by rw [zrow_len]; kernel_rfl) (zrow_oneE _ _) ?_; refine wpl_name (fun w' => Below w1.heap.size w1 w' ∧ Blk w' w1.heap.size (zrow .i64 20) 81) ⟨below_setRow ((Below.refl _ _).alloc (Nat.le_refl _) _) (Nat.le_refl _) _, (Blk.new' _ (zrow .i64 20) 81).row _⟩ ?_; rintro w3 ⟨hb, hK⟩; have HK := Lib.hid hK; have HB3 := Lib.hid (HB1.out.trans (hb.mono HB1.out.size)); have hgs := hb.size; clear hb hK))
    have hg : w.heap.size ≤ w1.heap.size := HB1.out.size
    generalize w1.heap.size = g at *
    go_loopw [28] (fun v wr => ∃ i : Nat, i ≤ p.length ∧ v = .int .i64 i ∧ Hid (Below w.heap.size w wr) ∧ Hid (Blk wr g (vrow .i64 (cntTo p i)) 81) ∧ Hid (∀ j, j < i → inB (rd p (j : Int)) (-1) 19 = true)) (fun v _ => p.length - (intOf v).toNat)
    case atStart => exact ⟨0, by omega, rfl, HB3, by simp only [cntTo]; rw [vrow_rep]; exact HK, Lib.hid (fun j hj => by omega)⟩
    case round =>
      obtain ⟨i, hi, rfl, HB, HC, HI⟩ := hrel
      by_cases hlt : i < p.length
      · obtain ⟨ad, hA2, hx⟩ := Kd.at_int (Kd.C_below HP.out HB.out) (i : Int) (by omega) (by omega)
        subst hA2
        rw [Int.toNat_natCast] at hx
        cases hq : inB (rd p (i : Int)) (-1) 19
        · have HQ := Lib.hid hq
          have HR : Hid ((true && restB hands p.length p) = false) := Lib.hid (by rw [HR0.out, allB_no i hlt hq]; rfl)
          clear hq
          go_wp2_with (go_at_call 53; refine (within_any _ _ _ _).mono ?_; rintro e w' ⟨rfl, rfl⟩; rw [HQ.out])
          go_ret
          exact ⟨ret_bool HR.out.symm, HB.out⟩
        · have HQ := Lib.hid hq
          have hin := inB_iff.1 hq
          have HI2 : Hid (∀ j, j < i + 1 → inB (rd p (j : Int)) (-1) 19 = true) := Lib.hid (fun j hj => if e : j = i then by rw [e]; exact hq else HI.out j (by omega))
          clear hq
          by_cases h0 : 0 ≤ rd p (i : Int)
          · have HN0 : Hid (cntTo p (i + 1) = (cntTo p i).set (rd p (i : Int)).toNat (rd (cntTo p i) (rd p (i : Int)) + 1)) := Lib.hid (by simp only [cntTo]; rw [if_pos h0])
            obtain ⟨k, hk⟩ : ∃ k : Nat, rd p (i : Int) = (k : Int) := ⟨(rd p (i : Int)).toNat, by omega⟩
            have hk2 : k < 20 := by omega
            have hcb := cnt_bd p i k hk2
            have co := HC.out.cell (vrow_get (k := .i64) (zs := cntTo p i) (i := k) (by rw [cntTo_len]; exact hk2))
            have fo := HC.out.free k
            have HN1 := HN0.out
            rw [hk, Int.toNat_natCast] at HN1
            have HN := Lib.hid HN1
            clear HN0 HN1
            rw [hk] at hx hin h0
            have HQk : Hid (inB (k : Int) (-1) 19 = true) := Lib.hid (by rw [← hk]; exact HQ.out)
            have e1 : nth (cntTo p i) k = rd (cntTo p i) (k : Int) := by simp [nth, rd]
            rw [e1] at co
            clear hk e1 HQ
            generalize rd (cntTo p i) (k : Int) = z at *
            have ea : wrap64 (z + 1) = z + 1 := by unfold wrap64; omega
            go_wp2_with (go_at_call 53; refine (within_any _ _ _ _).mono ?_; rintro e w' ⟨rfl, rfl⟩; rw [HQk.out])
            go_roundw
            case rel => exact ⟨i + 1, by omega, by go_num, Lib.hid (below_setCell HB.out hg _ _), by rw [HN.out, ← vrow_set]; exact Lib.hid (HC.out.set _ _), HI2⟩
            case measure => simp only [intOf]; omega
          · have HN : Hid (cntTo p (i + 1) = cntTo p i) := Lib.hid (by simp only [cntTo]; rw [if_neg h0])
            generalize rd p (i : Int) = z at *
            go_wp2_with (go_at_call 53; refine (within_any _ _ _ _).mono ?_; rintro e w' ⟨rfl, rfl⟩; rw [HQ.out])
            go_roundw
            case rel => exact ⟨i + 1, by omega, by go_num, HB, by rw [HN.out]; exact HC, HI2⟩
            case measure => simp only [intOf]; omega
      · obtain rfl : i = p.length := by omega
        have HR : Hid ((true && restB hands p.length p) = decide (mxTo (cntTo p p.length) 19 ≤ hands)) := Lib.hid (by rw [HR0.out, allB_yes HI.out]; rfl)
        go_wp2_with (go_at_call 54; refine (max_any (cntTo p p.length) (cntTo_len _ _) g 81 _ HC.out).mono ?_; rintro e w' ⟨rfl, rfl⟩)
        go_ret
        exact ⟨ret_bool HR.out.symm, HB.out⟩
  · have HR : Hid ((true && restB hands n0 p) = false) := Lib.hid (by unfold restB; rw [decide_eq_false hn, hh]; rfl)
    have hn' : ((p.length : Int) != (n0 : Int)) = true := by simp; omega
    clear hh
    go_enter Try.func29, Try.ntmps29
    go_wp2_with (first
      | (go_at_call 51; refine HV.out.mono ?_; rintro e w1 ⟨rfl, hb⟩; have HB1 := Lib.hid hb; clear hb)
      | (go_at_call 52; refine (hands_any _ _).mono ?_; rintro e w' ⟨rfl, rfl⟩; rw [HH.out]))
    go_ret
    exact ⟨ret_bool HR.out.symm, HB1.out⟩
end Go.Proofs.Ytpkapkgfmibooaa.VP
