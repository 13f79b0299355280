/- The worst cell, by the program and by the reference: the same. No condition but that the numbers are within their kinds. -/
import Derived.Test.YtlhiaofanejcoaaL4
import Derived.Test.YtlhiaofanejcoaaC1
import Derived.OwnWalk
namespace Go.Proofs.Ytlhiaofanejcoaa
open Go.RowKit Go.Proofs.YtlhiaofanejcoaaW.PrintWords Go.Proofs.YtlhiaofanejcoaaW.PrintLast Go.Proofs.YtlhiaofanejcoaaW.PrintMore
set_option linter.unusedSimpArgs false
set_option linter.unusedVariables false

/-- The first of the greatest among the first i numbers. -/
def worstTo (L : List Int) : Nat → Nat
  | 0 => 0
  | i + 1 => if nth L (worstTo L i) < nth L i then i else worstTo L i
theorem worstTo_lt (L : List Int) : ∀ i, i ≤ 100 → worstTo L i < 100
  | 0, _ => by simp [worstTo]
  | i + 1, h => by
    have := worstTo_lt L i (by omega)
    simp only [worstTo]
    split <;> omega
theorem worstTo_one (L : List Int) : worstTo L 1 = 0 := by simp [worstTo]

theorem rd_cell (xs : List Int) (i : Nat) : rd xs (i : Int) = xs.getD i 0 := by simp [rd]

/-- The first of the greatest among the first j of these cells. -/
def worstIn (L : List Int) (cs : List Int) : Nat → Nat
  | 0 => 0
  | j + 1 => if nth L (worstIn L cs j) < nth L (rd cs (j : Int)).toNat then (rd cs (j : Int)).toNat else worstIn L cs j
theorem worstIn_app (L cs ds : List Int) : ∀ j, j ≤ cs.length → worstIn L (cs ++ ds) j = worstIn L cs j
  | 0, _ => rfl
  | j + 1, h => by
    have e : rd (cs ++ ds) (j : Int) = rd cs (j : Int) := by
      rw [rd_cell, rd_cell, List.getD_eq_getElem?_getD, List.getD_eq_getElem?_getD, List.getElem?_append_left (by omega)]
    simp only [worstIn]
    rw [worstIn_app L cs ds j (by omega), e]
theorem worst_same (L : List Int) (F : Fld) (h : ∀ i : Nat, i < 100 → F.has (i : Int) = false → nth L i ≤ 0) (h0 : ∀ i : Nat, i < 100 → 0 ≤ nth L i) : ∀ i, i ≤ 100 → worstIn L (F.cellsTo i) (F.cellsTo i).length = worstTo L i
  | 0, _ => rfl
  | i + 1, hi => by
    have ih := worst_same L F h h0 i (by omega)
    have hw := h0 _ (worstTo_lt L i (by omega))
    cases hx : F.has (i : Int)
    · have e : F.cellsTo (i + 1) = F.cellsTo i := by simp [Fld.cellsTo, hx]
      have := h i (by omega) hx
      rw [e, ih]
      simp only [worstTo]
      rw [if_neg (by omega)]
    · have e : F.cellsTo (i + 1) = F.cellsTo i ++ [(i : Int)] := by simp [Fld.cellsTo, hx]
      have er : rd (F.cellsTo i ++ [(i : Int)]) ((F.cellsTo i).length : Int) = (i : Int) := by
        rw [rd_cell, List.getD_eq_getElem?_getD, List.getElem?_append_right (Nat.le_refl _)]
        simp
      rw [e, List.length_append]
      show worstIn L (F.cellsTo i ++ [(i : Int)]) ((F.cellsTo i).length + 1) = _
      simp only [worstIn, worstTo]
      rw [worstIn_app L _ _ _ (Nat.le_refl _), ih, er, Int.toNat_natCast]
theorem cellsTo_rd (F : Fld) : ∀ n i, i < (F.cellsTo n).length → 0 ≤ rd (F.cellsTo n) (i : Int) ∧ rd (F.cellsTo n) (i : Int) < n
  | 0, i, h => by simp [Fld.cellsTo] at h
  | n + 1, i, h => by
    simp only [Fld.cellsTo] at h ⊢
    split at h
    case isTrue hx =>
      rw [if_pos hx]
      by_cases hl : i < (F.cellsTo n).length
      · have := cellsTo_rd F n i hl
        rw [rd_cell] at this ⊢
        rw [List.getD_eq_getElem?_getD] at this ⊢
        rw [List.getElem?_append_left hl]
        omega
      · have : i = (F.cellsTo n).length := by simp at h; omega
        subst this
        rw [rd_cell, List.getD_eq_getElem?_getD, List.getElem?_append_right (Nat.le_refl _)]
        simp
        omega
    case isFalse hx =>
      rw [if_neg hx]
      have := cellsTo_rd F n i h
      omega
theorem worstIn_lt (L : List Int) (F : Fld) : ∀ j, j ≤ (F.cellsTo 100).length → worstIn L (F.cellsTo 100) j < 100
  | 0, _ => by simp [worstIn]
  | j + 1, h => by
    have := worstIn_lt L F j (by omega)
    have := cellsTo_rd F 100 j (by omega)
    simp only [worstIn]
    split <;> omega

noncomputable def worstRes (F G : Fld) : Int × Int × Int := if pairCode F G = 0 then (worstTo (lossList F G) 100, nth (lossList F G) (worstTo (lossList F G) 100), 0) else (0, 0, pairCode F G)

theorem worstRes_bad {F G : Fld} (h : ¬ pairCode F G = 0) : worstRes F G = (0, 0, pairCode F G) := by unfold worstRes; rw [if_neg h]
theorem worstRes_ok {F G : Fld} (h : pairCode F G = 0) : worstRes F G = (((worstTo (lossList F G) 100 : Nat) : Int), nth (lossList F G) (worstTo (lossList F G) 100), 0) := by unfold worstRes; rw [if_pos h]
theorem vrow_at {k : IntKind} {xs : List Int} (hl : xs.length = 100) {i : Nat} (h : i < 100) : (vrow k xs)[i]? = some (.int k (nth xs i)) := by
  simp [vrow, nth, List.getD, List.getElem?_eq_getElem (show i < xs.length by omega)]
theorem wrap64_loss (F G : Fld) {i : Nat} (h : i < 100) : wrap64 (nth (lossList F G) i) = nth (lossList F G) i := by
  rw [lossList_nth F G h]
  simp only [wrap64, IntKind.wrap, IntKind.bits, IntKind.signed]
  omega
theorem worstRes_ok' {F G : Fld} (h : pairCode F G = 0) : worstRes F G = (((worstTo (lossList F G) 100 : Nat) : Int), wrap64 (nth (lossList F G) (worstTo (lossList F G) 100)), 0) := by
  rw [worstRes_ok h, wrap64_loss F G (worstTo_lt _ 100 (by omega))]

theorem i16_small {x : Int} (h0 : 0 ≤ x) (h1 : x ≤ 1000) : IntKind.i16.wrap x = x := by
  simp [IntKind.wrap, IntKind.bits, IntKind.signed]
  omega
theorem loss_facts {F G : Fld} (h : pairCode F G = 0) {i : Nat} (hi : i < 100) : 0 ≤ nth (lossList F G) i ∧ (F.has (i : Int) = false → nth (lossList F G) i ≤ 0) := by
  unfold pairCode at h
  split at h
  case isTrue hv =>
    split at h
    case isTrue h2 =>
      rw [Bool.and_eq_true] at hv h2
      have hF := (Fld.valid_iff.1 hv.1).c i hi
      have hG := (Fld.valid_iff.1 hv.2).c i hi
      have hl : G.seed i ≤ F.seed i := Decidable.byContradiction fun hn => by
        have e : lessB F G = false := allB_no i hi (decide_eq_false hn)
        rw [e] at h2
        exact absurd h2.2 (by decide)
      rw [lossList_nth F G hi]
      have a1 := hF.s0
      have a2 := hF.s1
      have a3 := hG.s0
      have a4 := hG.s1
      rw [i16_small (by omega) (by omega)]
      refine ⟨by omega, fun hx => ?_⟩
      have := hF.hs hx
      omega
    case isFalse => simp at h
  case isFalse => simp at h
theorem loss_same {F G : Fld} (h : pairCode F G = 0) : worstIn (lossList F G) (F.cellsTo 100) (F.cellsTo 100).length = worstTo (lossList F G) 100 :=
  worst_same _ F (fun _ hi hx => (loss_facts h hi).2 hx) (fun _ hi => (loss_facts h hi).1) 100 (Nat.le_refl _)

set_option maxHeartbeats 1000000 in
theorem sWorst_any (F G : Fld) (hF : F.Ok) (hG : G.Ok) (w : World) :
    Calls Try.prog 30 #[.agg F.vals.toArray, .agg G.vals.toArray] w fun e w' => e = .returned (.tuple #[.int .i64 (worstRes F G).1, .int .i64 (worstRes F G).2.1, .int .i64 (worstRes F G).2.2]) ∧ Below w.heap.size w w' := by
  have HO := Lib.hid hF
  have HP := Lib.hid hG
  clear hF hG
  have hz : ∀ w, (zeroValue 25).run Try.prog w = .ok (.agg (zrow .i16 100).toArray) w := fun w => (zero_of_info (by kernel_rfl : (Try.prog.info? 25).map (fun i => (i.zero, i.size)) = some (some (.agg (zrow .i16 100).toArray), 100))).1 w
  go_enter Try.func30, Try.ntmps30
  have HC := Lib.hid (boxed2 w F.vals G.vals 30 30)
  by_cases hp : pairCode F G = 0
  · have HQ := Lib.hid hp
    clear hp
    go_upto_region 5 with (first
      | (go_at_call 64; refine (l06Pair_any F G HO.out HP.out _ _ _ (HC.out.blk (w.heap.size, F.vals, 30) (by simp)) (HC.out.blk (w.heap.size + 1, G.vals, 30) (by simp))).mono ?_; rintro e w1 ⟨rfl, hb⟩; rw [HQ.out]; have HC1 := Lib.hid (HC.out.step hb); clear hb)
      | (go_at_call 68; refine (l06Loss_any F G HO.out HP.out _ _ _ (HC1.out.blk (w.heap.size, F.vals, 30) (by simp)) (HC1.out.blk (w.heap.size + 1, G.vals, 30) (by simp))).mono ?_; rintro e w2 ⟨rfl, hb⟩; have HC2 := Lib.hid (HC1.out.step hb); clear hb)
      | (with_reducible refine wpList_store_all rfl 25 (.tmp 8) (.tmp 15) rfl _ (vrow .i16 (lossList F G)) rfl rfl (Blk.new' w2 (zrow .i16 100) 25) (by rw [vrow_len, zrow_len, lossList_len]) (by rw [vrow_len, lossList_len]; kernel_rfl) (vrow_one _ _) ?_))
    obtain ⟨W, hW⟩ : ∃ W, W = (w2.alloc (.cells (zrow .i16 100).toArray 25)).setRow w2.heap.size (vrow .i16 (lossList F G)).toArray := ⟨_, rfl⟩
    have HL0 : Blk W w2.heap.size (vrow .i16 (lossList F G)) 25 := by rw [hW]; exact (Blk.new' w2 (zrow .i16 100) 25).row _
    have HB0 : Below w2.heap.size w2 W := by rw [hW]; exact below_setRow ((Below.refl _ _).alloc (Nat.le_refl _) _) (Nat.le_refl _) _
    have HB := Lib.hid (HC2.out.step HB0).below
    have HL := Lib.hid HL0
    have HR := Lib.hid (worstRes_ok' HQ.out)
    rw [← hW]
    clear hW HB0 HL0
    go_wp2
    go_loopw [9, 10] (fun u v wr => ∃ i : Nat, 1 ≤ i ∧ i ≤ 100 ∧ v = .int .i64 i ∧ u = .int .i64 (worstTo (lossList F G) i : Nat) ∧ ∃ n, wr = W.drewN n) (fun _ v _ => 100 - (intOf v).toNat)
    case atStart => exact ⟨1, by omega, by omega, rfl, by rw [worstTo_one]; rfl, 0, rfl⟩
    case round =>
      obtain ⟨i, h1, hi, rfl, rfl, n, rfl⟩ := hrel
      by_cases hlt : i < 100
      · have hat := worstTo_lt (lossList F G) i hi
        have c1 := HL.out.cell (show (vrow .i16 (lossList F G))[i]? = _ from vrow_at (lossList_len F G) hlt)
        have c2 := HL.out.cell (show (vrow .i16 (lossList F G))[worstTo (lossList F G) i]? = _ from vrow_at (lossList_len F G) hat)
        by_cases hg : nth (lossList F G) (worstTo (lossList F G) i) < nth (lossList F G) i
        · have HN : Hid (worstTo (lossList F G) (i + 1) = i) := Lib.hid (by simp only [worstTo]; rw [if_pos hg])
          go_wp2
          go_region
          all_goals
            go_wp2
            go_roundw
            case rel => exact ⟨i + 1, by omega, by omega, by go_num, by rw [HN.out], _, rfl⟩
            case measure => simp [intOf]; omega
        · have HN : Hid (worstTo (lossList F G) (i + 1) = worstTo (lossList F G) i) := Lib.hid (by simp only [worstTo]; rw [if_neg hg])
          go_wp2
          go_region
          all_goals
            go_wp2
            go_roundw
            case rel => exact ⟨i + 1, by omega, by omega, by go_num, by rw [HN.out], _, rfl⟩
            case measure => simp [intOf]; omega
      · obtain rfl : i = 100 := by omega
        have hat := worstTo_lt (lossList F G) 100 hi
        have c2 := HL.out.cell (show (vrow .i16 (lossList F G))[worstTo (lossList F G) 100]? = _ from vrow_at (lossList_len F G) hat)
        go_wp2
        go_region
        all_goals
          go_wp2
          go_ret3
          rw [HR.out]
          exact ⟨rfl, below_drewN HB.out _⟩
  · have HR := Lib.hid (worstRes_bad hp)
    have hp' : (pairCode F G != 0) = true := by simpa using hp
    go_wp2_with (first
      | (go_at_call 64; refine (l06Pair_any F G HO.out HP.out _ _ _ (HC.out.blk (w.heap.size, F.vals, 30) (by simp)) (HC.out.blk (w.heap.size + 1, G.vals, 30) (by simp))).mono ?_; rintro e w1 ⟨rfl, hb⟩; have HC1 := Lib.hid (HC.out.step hb); clear hb))
    go_ret3
    rw [HR.out]
    exact ⟨rfl, HC1.out.below⟩

set_option maxHeartbeats 1000000 in
theorem iWorst_any (F G : Fld) (hF : F.Ok) (hG : G.Ok) (w : World) :
    Calls Try.prog 31 #[.agg F.vals.toArray, .agg G.vals.toArray] w fun e w' => e = .returned (.tuple #[.int .i64 (worstRes F G).1, .int .i64 (worstRes F G).2.1, .int .i64 (worstRes F G).2.2]) ∧ Below w.heap.size w w' := by
  have HO := Lib.hid hF
  have HP := Lib.hid hG
  clear hF hG
  have hz : ∀ w, (zeroValue 25).run Try.prog w = .ok (.agg (zrow .i16 100).toArray) w := fun w => (zero_of_info (by kernel_rfl : (Try.prog.info? 25).map (fun i => (i.zero, i.size)) = some (some (.agg (zrow .i16 100).toArray), 100))).1 w
  go_enter Try.func31, Try.ntmps31
  have HC := Lib.hid (boxed2 w F.vals G.vals 30 30)
  by_cases hp : pairCode F G = 0
  · have HQ := Lib.hid hp
    clear hp
    go_upto_region 5 with (first
      | (go_at_call 66; refine (lossCode_any F G HO.out HP.out _ _ _ (HC.out.blk (w.heap.size, F.vals, 30) (by simp)) (HC.out.blk (w.heap.size + 1, G.vals, 30) (by simp))).mono ?_; rintro e w1 ⟨rfl, hb⟩; rw [HQ.out]; have HC1 := Lib.hid (HC.out.step hb); clear hb)
      | (go_at_call 69; refine (lossOf_any F G HO.out HP.out _ _ _ (HC1.out.blk (w.heap.size, F.vals, 30) (by simp)) (HC1.out.blk (w.heap.size + 1, G.vals, 30) (by simp))).mono ?_; rintro e w2 ⟨rfl, hb⟩; have HC2 := Lib.hid (HC1.out.step hb); clear hb)
      | (with_reducible refine wpList_store_all rfl 25 (.tmp 9) (.tmp 16) rfl _ (vrow .i16 (lossList F G)) rfl rfl (Blk.new' w2 (zrow .i16 100) 25) (by rw [vrow_len, zrow_len, lossList_len]) (by rw [vrow_len, lossList_len]; kernel_rfl) (vrow_one _ _) ?_))
    obtain ⟨W, hW⟩ : ∃ W, W = (w2.alloc (.cells (zrow .i16 100).toArray 25)).setRow w2.heap.size (vrow .i16 (lossList F G)).toArray := ⟨_, rfl⟩
    have HL0 : Blk W w2.heap.size (vrow .i16 (lossList F G)) 25 := by rw [hW]; exact (Blk.new' w2 (zrow .i16 100) 25).row _
    have HB0 : Below w2.heap.size w2 W := by rw [hW]; exact below_setRow ((Below.refl _ _).alloc (Nat.le_refl _) _) (Nat.le_refl _) _
    have HC3 := Lib.hid (HC2.out.step HB0)
    have HL1 := Lib.hid HL0
    have HR := Lib.hid (worstRes_ok' HQ.out)
    rw [← hW]
    clear hW HB0 HL0
    go_wp2_with (first
      | (go_at_call 73; refine (cells_any F HO.out _ _ (HC3.out.blk (w.heap.size, F.vals, 30) (by simp))).mono ?_; rintro e w4 ⟨v, rfl, hm, hb⟩; have HC4 := Lib.hid (HC3.out.step hb); have HL := Lib.hid (HL1.out.below hb HL1.out.lt); clear hb; obtain ⟨A, c, rfl, hlc, hr⟩ := Kd.R_reads hm; have HM := Lib.hid hr; clear hm hlc hr))
    have HS : Hid (worstIn (lossList F G) (F.cellsTo 100) (F.cellsTo 100).length = worstTo (lossList F G) 100) := Lib.hid (loss_same HQ.out)
    go_loopw [8, 19] (fun u v wr => ∃ i : Nat, i ≤ (F.cellsTo 100).length ∧ v = .int .i64 i ∧ u = .int .i64 (worstIn (lossList F G) (F.cellsTo 100) i : Nat) ∧ ∃ n, wr = w4.drewN n) (fun _ v _ => 100 - (intOf v).toNat)
    case atStart => exact ⟨0, by omega, rfl, rfl, 0, rfl⟩
    case round =>
      obtain ⟨i, hi, rfl, rfl, n, rfl⟩ := hrel
      have hmx := F.cellsTo_len 100
      by_cases hlt : i < (F.cellsTo 100).length
      · have hat := worstIn_lt (lossList F G) F i hi
        obtain ⟨hk0, hk1⟩ := cellsTo_rd F 100 i hlt
        obtain ⟨ad, hA, hx⟩ := Kd.at_int HM.out (i : Int) (by omega) (by omega)
        subst hA
        obtain ⟨k, hk⟩ : ∃ k : Nat, rd (F.cellsTo 100) (i : Int) = (k : Int) := ⟨(rd (F.cellsTo 100) (i : Int)).toNat, by omega⟩
        rw [hk] at hx hk0 hk1
        have hk2 : k < 100 := by omega
        rw [Int.toNat_natCast] at hx
        have c1 := HL.out.cell (show (vrow .i16 (lossList F G))[k]? = _ from vrow_at (lossList_len F G) hk2)
        have c2 := HL.out.cell (show (vrow .i16 (lossList F G))[worstIn (lossList F G) (F.cellsTo 100) i]? = _ from vrow_at (lossList_len F G) hat)
        by_cases hg : nth (lossList F G) (worstIn (lossList F G) (F.cellsTo 100) i) < nth (lossList F G) k
        · have HN : Hid (worstIn (lossList F G) (F.cellsTo 100) (i + 1) = k) := Lib.hid (by simp only [worstIn]; rw [hk, Int.toNat_natCast, if_pos hg])
          clear hk
          go_wp2
          go_region
          all_goals
            go_wp2
            go_roundw
            case rel => exact ⟨i + 1, by omega, by go_num, by rw [HN.out], _, rfl⟩
            case measure => simp [intOf]; omega
        · have HN : Hid (worstIn (lossList F G) (F.cellsTo 100) (i + 1) = worstIn (lossList F G) (F.cellsTo 100) i) := Lib.hid (by simp only [worstIn]; rw [hk, Int.toNat_natCast, if_neg hg])
          clear hk
          go_wp2
          go_region
          all_goals
            go_wp2
            go_roundw
            case rel => exact ⟨i + 1, by omega, by go_num, by rw [HN.out], _, rfl⟩
            case measure => simp [intOf]; omega
      · obtain rfl : i = (F.cellsTo 100).length := by omega
        rw [HS.out] at *
        have hat := worstTo_lt (lossList F G) 100 (by omega)
        have c2 := HL.out.cell (show (vrow .i16 (lossList F G))[worstTo (lossList F G) 100]? = _ from vrow_at (lossList_len F G) hat)
        go_wp2
        go_region
        all_goals
          go_wp2
          go_ret3
          rw [HR.out]
          exact ⟨rfl, below_drewN HC4.out.below _⟩
  · have HR := Lib.hid (worstRes_bad hp)
    have hp' : (pairCode F G != 0) = true := by simpa using hp
    go_wp2_with (first
      | (go_at_call 66; refine (lossCode_any F G HO.out HP.out _ _ _ (HC.out.blk (w.heap.size, F.vals, 30) (by simp)) (HC.out.blk (w.heap.size + 1, G.vals, 30) (by simp))).mono ?_; rintro e w1 ⟨rfl, hb⟩; have HC1 := Lib.hid (HC.out.step hb); clear hb))
    go_ret3
    rw [HR.out]
    exact ⟨rfl, HC1.out.below⟩

end Go.Proofs.Ytlhiaofanejcoaa
