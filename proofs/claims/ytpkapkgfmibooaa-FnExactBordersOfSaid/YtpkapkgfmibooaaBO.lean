/- The pairs of owners with cells side by side, by the program and by the reference: the same. No condition but that the numbers are within their kinds. -/
import Derived.Test.YtpkapkgfmibooaaBN
import Derived.Test.YtpkapkgfmibooaaLO
namespace Go.Proofs.Ytpkapkgfmibooaa
open Go.RowKit Go.Proofs.YtpkapkgfmibooaaW.PrintWords Go.Proofs.YtpkapkgfmibooaaW.PrintLast Go.Proofs.YtpkapkgfmibooaaW.PrintMore
set_option linter.unusedSimpArgs false
set_option linter.unusedVariables false

theorem Kept.trans {g : Nat} {w w' w'' : World} (h : Kept g w w') (h2 : Kept g w' w'') : Kept g w w'' :=
  ⟨h2.os.trans h.os, h2.tape.trans h.tape, h2.output.trans h.output, Nat.le_trans h.size h2.size, fun k hl hk => (h2.block k (Nat.lt_of_lt_of_le hl h.size) hk).trans (h.block k hl hk)⟩
/-- A table of a hundred truths. -/
def bcells (P : Nat → Bool) : List Value := (List.range 100).map fun j => .bool (P j)
theorem bcells_len (P : Nat → Bool) : (bcells P).length = 100 := by simp [bcells]
def mark1 (P : Nat → Bool) (j : Nat) : Nat → Bool := fun i => P i || i == j
theorem bcells_get (P : Nat → Bool) {j : Nat} (h : j < 100) : (bcells P)[j]? = some (.bool (P j)) := by simp [bcells, h]
theorem bcells_set (P : Nat → Bool) {j : Nat} (h : j < 100) : (bcells P).set j (.bool true) = bcells (mark1 P j) := by
  refine List.ext_getElem? fun i => ?_
  rw [List.getElem?_set, bcells_len]
  by_cases e : j = i
  · subst e
    rw [if_pos rfl, if_pos h, bcells_get _ h]
    simp [mark1]
  · rw [if_neg e]
    rcases Nat.lt_or_ge i 100 with hi | hi
    · rw [bcells_get _ hi, bcells_get _ hi]
      have : (i == j) = false := by simpa using fun h => e h.symm
      simp [mark1, this]
    · rw [List.getElem?_eq_none (by rw [bcells_len]; exact hi), List.getElem?_eq_none (by rw [bcells_len]; exact hi)]
def pairAt (os : List Int) (c : Nat) (n : Int) : Nat := (nth os c).toNat * 10 + (nth os n.toNat).toNat
def metIn (F : Fld) (os : List Int) (P : Nat → Bool) (c : Nat) : Nat → (Nat → Bool)
  | 0 => P
  | k + 1 => mark1 (metIn F os P c k) (pairAt os c (rd (bes F c 4) (k : Int)))
def metC (F : Fld) (os : List Int) (P : Nat → Bool) (c : Nat) : Nat → Bool := metIn F os P c (bes F c 4).length
def metTo (F : Fld) (os : List Int) (n : Nat) : Nat → Bool := foldN (fun P c => if F.has (c : Int) = true then metC F os P c else P) (fun _ => false) n
theorem met_cells (F : Fld) (os : List Int) : foldIn (metC F os) (fun _ => false) (F.cellsTo 100) (F.cellsTo 100).length = metTo F os 100 := fold_cells F _ _ 100
theorem metTo_yes {F : Fld} {os : List Int} {n : Nat} (h : F.has (n : Int) = true) : metTo F os (n + 1) = metC F os (metTo F os n) n := by unfold metTo; simp only [foldN]; rw [if_pos h]
theorem metTo_no {F : Fld} {os : List Int} {n : Nat} (h : F.has (n : Int) = false) : metTo F os (n + 1) = metTo F os n := by unfold metTo; simp only [foldN]; rw [if_neg (by rw [h]; decide)]
/-- The pairs of owner a with the m owners past it, and all pairs of the first a owners. -/
def outB (P : Nat → Bool) (a : Nat) : Nat → List (Int × Int)
  | 0 => []
  | m + 1 => if P (a * 10 + (a + 1 + m)) = true then outB P a m ++ [((a : Int), ((a + 1 + m : Nat) : Int))] else outB P a m
def outA (P : Nat → Bool) : Nat → List (Int × Int)
  | 0 => []
  | a + 1 => outA P a ++ outB P a (9 - a)
theorem outB_len (P : Nat → Bool) (a : Nat) : ∀ m, (outB P a m).length ≤ m
  | 0 => by simp [outB]
  | m + 1 => by
    have := outB_len P a m
    simp only [outB]
    split
    · simp; omega
    · omega
theorem outA_len (P : Nat → Bool) : ∀ a, (outA P a).length ≤ 9 * a
  | 0 => by simp [outA]
  | a + 1 => by
    have h1 := outA_len P a
    have h2 := outB_len P a (9 - a)
    simp only [outA, List.length_append]
    omega
theorem outB_yes {P : Nat → Bool} {a m : Nat} (L : List (Int × Int)) (h : P (a * 10 + (a + 1 + m)) = true) : L ++ outB P a (m + 1) = (L ++ outB P a m) ++ [((a : Int), ((a + 1 + m : Nat) : Int))] := by simp only [outB]; rw [if_pos h, List.append_assoc]
theorem outB_no {P : Nat → Bool} {a m : Nat} (h : P (a * 10 + (a + 1 + m)) = false) : outB P a (m + 1) = outB P a m := by simp only [outB]; rw [if_neg (by rw [h]; decide)]
noncomputable def boRes (F : Fld) (os : List Int) : List (Int × Int) × Int := if (F.valid && ownAll F os) = true then (outA (metTo F os 100) 10, 0) else ([], 1)
theorem boRes_len (F : Fld) (os : List Int) : (boRes F os).1.length ≤ 1048576 := by
  unfold boRes
  split
  · have := outA_len (metTo F os 100) 10
    show (outA (metTo F os 100) 10).length ≤ _
    omega
  · simp
/-- An element: two whole numbers. -/
abbrev kA2 : Kd (Int × Int) := Kd.pair (Kd.int .i64) (Kd.int .i64)
abbrev MadeA (w w' : World) (xs : List (Int × Int)) (v : Value) : Prop := Kd.R kA2 64 w' w.heap.size (fun _ => True) v xs
theorem info_A2 : (Try.prog.info? 64).map (fun i => (i.zero, i.size, i.bytes)) = some (some (.agg #[.int .i64 0, .int .i64 0]), 2, 16) := by kernel_rfl
theorem zeroTab (w : World) : (zeroValue 61).run Try.prog w = .ok (.agg (bcells fun _ => false).toArray) w := (zero_of_info (by kernel_rfl : (Try.prog.info? 61).map (fun i => (i.zero, i.size)) = some (some (.agg (bcells fun _ => false).toArray), 100))).1 w
theorem bcells_one (P : Nat → Bool) : ∀ v ∈ bcells P, v.oneCell' = true := by
  intro v hv
  simp only [bcells, List.mem_map] at hv
  obtain ⟨j, _, rfl⟩ := hv
  rfl


set_option maxRecDepth 100000 in
set_option maxHeartbeats 4000000 in
theorem iBorders_any (F : Fld) (hF : F.Ok) (os : List Int) (hs : OsOk os) (w : World) :
    Calls Try.prog 12 #[.agg F.vals.toArray, .agg (vrow .i8 os).toArray] w fun e w' => ∃ v : Value, e = .returned (.tuple #[v, .int .i64 (boRes F os).2]) ∧ MadeA w w' (boRes F os).1 v ∧ Below w.heap.size w w' := by
  have HO := Lib.hid hF
  have HS := Lib.hid hs
  have HSL := Lib.hid hs.len
  have hz := zeroTab
  clear hF hs
  go_enter Try.func12, Try.ntmps12
  go_upto_region 1 with (fail)
  obtain ⟨W, hW⟩ : ∃ W, W = (w.alloc (.cells F.vals.toArray 32)).alloc (.cells (vrow .i8 os).toArray 34) := ⟨_, rfl⟩
  have HC := Lib.hid (boxed2 w F.vals (vrow .i8 os) 32 34)
  rw [← hW] at HC ⊢
  clear hW
  cases hq : (F.valid && ownAll F os)
  · have HQ := Lib.hid hq
    have HR : Hid (boRes F os = ([], 1)) := Lib.hid (by unfold boRes; rw [if_neg (by rw [hq]; decide)])
    clear hq
    go_wp2_with (first
      | (with_reducible refine wpList_load_blk rfl 32 (.tmp 2) rfl _ 0 rfl F.vals _ (HC.out.blk (w.heap.size, F.vals, 32) (by simp)) (by rw [List.drop_zero, List.take_length]) Try.underlying32 rfl (by rw [HO.out.len]; kernel_rfl) ?_)
      | (with_reducible refine wpList_load_blk rfl 34 (.tmp 3) rfl _ 0 rfl (vrow .i8 os) _ (HC.out.blk (w.heap.size + 1, vrow .i8 os, 34) (by simp)) (by rw [List.drop_zero, List.take_length]) Try.underlying34 rfl (by rw [vrow_len, HSL.out]; kernel_rfl) ?_)
      | (go_at_call 38; refine (iValidOwners_any F HO.out os HS.out _).mono ?_; rintro e w2 ⟨rfl, hb⟩; rw [HQ.out]; have HC2 := Lib.hid (HC.out.step hb); clear hb))
    go_ret2
    exact ⟨.slice none 0 0, by rw [HR.out]; rfl, by rw [HR.out]; exact Kd.R_nil _ _ _ _ _, HC2.out.below⟩
  · have HQ := Lib.hid hq
    have HOW : Hid (ownAll F os = true) := Lib.hid (by rw [Bool.and_eq_true] at hq; exact hq.2)
    have HR : Hid (boRes F os = (outA (metTo F os 100) 10, 0)) := Lib.hid (by unfold boRes; rw [if_pos hq])
    clear hq
    go_upto_region 4 with (first
      | (with_reducible refine wpList_load_blk rfl 32 (.tmp 2) rfl _ 0 rfl F.vals _ (HC.out.blk (w.heap.size, F.vals, 32) (by simp)) (by rw [List.drop_zero, List.take_length]) Try.underlying32 rfl (by rw [HO.out.len]; kernel_rfl) ?_)
      | (with_reducible refine wpList_load_blk rfl 34 (.tmp 3) rfl _ 0 rfl (vrow .i8 os) _ (HC.out.blk (w.heap.size + 1, vrow .i8 os, 34) (by simp)) (by rw [List.drop_zero, List.take_length]) Try.underlying34 rfl (by rw [vrow_len, HSL.out]; kernel_rfl) ?_)
      | (go_at_call 38; refine (iValidOwners_any F HO.out os HS.out _).mono ?_; rintro e w2 ⟨rfl, hb⟩; rw [HQ.out]; have HC2 := Lib.hid (HC.out.step hb); have hs2 := HC.out.lt (w.heap.size + 1, vrow .i8 os, 34) (by simp); have hs3 := hb.size; clear hb)
      | ((with_reducible refine gate_op (.store 61 (.tmp 6) (.tmp 18)) rfl ?_); refine wpList_store_all rfl 61 (.tmp 6) (.tmp 18) rfl _ (bcells fun _ => false) (by kernel_rfl) (by kernel_rfl) (Blk.new' _ (bcells fun _ => false) 61) rfl (by kernel_rfl) (bcells_one _) ?_; refine wpl_name (fun w' => Below w2.heap.size w2 w' ∧ Blk w' w2.heap.size (bcells fun _ => false) 61) ⟨below_setRow ((Below.refl _ _).alloc (Nat.le_refl _) _) (Nat.le_refl _) _, (Blk.new' _ _ _).row _⟩ ?_; rintro w4 ⟨hb, hK⟩; have HA4 := Lib.hid hK; have HC4 := Lib.hid (HC2.out.step hb); clear hb hK))
    try simp only at hs2
    have hgw : w.heap.size + 1 < w2.heap.size := by omega
    generalize w2.heap.size = g at *
    clear hs2 hs3
    go_wp2_with (first
      | (go_at_call 39; refine (cells_any F HO.out _ _ (HC4.out.blk (w.heap.size, F.vals, 32) (by simp))).mono ?_; rintro e w7 ⟨v, rfl, hm, hb⟩; have HA7 := Lib.hid (HA4.out.below hb HA4.out.lt); have hg4 := HA4.out.lt; have HC7 := Lib.hid (HC4.out.step hb); clear hb; obtain ⟨A2, c2, rfl, hm2⟩ := made_cells hm; have HM := Lib.hid hm2; clear hm hm2))
    go_loopw [21] (fun v wr => ∃ i : Nat, i ≤ (F.cellsTo 100).length ∧ v = .int .i64 i ∧ Hid (Kept g w7 wr) ∧ Hid (Blk wr g (bcells (foldIn (metC F os) (fun _ => false) (F.cellsTo 100) i)) 61)) (fun v _ => (F.cellsTo 100).length - (intOf v).toNat)
    case atStart => exact ⟨0, by omega, rfl, Lib.hid (Kept.refl _ _), HA7⟩
    case round =>
      obtain ⟨i, hi, rfl, HK, HA⟩ := hrel
      have hmx := F.cellsTo_len 100
      by_cases hlt : i < (F.cellsTo 100).length
      · obtain ⟨k, hk, hk2⟩ := cellsTo_in F 100 i hlt
        obtain ⟨ad, hA2, ha1, ha2, hx⟩ := HM.out i hlt
        subst hA2
        rw [hk] at hx
        have hh := cellsTo_has F 100 i hlt
        rw [hk] at hh
        obtain ⟨o0, o1⟩ := (own_at HOW.out hk2).1 hh
        clear hh
        have hx' : wr.cell? (ad.add i) = some (.int .i64 (k : Int)) := HK.out.cell hx (by rw [addr_blockE]; exact ha2) (by rw [addr_blockE]; omega)
        have HN : Hid (foldIn (metC F os) (fun _ => false) (F.cellsTo 100) (i + 1) = metC F os (foldIn (metC F os) (fun _ => false) (F.cellsTo 100) i) k) := Lib.hid (by simp only [foldIn]; rw [hk, Int.toNat_natCast])
        clear hx ha1 ha2 hk
        generalize foldIn (metC F os) (fun _ => false) (F.cellsTo 100) i = P at *
        obtain ⟨a, ha⟩ : ∃ a : Nat, nth os k = (a : Int) := ⟨(nth os k).toNat, by omega⟩
        have HAk := Lib.hid ha
        have ha9 : a < 10 := by omega
        clear ha o0 o1
        go_wp2_with (first
          | (go_at_call 40; refine (neigh_any F HO.out hk2 _ _ (HK.out.blk (HC7.out.blk (w.heap.size, F.vals, 32) (by simp)) (by simp only; omega))).mono ?_; rintro e w8 ⟨v8, rfl, hm, hb⟩; have HA8 := Lib.hid (HA.out.below hb HA.out.lt); have hg8 := HA.out.lt; have HK8 := Lib.hid (HK.out.step hb); clear hb; obtain ⟨A8, c8, rfl, hm2⟩ := made_cells hm; have HM8 := Lib.hid hm2; clear hm hm2))
        have HMX := bes_len F k 4
        go_loopw [28] (fun v wr => ∃ j : Nat, j ≤ (bes F k 4).length ∧ v = .int .i64 j ∧ Hid (Kept g w8 wr) ∧ Hid (Blk wr g (bcells (metIn F os P k j)) 61)) (fun v _ => (bes F k 4).length - (intOf v).toNat)
        case atStart => exact ⟨0, by omega, rfl, Lib.hid (Kept.refl _ _), HA8⟩
        case round =>
          obtain ⟨j, hj, rfl, HK2, HA2⟩ := hrel
          have HKK := Lib.hid (HK8.out.trans HK2.out)
          by_cases hlt2 : j < (bes F k 4).length
          · obtain ⟨ad2, hA3, hb1, hb2, hx2⟩ := HM8.out j hlt2
            subst hA3
            have hh := bes_in F k 4 j hlt2
            obtain ⟨n, hn, hn2⟩ : ∃ n : Nat, rd (bes F k 4) (j : Int) = (n : Int) ∧ n < 100 := by
              have := inB_iff.1 (has_in hh)
              exact ⟨(rd (bes F k 4) (j : Int)).toNat, by omega, by omega⟩
            rw [hn] at hx2 hh
            obtain ⟨o0, o1⟩ := (own_at HOW.out hn2).1 hh
            obtain ⟨b, hb⟩ : ∃ b : Nat, nth os n = (b : Int) := ⟨(nth os n).toNat, by omega⟩
            have hb9 : b < 10 := by omega
            have hx2' : wr.cell? (ad2.add j) = some (.int .i64 (n : Int)) := HK2.out.cell hx2 (by rw [addr_blockE]; exact hb2) (by rw [addr_blockE]; omega)
            have ck : wr.cell? ⟨w.heap.size + 1, k, none⟩ = some (.int .i8 (a : Int)) := by
              rw [← HAk.out]
              exact (HKK.out.blk (HC7.out.blk (w.heap.size + 1, vrow .i8 os, 34) (by simp)) (by simp only; omega)).cell (vrow_get (k := .i8) (zs := os) (i := k) (by rw [HSL.out]; exact hk2))
            have cn : wr.cell? ⟨w.heap.size + 1, n, none⟩ = some (.int .i8 (b : Int)) := by
              rw [← hb]
              exact (HKK.out.blk (HC7.out.blk (w.heap.size + 1, vrow .i8 os, 34) (by simp)) (by simp only; omega)).cell (vrow_get (k := .i8) (zs := os) (i := n) (by rw [HSL.out]; exact hn2))
            have HN2 : Hid (metIn F os P k (j + 1) = mark1 (metIn F os P k j) (a * 10 + b)) := Lib.hid (by simp only [metIn]; unfold pairAt; rw [hn, HAk.out, Int.toNat_natCast, Int.toNat_natCast, hb, Int.toNat_natCast])
            clear hx2 hb1 hb2 hn hh hb o0 o1
            generalize metIn F os P k j = R at *
            have hq9 : a * 10 + b < 100 := by omega
            have cq : wr.cell? ⟨g, a * 10 + b, none⟩ = some (.bool (R (a * 10 + b))) := HA2.out.cell (bcells_get R hq9)
            have fq : wr.frozen? ⟨g, a * 10 + b, none⟩ = false := HA2.out.free _
            have HA9 : Hid (Blk (wr.setCell ⟨g, a * 10 + b, none⟩ (.bool true)) g (bcells (mark1 R (a * 10 + b))) 61) := Lib.hid (by rw [← bcells_set R hq9]; exact HA2.out.set _ _)
            go_wp2
            go_region
            all_goals
              go_wp2
              go_roundw
              case rel =>
                refine ⟨j + 1, by omega, by go_num, ?_, ?_⟩
                · first | exact Lib.hid (HK2.out.set _ _) | exact Lib.hid ((HK2.out.drewN 1).set _ _) | exact Lib.hid ((HK2.out.set _ _).drewN 1)
                · rw [HN2.out]
                  first | exact HA9 | exact Lib.hid (HA9.out.drewN 1)
              case measure => simp only [intOf]; omega
          · obtain rfl : j = (bes F k 4).length := by omega
            go_wp2
            go_roundw
            case rel => exact ⟨i + 1, by omega, by go_num, HKK, by rw [HN.out]; exact HA2⟩
            case measure => simp only [intOf]; omega
      · obtain rfl : i = (F.cellsTo 100).length := by omega
        have HP : Hid (Blk wr g (bcells (metTo F os 100)) 61) := Lib.hid (by rw [← met_cells]; exact HA.out)
        have HBx : Hid (Below w.heap.size w wr) := Lib.hid (HK.out.below HC7.out.below (by omega) HC7.out.below.size)
        clear HA
        generalize metTo F os 100 = P at *
        clear hi hmx
        obtain ⟨wx, hwx⟩ : ∃ x, x = wr := ⟨_, rfl⟩
        rw [← hwx] at HP HBx ⊢
        clear hwx HK
        go_wp2_with (first
          | ((with_reducible refine gate_dst (N := 42) rfl ?_); refine Kd.R_lit kA2 (w0 := wx) wx.heap.size 64 ?hg (N := 42) ?hd (xs := ([] : List (Int × Int))) (inner := []) (ok := fun _ => True) (okp := fun _ => True) ?hr ?hp (fun _ hk => hk) trivial (Below.refl _ _) (Nat.le_refl _) (by simp) ?_; (case hd => rfl); (case hg => rfl); (case hr => first | (go_simp; done) | (go_simp; rfl)); (case hp => exact (Reps.none _ _)); intro v1 w1 ho1 hb1 hg1 hn1; clear hg1 hn1; have HR1 := Lib.hid ho1; have HB1 := Lib.hid hb1; clear ho1 hb1))
        go_loopw [11, 43] (fun u v wr => ∃ a : Nat, a ≤ 10 ∧ v = .int .i64 a ∧ Hid (Kd.R kA2 64 wr wx.heap.size (fun _ => True) u (outA P a)) ∧ Hid (Below wx.heap.size wx wr)) (fun _ v _ => 10 - (intOf v).toNat)
        case atStart => exact ⟨0, by omega, rfl, HR1, HB1⟩
        case round =>
          clear HR1 HB1
          obtain ⟨a, ha, rfl, HRo, HBo⟩ := hrel
          by_cases hlt : a < 10
          · have hd : decide ((a : Int) < 10) = true := decide_eq_true (by omega)
            go_wp2
            go_loopw [11, 13] (fun u v wr => ∃ m : Nat, m ≤ 9 - a ∧ v = .int .i64 ((a + 1 + m : Nat) : Int) ∧ Hid (Kd.R kA2 64 wr wx.heap.size (fun _ => True) u (outA P a ++ outB P a m)) ∧ Hid (Below wx.heap.size wx wr)) (fun _ v _ => 10 - (intOf v).toNat)
            case atStart => exact ⟨0, by omega, by go_num, by rw [show outA P a ++ outB P a 0 = outA P a from List.append_nil _]; exact HRo, HBo⟩
            case round =>
              clear HRo HBo
              obtain ⟨m, hm, rfl, HRr, HB⟩ := hrel
              have HL : Hid ((outA P a ++ outB P a m).length ≤ 1000) := Lib.hid (by have h1 := outA_len P a; have h2 := outB_len P a m; rw [List.length_append]; omega)
              by_cases hlt2 : m < 9 - a
              · have hq : a * 10 + (a + 1 + m) < 100 := by omega
                have cq : wr.cell? ⟨g, a * 10 + (a + 1 + m), none⟩ = some (.bool (P (a * 10 + (a + 1 + m)))) := (HP.out.below HB.out HP.out.lt).cell (bcells_get P hq)
                cases hp : P (a * 10 + (a + 1 + m))
                · have HN : Hid (outB P a (m + 1) = outB P a m) := Lib.hid (outB_no hp)
                  rw [hp] at cq
                  clear hp
                  go_wp2
                  go_roundw
                  case rel => exact ⟨m + 1, by omega, by go_num, by rw [HN.out]; exact HRr, HB⟩
                  case measure => simp only [intOf]; omega
                · have HN : Hid (outA P a ++ outB P a (m + 1) = (outA P a ++ outB P a m) ++ [((a : Int), ((a + 1 + m : Nat) : Int))]) := Lib.hid (outB_yes _ hp)
                  rw [hp] at cq
                  clear hp
                  go_wp2_with (first
                    | ((with_reducible refine gate_builtin (b := .append) (xs := #[.tmp 57, .tmp 61]) rfl ?_); at_builtin; refine Kd.R_append kA2 (w0 := wx) wx.heap.size rfl (.tmp 57) (.tmp 61) 29 64 (.agg #[.int .i64 0, .int .i64 0]) 16 rfl Try.underlying29 info_A2 rfl (by decide) (by omega) _ (outA P a ++ outB P a m) ((a : Int), ((a + 1 + m : Nat) : Int)) [.int .i64 (a : Int), .int .i64 ((a + 1 + m : Nat) : Int)] (fun _ => True) (fun _ => False) rfl rfl ?aP (fun _ hk => hk.elim) ?aF ?aO ?aB ?aS ?aL ?_; (case aP => exact ⟨[.int .i64 (a : Int)], [.int .i64 ((a + 1 + m : Nat) : Int)], rfl, rfl, rfl⟩); (case aF => exact (fun _ _ => trivial)); (case aO => exact (by (with_reducible repeat (first | apply Kd.R_alloc | apply Kd.R_drewN | apply Kd.R_drew)); exact HRr.out)); (case aB => exact (by repeat (first | (with_reducible first | exact HB.out | apply below_alloc | apply pw_below_drewN | apply below_drew1) | exact HB.out))); (case aS => exact (below_size (by repeat (first | (with_reducible first | exact HB.out | apply below_alloc | apply pw_below_drewN | apply below_drew1) | exact HB.out)))); (case aL => have := HL.out; omega); intro v2 w8 ho hb hg hat; rw [← HN.out] at ho; have HR2 := Lib.hid ho; have HB2 := Lib.hid hb; clear ho hb hg hat))
                  go_roundw
                  case rel => exact ⟨m + 1, by omega, by go_num, HR2, HB2⟩
                  case measure => simp only [intOf]; omega
              · obtain rfl : m = 9 - a := by omega
                go_wp2
                go_roundw
                case rel => exact ⟨a + 1, by omega, by go_num, HRr, HB⟩
                case measure => simp only [intOf]; omega
          · obtain rfl : a = 10 := by omega
            go_wp2
            go_ret2
            exact ⟨_, by rw [HR.out]; rfl, by rw [HR.out]; exact Kd.R_lower HRo.out HBx.out.size, HBx.out.trans (HBo.out.mono HBx.out.size)⟩


set_option maxRecDepth 100000 in
set_option maxHeartbeats 4000000 in
theorem sBorders_any (F : Fld) (hF : F.Ok) (os : List Int) (hs : OsOk os) (w : World) :
    Calls Try.prog 9 #[.agg F.vals.toArray, .agg (vrow .i8 os).toArray] w fun e w' => ∃ v : Value, e = .returned (.tuple #[v, .int .i64 (boRes F os).2]) ∧ MadeA w w' (boRes F os).1 v ∧ Below w.heap.size w w' := by
  have HO := Lib.hid hF
  have HS := Lib.hid hs
  have HSL := Lib.hid hs.len
  have hz := zeroTab
  clear hF hs
  go_enter Try.func9, Try.ntmps9
  go_upto_region 1 with (fail)
  obtain ⟨W, hW⟩ : ∃ W, W = (w.alloc (.cells F.vals.toArray 32)).alloc (.cells (vrow .i8 os).toArray 34) := ⟨_, rfl⟩
  have HC := Lib.hid (boxed2 w F.vals (vrow .i8 os) 32 34)
  rw [← hW] at HC ⊢
  clear hW
  cases hq : (F.valid && ownAll F os)
  · have HQ := Lib.hid hq
    have HR : Hid (boRes F os = ([], 1)) := Lib.hid (by unfold boRes; rw [if_neg (by rw [hq]; decide)])
    clear hq
    go_wp2_with (first
      | (go_at_call 33; refine (l06Owners_any F HO.out os HS.out _ _ _ (HC.out.blk (w.heap.size, F.vals, 32) (by simp)) (HC.out.blk (w.heap.size + 1, vrow .i8 os, 34) (by simp))).mono ?_; rintro e w2 ⟨rfl, rfl⟩; rw [HQ.out])
      | ((with_reducible refine gate_dst (N := 15) rfl ?_); refine Kd.R_lit kA2 (w0 := w) w.heap.size 64 ?hg (N := 15) ?hd (xs := ([] : List (Int × Int))) (inner := []) (ok := fun _ => True) (okp := fun _ => True) ?hr ?hp (fun _ hk => hk) trivial HC.out.below (below_size HC.out.below) (by simp) ?_; (case hd => rfl); (case hg => rfl); (case hr => first | (go_simp; done) | (go_simp; rfl)); (case hp => exact (Reps.none _ _)); intro v3 w3 ho1 hb1 hg1 hn1; clear hg1 hn1; have HR3 := Lib.hid ho1; have HB3 := Lib.hid hb1; clear ho1 hb1))
    go_ret2
    exact ⟨v3, by rw [HR.out]; rfl, by rw [HR.out]; exact HR3.out, HB3.out⟩
  · have HQ := Lib.hid hq
    have HOW : Hid (ownAll F os = true) := Lib.hid (by rw [Bool.and_eq_true] at hq; exact hq.2)
    have HR : Hid (boRes F os = (outA (metTo F os 100) 10, 0)) := Lib.hid (by unfold boRes; rw [if_pos hq])
    have hs2 : w.heap.size + 1 < W.heap.size := HC.out.lt (w.heap.size + 1, vrow .i8 os, 34) (by simp)
    clear hq
    go_upto_region 4 with (first
      | (go_at_call 33; refine (l06Owners_any F HO.out os HS.out _ _ _ (HC.out.blk (w.heap.size, F.vals, 32) (by simp)) (HC.out.blk (w.heap.size + 1, vrow .i8 os, 34) (by simp))).mono ?_; rintro e w2 ⟨rfl, rfl⟩; rw [HQ.out])
      | ((with_reducible refine gate_op (.store 61 (.tmp 6) (.tmp 16)) rfl ?_); refine wpList_store_all rfl 61 (.tmp 6) (.tmp 16) rfl _ (bcells fun _ => false) (by kernel_rfl) (by kernel_rfl) (Blk.new' _ (bcells fun _ => false) 61) rfl (by kernel_rfl) (bcells_one _) ?_; refine wpl_name (fun w' => Below W.heap.size W w' ∧ Blk w' W.heap.size (bcells fun _ => false) 61) ⟨below_setRow ((Below.refl _ _).alloc (Nat.le_refl _) _) (Nat.le_refl _) _, (Blk.new' _ _ _).row _⟩ ?_; rintro w7 ⟨hb, hK⟩; have HA7 := Lib.hid hK; have HC7 := Lib.hid (HC.out.step hb); clear hb hK))
    generalize W.heap.size = g at *
    go_wp2
    go_loopw [7, 8, 9] (fun v s q wr => ∃ k : Nat, k ≤ 100 ∧ v = .int .i64 k ∧ Hid (Kept g w7 wr) ∧ Hid (Blk wr g (bcells (metTo F os k)) 61)) (fun v _ _ _ => 100 - (intOf v).toNat)
    case atStart => exact ⟨0, by omega, rfl, Lib.hid (Kept.refl _ _), HA7⟩
    case round =>
      obtain ⟨k, hk, rfl, HK, HA⟩ := hrel
      have HF := Lib.hid (HK.out.blk (HC7.out.blk (w.heap.size, F.vals, 32) (by simp)) (by simp only; omega))
      by_cases hlt : k < 100
      · cases hh : F.has (k : Int)
        · have HX := Lib.hid hh
          have HN := Lib.hid (metTo_no (os := os) hh)
          clear hh
          go_wp2_with (go_at_call 34; refine (is_any F _ _ _ HF.out HO.out).mono ?_; rintro e w' ⟨rfl, rfl⟩; rw [HX.out])
          go_roundw
          case rel => exact ⟨k + 1, by omega, by go_num, HK, by rw [HN.out]; exact HA⟩
          case measure => simp only [intOf]; omega
        obtain ⟨o0, o1⟩ := (own_at HOW.out hlt).1 hh
        have HX := Lib.hid hh
        have HN : Hid (metTo F os (k + 1) = metC F os (metTo F os k) k) := Lib.hid (metTo_yes hh)
        have hk2 : k < 100 := hlt
        clear hh
        generalize metTo F os k = P at *
        obtain ⟨a, ha⟩ : ∃ a : Nat, nth os k = (a : Int) := ⟨(nth os k).toNat, by omega⟩
        have HAk := Lib.hid ha
        have ha9 : a < 10 := by omega
        clear ha o0 o1
        have hd0 : decide ((k : Int) < 100) = true := decide_eq_true (by omega)
        go_wp2_with (first
          | (go_at_call 34; refine (is_any F _ _ _ HF.out HO.out).mono ?_; rintro e w' ⟨rfl, rfl⟩; rw [HX.out])
          | (go_at_call 35; refine (beside_any F HO.out hk2 _ _ HF.out).mono ?_; rintro e w8 ⟨v8, rfl, hm, hb⟩; have HA8 := Lib.hid (HA.out.below hb HA.out.lt); have hg8 := HA.out.lt; have HK8 := Lib.hid (HK.out.step hb); clear hb; obtain ⟨A8, c8, rfl, hm2⟩ := made_cells hm; have HM8 := Lib.hid hm2; clear hm hm2))
        have HMX := bes_len F k 4
        go_loopw [9] (fun v wr => ∃ j : Nat, j ≤ (bes F k 4).length ∧ v = .int .i64 j ∧ Hid (Kept g w8 wr) ∧ Hid (Blk wr g (bcells (metIn F os P k j)) 61)) (fun v _ => (bes F k 4).length - (intOf v).toNat)
        case atStart => exact ⟨0, by omega, rfl, Lib.hid (Kept.refl _ _), HA8⟩
        case round =>
          obtain ⟨j, hj, rfl, HK2, HA2⟩ := hrel
          have HKK := Lib.hid (HK8.out.trans HK2.out)
          by_cases hlt2 : j < (bes F k 4).length
          · obtain ⟨ad2, hA3, hb1, hb2, hx2⟩ := HM8.out j hlt2
            subst hA3
            have hh := bes_in F k 4 j hlt2
            obtain ⟨n, hn, hn2⟩ : ∃ n : Nat, rd (bes F k 4) (j : Int) = (n : Int) ∧ n < 100 := by
              have := inB_iff.1 (has_in hh)
              exact ⟨(rd (bes F k 4) (j : Int)).toNat, by omega, by omega⟩
            rw [hn] at hx2 hh
            obtain ⟨o0, o1⟩ := (own_at HOW.out hn2).1 hh
            obtain ⟨b, hb⟩ : ∃ b : Nat, nth os n = (b : Int) := ⟨(nth os n).toNat, by omega⟩
            have hb9 : b < 10 := by omega
            have hx2' : wr.cell? (ad2.add j) = some (.int .i64 (n : Int)) := HK2.out.cell hx2 (by rw [addr_blockE]; exact hb2) (by rw [addr_blockE]; omega)
            have ck : wr.cell? ⟨w.heap.size + 1, k, none⟩ = some (.int .i8 (a : Int)) := by
              rw [← HAk.out]
              exact (HKK.out.blk (HC7.out.blk (w.heap.size + 1, vrow .i8 os, 34) (by simp)) (by simp only; omega)).cell (vrow_get (k := .i8) (zs := os) (i := k) (by rw [HSL.out]; exact hk2))
            have cn : wr.cell? ⟨w.heap.size + 1, n, none⟩ = some (.int .i8 (b : Int)) := by
              rw [← hb]
              exact (HKK.out.blk (HC7.out.blk (w.heap.size + 1, vrow .i8 os, 34) (by simp)) (by simp only; omega)).cell (vrow_get (k := .i8) (zs := os) (i := n) (by rw [HSL.out]; exact hn2))
            have HN2 : Hid (metIn F os P k (j + 1) = mark1 (metIn F os P k j) (a * 10 + b)) := Lib.hid (by simp only [metIn]; unfold pairAt; rw [hn, HAk.out, Int.toNat_natCast, Int.toNat_natCast, hb, Int.toNat_natCast])
            clear hx2 hb1 hb2 hn hh hb o0 o1
            generalize metIn F os P k j = R at *
            have hq9 : a * 10 + b < 100 := by omega
            have cq : wr.cell? ⟨g, a * 10 + b, none⟩ = some (.bool (R (a * 10 + b))) := HA2.out.cell (bcells_get R hq9)
            have fq : wr.frozen? ⟨g, a * 10 + b, none⟩ = false := HA2.out.free _
            have HA9 : Hid (Blk (wr.setCell ⟨g, a * 10 + b, none⟩ (.bool true)) g (bcells (mark1 R (a * 10 + b))) 61) := Lib.hid (by rw [← bcells_set R hq9]; exact HA2.out.set _ _)
            go_wp2
            go_region
            all_goals
              go_wp2
              go_roundw
              case rel =>
                refine ⟨j + 1, by omega, by go_num, ?_, ?_⟩
                · first | exact Lib.hid (HK2.out.set _ _) | exact Lib.hid ((HK2.out.drewN 1).set _ _) | exact Lib.hid ((HK2.out.set _ _).drewN 1)
                · rw [HN2.out]
                  first | exact HA9 | exact Lib.hid (HA9.out.drewN 1)
              case measure => simp only [intOf]; omega
          · obtain rfl : j = (bes F k 4).length := by omega
            go_wp2
            go_roundw
            case rel => exact ⟨k + 1, by omega, by go_num, HKK, by rw [HN.out]; exact HA2⟩
            case measure => simp only [intOf]; omega
      · obtain rfl : k = 100 := by omega
        have HP : Hid (Blk wr g (bcells (metTo F os 100)) 61) := HA
        have HBx : Hid (Below w.heap.size w wr) := Lib.hid (HK.out.below HC7.out.below (by omega) HC7.out.below.size)
        clear HA
        generalize metTo F os 100 = P at *
        clear HF hk
        obtain ⟨wx, hwx⟩ : ∃ x, x = wr := ⟨_, rfl⟩
        rw [← hwx] at HP HBx ⊢
        clear hwx HK
        go_wp2_with (first
          | ((with_reducible refine gate_dst (N := 43) rfl ?_); refine Kd.R_lit kA2 (w0 := wx) wx.heap.size 64 ?hg (N := 43) ?hd (xs := ([] : List (Int × Int))) (inner := []) (ok := fun _ => True) (okp := fun _ => True) ?hr ?hp (fun _ hk => hk) trivial (Below.refl _ _) (Nat.le_refl _) (by simp) ?_; (case hd => rfl); (case hg => rfl); (case hr => first | (go_simp; done) | (go_simp; rfl)); (case hp => exact (Reps.none _ _)); intro v1 w1 ho1 hb1 hg1 hn1; clear hg1 hn1; have HR1 := Lib.hid ho1; have HB1 := Lib.hid hb1; clear ho1 hb1))
        go_loopw [10, 11, 12] (fun u v s wr => ∃ a : Nat, a ≤ 10 ∧ v = .int .i64 a ∧ Hid (Kd.R kA2 64 wr wx.heap.size (fun _ => True) u (outA P a)) ∧ Hid (Below wx.heap.size wx wr)) (fun _ v _ _ => 10 - (intOf v).toNat)
        case atStart => exact ⟨0, by omega, rfl, HR1, HB1⟩
        case round =>
          clear HR1 HB1
          obtain ⟨a, ha, rfl, HRo, HBo⟩ := hrel
          by_cases hlt : a < 10
          · have hd : decide ((a : Int) < 10) = true := decide_eq_true (by omega)
            go_wp2
            go_loopw [10, 12] (fun u v wr => ∃ m : Nat, m ≤ 9 - a ∧ v = .int .i64 ((a + 1 + m : Nat) : Int) ∧ Hid (Kd.R kA2 64 wr wx.heap.size (fun _ => True) u (outA P a ++ outB P a m)) ∧ Hid (Below wx.heap.size wx wr)) (fun _ v _ => 10 - (intOf v).toNat)
            case atStart => exact ⟨0, by omega, by go_num, by rw [show outA P a ++ outB P a 0 = outA P a from List.append_nil _]; exact HRo, HBo⟩
            case round =>
              clear HRo HBo
              obtain ⟨m, hm, rfl, HRr, HB⟩ := hrel
              have HL : Hid ((outA P a ++ outB P a m).length ≤ 1000) := Lib.hid (by have h1 := outA_len P a; have h2 := outB_len P a m; rw [List.length_append]; omega)
              by_cases hlt2 : m < 9 - a
              · have hq : a * 10 + (a + 1 + m) < 100 := by omega
                have cq : wr.cell? ⟨g, a * 10 + (a + 1 + m), none⟩ = some (.bool (P (a * 10 + (a + 1 + m)))) := (HP.out.below HB.out HP.out.lt).cell (bcells_get P hq)
                cases hp : P (a * 10 + (a + 1 + m))
                · have HN : Hid (outB P a (m + 1) = outB P a m) := Lib.hid (outB_no hp)
                  rw [hp] at cq
                  clear hp
                  go_wp2
                  go_roundw
                  case rel => exact ⟨m + 1, by omega, by go_num, by rw [HN.out]; exact HRr, HB⟩
                  case measure => simp only [intOf]; omega
                · have HN : Hid (outA P a ++ outB P a (m + 1) = (outA P a ++ outB P a m) ++ [((a : Int), ((a + 1 + m : Nat) : Int))]) := Lib.hid (outB_yes _ hp)
                  rw [hp] at cq
                  clear hp
                  go_wp2_with (first
                    | ((with_reducible refine gate_builtin (b := .append) (xs := #[.tmp 59, .tmp 63]) rfl ?_); at_builtin; refine Kd.R_append kA2 (w0 := wx) wx.heap.size rfl (.tmp 59) (.tmp 63) 29 64 (.agg #[.int .i64 0, .int .i64 0]) 16 rfl Try.underlying29 info_A2 rfl (by decide) (by omega) _ (outA P a ++ outB P a m) ((a : Int), ((a + 1 + m : Nat) : Int)) [.int .i64 (a : Int), .int .i64 ((a + 1 + m : Nat) : Int)] (fun _ => True) (fun _ => False) rfl rfl ?aP (fun _ hk => hk.elim) ?aF ?aO ?aB ?aS ?aL ?_; (case aP => exact ⟨[.int .i64 (a : Int)], [.int .i64 ((a + 1 + m : Nat) : Int)], rfl, rfl, rfl⟩); (case aF => exact (fun _ _ => trivial)); (case aO => exact (by (with_reducible repeat (first | apply Kd.R_alloc | apply Kd.R_drewN | apply Kd.R_drew)); exact HRr.out)); (case aB => exact (by repeat (first | (with_reducible first | exact HB.out | apply below_alloc | apply pw_below_drewN | apply below_drew1) | exact HB.out))); (case aS => exact (below_size (by repeat (first | (with_reducible first | exact HB.out | apply below_alloc | apply pw_below_drewN | apply below_drew1) | exact HB.out)))); (case aL => have := HL.out; omega); intro v2 w8 ho hb hg hat; rw [← HN.out] at ho; have HR2 := Lib.hid ho; have HB2 := Lib.hid hb; clear ho hb hg hat))
                  go_roundw
                  case rel => exact ⟨m + 1, by omega, by go_num, HR2, HB2⟩
                  case measure => simp only [intOf]; omega
              · obtain rfl : m = 9 - a := by omega
                go_wp2
                go_roundw
                case rel => exact ⟨a + 1, by omega, by go_num, HRr, HB⟩
                case measure => simp only [intOf]; omega
          · obtain rfl : a = 10 := by omega
            go_wp2
            go_ret2
            exact ⟨_, by rw [HR.out]; rfl, by rw [HR.out]; exact Kd.R_lower HRo.out HBx.out.size, HBx.out.trans (HBo.out.mono HBx.out.size)⟩

end Go.Proofs.Ytpkapkgfmibooaa
