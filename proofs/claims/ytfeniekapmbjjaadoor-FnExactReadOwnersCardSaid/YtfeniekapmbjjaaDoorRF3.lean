/- Fields read, by the program. No condition but those that each theorem names. -/
import Derived.Test.YtfeniekapmbjjaaDoorRF2
namespace Go.Proofs.YtfeniekapmbjjaaDoor
open Go.RowKit Go.Proofs.YtfeniekapmbjjaaDoorW.PrintWords Go.Proofs.YtfeniekapmbjjaaDoorW.PrintLast Go.Proofs.YtfeniekapmbjjaaDoorW.PrintMore Go.Proofs.YtfeniekapmbjjaaDoor.PAll
set_option linter.unusedSimpArgs false
set_option linter.unusedVariables false

theorem parse_bounds {s : ByteArray} {hi : Int} (h : (parseF s 0 hi).2 = true) : 0 ≤ (parseF s 0 hi).1 ∧ (parseF s 0 hi).1 ≤ hi := by
  unfold parseF at h ⊢
  split at h
  · simp only [Bool.and_eq_true, decide_eq_true_eq] at h
    exact h.1
  · cases h
  · cases h
theorem str_same {a b : ByteArray} (h : a = b) : (a.toList == b.toList) = true := by rw [h]; simp
theorem str_diff {a b : ByteArray} (h : a ≠ b) : (a.toList == b.toList) = false := by
  cases hq : (a.toList == b.toList) with
  | false => rfl
  | true =>
    have h1 : a.toList = b.toList := by simpa using hq
    exact absurd (ba_eq (by rw [← ByteArray.toList_eq, ← ByteArray.toList_eq, h1])) h
set_option maxRecDepth 100000 in
set_option maxHeartbeats 8000000 in
theorem iReadField_any (t : ByteArray) (hs : t.size ≤ 1048576) (w : World) (hG : Glob w) :
    Calls Tryd.prog 27 #[.string t] w fun e w' => e = .returned (readOut (iRead t)) ∧ Below w.heap.size w w' := by
  have hz := zero_field
  have HG := Lib.hid hG
  have HQ := Lib.hid (fun w1 (h : Below w.heap.size w w1) => iSplit_any t 10 (by omega) w1 (hG.below h))
  clear hG
  obtain ⟨L, hL⟩ : ∃ L, L = cutS 10 t := ⟨_, rfl⟩
  have h1 : 0 < L.length := by rw [hL]; exact cutS_pos 10 t
  have h2 : L.length ≤ 1048577 := by rw [hL]; exact Nat.le_trans (cutS_len 10 t) (by omega)
  have h3 : ∀ p ∈ L, p.size ≤ 1048576 := fun p hp => by rw [hL] at hp; exact Nat.le_trans (cutS_mem 10 t hp) hs
  have eR : iRead t = if 600 < t.size ∨ L.length - 1 < 1 ∨ 10 < L.length - 1 then none else (linesF false (Fld.tall (L.length - 1)) 0 (L.take (L.length - 1))).bind (keepF t) := by rw [hL]; rfl
  rw [← hL] at HQ
  rw [eR]
  clear hL eR
  obtain ⟨n, hn⟩ : ∃ n, L.length = n + 1 := ⟨L.length - 1, by omega⟩
  have hn1 : L.length - 1 = n := by omega
  rw [hn1]
  have e1 : wrap64 ((n : Int) + 1 - 1) = (n : Int) := by unfold wrap64; omega
  by_cases c1 : 600 < t.size
  · rw [if_pos (.inl c1)]
    have f1 : decide (600 < (t.size : Int)) = true := decide_eq_true (by omega)
    go_enter Tryd.func27, Tryd.ntmps27
    go_wp2_with (first
      | (go_at_call 28; refine (HQ.out _ ((Below.refl w.heap.size w).alloc (Nat.le_refl _) _)).mono ?_; rintro e w1 ⟨ad, c, rfl, hc, hst, hge, hb⟩; rw [hn]; have ST := Lib.hid hst; obtain ⟨HB, HZ⟩ := box_after hb; have hsto0 := run_storeCells_blk (P := Tryd.prog) HZ.out (vs := zfld.vals) rfl zfld.one; clear hst hb)
      | (go_at_call 44; refine (xwithin_any _ _ _ _).mono ?_; rintro e w2 ⟨rfl, rfl⟩))
    exact post_blk2 (p := 2) (q := 3) (T := 30) rfl rfl rfl rfl (HZ.out.row _) Tryd.underlying30 rfl (by rw [zfld_ok.len]; kernel_rfl) ⟨rfl, below_setRow HB.out (Nat.le_refl _) _⟩
  have f1 : decide (600 < (t.size : Int)) = false := decide_eq_false (by omega)
  by_cases c2 : n < 1
  · rw [if_pos (.inr (.inl c2))]
    have f2 : decide (1 ≤ (n : Int)) = false := decide_eq_false (by omega)
    go_enter Tryd.func27, Tryd.ntmps27
    go_wp2_with (first
      | (go_at_call 28; refine (HQ.out _ ((Below.refl w.heap.size w).alloc (Nat.le_refl _) _)).mono ?_; rintro e w1 ⟨ad, c, rfl, hc, hst, hge, hb⟩; rw [hn]; have ST := Lib.hid hst; obtain ⟨HB, HZ⟩ := box_after hb; have hsto0 := run_storeCells_blk (P := Tryd.prog) HZ.out (vs := zfld.vals) rfl zfld.one; clear hst hb)
      | (go_at_call 44; refine (xwithin_any _ _ _ _).mono ?_; rintro e w2 ⟨rfl, rfl⟩))
    exact post_blk2 (p := 2) (q := 3) (T := 30) rfl rfl rfl rfl (HZ.out.row _) Tryd.underlying30 rfl (by rw [zfld_ok.len]; kernel_rfl) ⟨rfl, below_setRow HB.out (Nat.le_refl _) _⟩
  have f2 : decide (1 ≤ (n : Int)) = true := decide_eq_true (by omega)
  by_cases c3 : 10 < n
  · rw [if_pos (.inr (.inr c3))]
    have f3 : decide ((n : Int) ≤ 10) = false := decide_eq_false (by omega)
    go_enter Tryd.func27, Tryd.ntmps27
    go_wp2_with (first
      | (go_at_call 28; refine (HQ.out _ ((Below.refl w.heap.size w).alloc (Nat.le_refl _) _)).mono ?_; rintro e w1 ⟨ad, c, rfl, hc, hst, hge, hb⟩; rw [hn]; have ST := Lib.hid hst; obtain ⟨HB, HZ⟩ := box_after hb; have hsto0 := run_storeCells_blk (P := Tryd.prog) HZ.out (vs := zfld.vals) rfl zfld.one; clear hst hb)
      | (go_at_call 44; refine (xwithin_any _ _ _ _).mono ?_; rintro e w2 ⟨rfl, rfl⟩))
    exact post_blk2 (p := 2) (q := 3) (T := 30) rfl rfl rfl rfl (HZ.out.row _) Tryd.underlying30 rfl (by rw [zfld_ok.len]; kernel_rfl) ⟨rfl, below_setRow HB.out (Nat.le_refl _) _⟩
  have f3 : decide ((n : Int) ≤ 10) = true := decide_eq_true (by omega)
  rw [if_neg (by rintro (h | h | h); exact c1 h; exact c2 h; exact c3 h)]
  have hR : linesF false (Fld.tall n) 0 ((L.take n).drop 0) = linesF false (Fld.tall n) 0 (L.take n) := rfl
  generalize linesF false (Fld.tall n) 0 (L.take n) = R at *
  obtain ⟨Z, hZ⟩ : ∃ Z, Z = R.bind (keepF t) := ⟨_, rfl⟩
  rw [← hZ]
  have hHT := Lib.hid (fun (F : Fld) (ho : F.Ok) (hv : F.Valid) b w1 (h : Below w.heap.size w w1) (hf : IsF w1 b F) => fieldText_any F ho hv b w1 hf (HG.out.below h).tab)
  go_enter Tryd.func27, Tryd.ntmps27
  go_wp2_with (first
    | (go_at_call 28; refine (HQ.out _ ((Below.refl w.heap.size w).alloc (Nat.le_refl _) _)).mono ?_; rintro e w1 ⟨ad, c, rfl, hc, hst, hge, hb⟩; rw [hn]; have ST := Lib.hid hst; obtain ⟨HB, HZ⟩ := box_after hb; have hsto0 := run_storeCells_blk (P := Tryd.prog) HZ.out (vs := zfld.vals) rfl zfld.one; have hsto := run_storeCells_blk (P := Tryd.prog) (Blk.new' w1 zfld.vals 30) (vs := zfld.vals.set 1 (.int .i8 (n : Int))) rfl (tall_one n); clear hst hb)
    | (go_at_call 44; refine (xwithin_any _ _ _ _).mono ?_; rintro e w2 ⟨rfl, rfl⟩))
  have hn10 : n ≤ 10 := by omega
  have ho0 : (Fld.tall n).Ok := tall_ok hn10
  have hlt0 : w.heap.size < w1.heap.size := HZ.out.lt
  have HG2 := Lib.hid (HG.out.below HB.out)
  clear hsto hsto0 c2 c3 f1 f2 f3 hge
  go_loopw [36] (fun v wr => ∃ (y : Nat) (F : Fld), y ≤ n ∧ v = .int .i64 y ∧ F.Ok ∧ linesF false F y ((L.take n).drop y) = R ∧ Hid (IsF wr w1.heap.size F) ∧ Hid (Below w1.heap.size w1 wr)) (fun v _ => n - (intOf v).toNat)
  case atStart => exact ⟨0, Fld.tall n, by omega, rfl, ho0, hR, Lib.hid (tall_row w1 n), Lib.hid (below_setRow ((Below.refl _ _).alloc (Nat.le_refl _) _) (Nat.le_refl _) _)⟩
  case round =>
    clear hR ho0
    obtain ⟨y, F, hy, rfl, ho, hR, HF, HBr⟩ := hrel
    by_cases hlt : y < n
    · have hly := (ST.out.below HBr.out).c y (by omega)
      have hlist : (L.take n).drop y = L[y] :: (L.take n).drop (y + 1) := by rw [List.drop_eq_getElem_cons (by rw [List.length_take]; omega)]; simp
      rw [hlist] at hR
      simp only [linesF] at hR
      have hls := h3 _ (List.getElem_mem (l := L) (n := y) (by omega))
      have HQ2 := Lib.hid (fun wa (h : Below w1.heap.size w1 wa) => iSplit_any L[y] 32 (by omega) wa (HG2.out.below h))
      have hw1 := cutS_pos 32 L[y]
      have hw2 : (cutS 32 L[y]).length ≤ 1048577 := Nat.le_trans (cutS_len 32 L[y]) (by omega)
      have hws : ∀ p ∈ cutS 32 L[y], p.size ≤ 281474976710656 := fun p hp => by have := cutS_mem 32 L[y] hp; omega
      generalize hrest : (L.take n).drop (y + 1) = rest at hR
      clear hlist hls
      generalize cutS 32 L[y] = ws at *
      generalize L[y] = ln at *
      obtain ⟨m, hm⟩ : ∃ m, ws.length = m := ⟨_, rfl⟩
      rw [hm] at hR hw1 hw2
      have cw := HF.out.c0
      by_cases d1 : 10 < m
      · rw [if_pos (.inl d1)] at hR
        subst hR
        obtain rfl : Z = none := hZ
        have f1 : decide (10 < (m : Int)) = true := decide_eq_true (by omega)
        go_wp2_with (first
          | (go_at_call 28; refine (HQ2.out _ HBr.out).mono ?_; rintro e w5 ⟨ad2, c2, rfl, hc2, hst2, hge2, hb2⟩; rw [hm]; have HB5 := Lib.hid (HBr.out.trans (hb2.mono HBr.out.size)); have HZ5 := Lib.hid (HZ.out.below HB5.out hlt0); have hsto := run_storeCells_blk (P := Tryd.prog) HZ5.out (vs := zfld.vals) rfl zfld.one; have cw5 := pw_cell_below hb2 cw; clear hst2 hb2))
        exact post_blk2 (p := 2) (q := 3) (T := 30) rfl rfl rfl rfl (HZ5.out.row _) Tryd.underlying30 rfl (by rw [zfld_ok.len]; kernel_rfl) ⟨rfl, below_setRow (HB.out.trans (HB5.out.mono HB.out.size)) (Nat.le_refl _) _⟩
      have f1 : decide (10 < (m : Int)) = false := decide_eq_false (by omega)
      rw [if_neg (by rintro (h | h); exact d1 h; exact absurd h.1 (by decide))] at hR
      go_wp2_with (first
        | (go_at_call 28; refine (HQ2.out _ HBr.out).mono ?_; rintro e w5 ⟨ad2, c2, rfl, hc2, hst2, hge2, hb2⟩; rw [hm]; have HB5 := Lib.hid (HBr.out.trans (hb2.mono HBr.out.size)); have HF5 := Lib.hid (HF.out.below' hb2); have HW5 := Lib.hid hst2; have fz := HF5.out.free 0; have cw5 := pw_cell_below hb2 cw; clear hst2 hb2))
      have hne : ad2.block ≠ w1.heap.size := by have := HF.out.lt; omega
      clear cw cw5 fz hge2
      go_loopw [53] (fun v wr2 => ∃ (x : Nat) (G : Fld), x ≤ m ∧ v = .int .i64 x ∧ G.Ok ∧ ((rowF y G x (ws.drop x)).bind fun F => linesF false F (y + 1) rest) = R ∧ Hid (IsF wr2 w1.heap.size G) ∧ Hid (Strs wr2 ad2 ws) ∧ Hid (Below w1.heap.size w1 wr2)) (fun v _ => m - (intOf v).toNat)
      case atStart => exact ⟨0, F.setW m, by omega, rfl, ho.setW (by omega) (by omega), hR, Lib.hid (isF_setW HF5.out m), Lib.hid (HW5.out.set hne _ _), Lib.hid (below_setCell HB5.out (Nat.le_refl _) _ _)⟩
      case round =>
        clear hR HF HBr HF5 HW5 HB5 ho
        obtain ⟨x, G, hx, rfl, ho2, hR, HF2, HW2, HB2⟩ := hrel
        by_cases hxl : x < m
        · have hwx := HW2.out.c x (by omega)
          have hdrop : ws.drop x = ws[x] :: ws.drop (x + 1) := List.drop_eq_getElem_cons (by omega)
          rw [hdrop] at hR
          simp only [rowF] at hR
          have hsz := hws ws[x] (List.getElem_mem _)
          have hk100 : x + 10 * y < 100 := by omega
          clear hdrop
          generalize ws[x] = s at *
          by_cases e1 : s = hB
          · have q1 : (s.toList == [104]) = true := word_eq e1
            have ec : cellF G (x + 10 * y) s = some (G.setK (x + 10 * y) 1) := by unfold cellF; rw [if_pos e1]
            rw [ec] at hR
            simp only [Option.bind_some] at hR
            have fz := HF2.out.free (2 + (x + 10 * y))
            have cx := HF2.out.ck ho2 hk100
            clear ec e1
            go_wp2
            go_roundw
            case rel => exact ⟨x + 1, G.setK (x + 10 * y) 1, hxl, by go_num, ho2.setK _ (by decide) (by decide), hR, Lib.hid (isF_setK HF2.out ho2 hk100 1), Lib.hid (HW2.out.set hne _ _), Lib.hid (below_setCell HB2.out (Nat.le_refl _) _ _)⟩
            case measure => simp only [intOf]; omega
          have q1 : (s.toList == [104]) = false := word_ne e1
          by_cases e2 : s = pB
          · have q2 : (s.toList == [112]) = true := word_eq e2
            have ec : cellF G (x + 10 * y) s = some (G.setK (x + 10 * y) 2) := by unfold cellF; rw [if_neg e1, if_pos e2]
            rw [ec] at hR
            simp only [Option.bind_some] at hR
            have fz := HF2.out.free (2 + (x + 10 * y))
            have cx := HF2.out.ck ho2 hk100
            clear ec e1 e2
            go_wp2
            go_roundw
            case rel => exact ⟨x + 1, G.setK (x + 10 * y) 2, hxl, by go_num, ho2.setK _ (by decide) (by decide), hR, Lib.hid (isF_setK HF2.out ho2 hk100 2), Lib.hid (HW2.out.set hne _ _), Lib.hid (below_setCell HB2.out (Nat.le_refl _) _ _)⟩
            case measure => simp only [intOf]; omega
          have q2 : (s.toList == [112]) = false := word_ne e2
          by_cases e3 : s = tB
          · have q3 : (s.toList == [116]) = true := word_eq e3
            have ec : cellF G (x + 10 * y) s = some (G.setK (x + 10 * y) 3) := by unfold cellF; rw [if_neg e1, if_neg e2, if_pos e3]
            rw [ec] at hR
            simp only [Option.bind_some] at hR
            have fz := HF2.out.free (2 + (x + 10 * y))
            have cx := HF2.out.ck ho2 hk100
            clear ec e1 e2 e3
            go_wp2
            go_roundw
            case rel => exact ⟨x + 1, G.setK (x + 10 * y) 3, hxl, by go_num, ho2.setK _ (by decide) (by decide), hR, Lib.hid (isF_setK HF2.out ho2 hk100 3), Lib.hid (HW2.out.set hne _ _), Lib.hid (below_setCell HB2.out (Nat.le_refl _) _ _)⟩
            case measure => simp only [intOf]; omega
          have q3 : (s.toList == [116]) = false := word_ne e3
          cases hp : (parseF s 0 1000).2 with
          | true =>
            obtain ⟨v0, v1⟩ := parse_bounds hp
            have ec : cellF G (x + 10 * y) s = some (G.setS (x + 10 * y) (parseF s 0 1000).1) := by unfold cellF; rw [if_neg e1, if_neg e2, if_neg e3, if_pos hp]
            rw [ec] at hR
            simp only [Option.bind_some] at hR
            clear ec e1 e2 e3
            go_wp2_with (first | (go_at_call 29; refine (parse_any s 0 1000 (by decide) (by decide) hsz _ (HG2.out.below HB2.out)).mono ?_; rintro e w6 ⟨rfl, hb⟩; have HF6 := Lib.hid (HF2.out.below' hb); have HW6 := Lib.hid (HW2.out.below hb); have HB6 := Lib.hid (HB2.out.trans (hb.mono HB2.out.size)); have fz := HF6.out.free (102 + (x + 10 * y)); have cx := HF6.out.cs ho2 hk100; clear hb))
            go_roundw
            case rel => exact ⟨x + 1, G.setS (x + 10 * y) (parseF s 0 1000).1, hxl, by go_num, ho2.setS _ (by omega) (by omega), hR, Lib.hid (isF_setS HF6.out ho2 _), Lib.hid (HW6.out.set hne _ _), Lib.hid (below_setCell HB6.out (Nat.le_refl _) _ _)⟩
            case measure => simp only [intOf]; omega
          | false =>
            have ec : cellF G (x + 10 * y) s = none := by unfold cellF; rw [if_neg e1, if_neg e2, if_neg e3, if_neg (by rw [hp]; decide)]
            rw [ec] at hR
            simp only [Option.bind_none] at hR
            subst hR
            obtain rfl : Z = none := hZ
            clear ec e1 e2 e3
            go_wp2_with (first | (go_at_call 29; refine (parse_any s 0 1000 (by decide) (by decide) hsz _ (HG2.out.below HB2.out)).mono ?_; rintro e w6 ⟨rfl, hb⟩; have HF6 := Lib.hid (HF2.out.below' hb); have HW6 := Lib.hid (HW2.out.below hb); have HB6 := Lib.hid (HB2.out.trans (hb.mono HB2.out.size)); have fz := HF6.out.free (102 + (x + 10 * y)); have cx := HF6.out.cs ho2 hk100; have HZ6 := Lib.hid (HZ.out.below HB6.out hlt0); have hsto := run_storeCells_blk (P := Tryd.prog) HZ6.out (vs := zfld.vals) rfl zfld.one; clear hb))
            exact post_blk2 (p := 2) (q := 3) (T := 30) rfl rfl rfl rfl (HZ6.out.row _) Tryd.underlying30 rfl (by rw [zfld_ok.len]; kernel_rfl) ⟨rfl, below_setRow (HB.out.trans (HB6.out.mono HB.out.size)) (Nat.le_refl _) _⟩
        · obtain rfl : x = m := by omega
          rw [List.drop_eq_nil_iff.2 (by omega)] at hR
          simp only [rowF, Option.bind_some] at hR
          go_wp2
          go_roundw
          case rel => exact ⟨y + 1, G, hlt, by go_num, ho2, by rw [hrest]; exact hR, HF2, HB2⟩
          case measure => simp only [intOf]; omega
    · obtain rfl : y = n := by omega
      rw [List.drop_eq_nil_iff.2 (by rw [List.length_take]; omega)] at hR
      simp only [linesF] at hR
      subst hR
      have hFl := ho.len
      have HZr := Lib.hid (HZ.out.below HBr.out hlt0)
      have HV := Lib.hid (fun wa => validField_any F ho wa)
      have HFB := Lib.hid (HB.out.trans (HBr.out.mono HB.out.size))
      replace hZ : Z = keepF t F := hZ
      by_cases v1 : F.Valid
      · have V1 := Lib.hid v1
        have v2 : F.valid = true := Fld.valid_yes v1
        have HT := Lib.hid (fun b wa h hf => hHT.out F ho v1 b wa h hf)
        clear v1
        by_cases v3 : fldText F = t
        · obtain rfl : Z = some F := hZ.trans (keepF_yes V1.out v3)
          have q1 := str_same v3
          clear v3
          generalize fldText F = ft at *
          go_wp2_with (first | (with_reducible refine wpList_load_blk rfl 30 (.tmp 6) rfl _ 0 rfl F.vals _ HF.out (by rw [List.drop_zero, List.take_length]) Tryd.underlying30 rfl (by rw [hFl]; kernel_rfl) ?_) | (with_reducible refine wpList_load_blk rfl 30 (.tmp 6) rfl _ 0 rfl F.vals _ HF7.out (by rw [List.drop_zero, List.take_length]) Tryd.underlying30 rfl (by rw [hFl]; kernel_rfl) ?_) | (go_at_call 37; refine (HV.out _).mono ?_; rintro e w6 ⟨rfl, hb⟩; rw [v2]; have HF6 := Lib.hid (HF.out.below' hb); have HB6 := Lib.hid (HFB.out.trans (hb.mono HFB.out.size)); have HZ6 := Lib.hid (HZr.out.below hb HZr.out.lt);  clear hb) | (go_at_call 22; refine (HT.out _ _ HB6.out HF6.out).mono ?_; rintro e w7 ⟨rfl, hb⟩; have HF7 := Lib.hid (HF6.out.below' hb); have HB7 := Lib.hid (HB6.out.trans (hb.mono HB6.out.size)); have HZ7 := Lib.hid (HZ6.out.below hb HZ6.out.lt); have hsto := run_storeCells_blk (P := Tryd.prog) HZ7.out (vs := F.vals) (by rw [hFl, zfld_ok.len]) F.one; clear hb))
          exact post_blk2 (p := 2) (q := 3) (T := 30) rfl rfl rfl rfl (HZ7.out.row _) Tryd.underlying30 rfl (by rw [hFl]; kernel_rfl) ⟨rfl, below_setRow HB7.out (Nat.le_refl _) _⟩
        · obtain rfl : Z = none := hZ.trans (keepF_no (fun h => v3 h.2))
          have q1 := str_diff v3
          clear v3
          generalize fldText F = ft at *
          go_wp2_with (first | (with_reducible refine wpList_load_blk rfl 30 (.tmp 6) rfl _ 0 rfl F.vals _ HF.out (by rw [List.drop_zero, List.take_length]) Tryd.underlying30 rfl (by rw [hFl]; kernel_rfl) ?_) | (go_at_call 37; refine (HV.out _).mono ?_; rintro e w6 ⟨rfl, hb⟩; rw [v2]; have HF6 := Lib.hid (HF.out.below' hb); have HB6 := Lib.hid (HFB.out.trans (hb.mono HFB.out.size)); have HZ6 := Lib.hid (HZr.out.below hb HZr.out.lt);  clear hb) | (go_at_call 22; refine (HT.out _ _ HB6.out HF6.out).mono ?_; rintro e w7 ⟨rfl, hb⟩; have HF7 := Lib.hid (HF6.out.below' hb); have HB7 := Lib.hid (HB6.out.trans (hb.mono HB6.out.size)); have HZ7 := Lib.hid (HZ6.out.below hb HZ6.out.lt); have hsto := run_storeCells_blk (P := Tryd.prog) HZ7.out (vs := zfld.vals) rfl zfld.one; clear hb))
          exact post_blk2 (p := 2) (q := 3) (T := 30) rfl rfl rfl rfl (HZ7.out.row _) Tryd.underlying30 rfl (by rw [zfld_ok.len]; kernel_rfl) ⟨rfl, below_setRow HB7.out (Nat.le_refl _) _⟩
      · obtain rfl : Z = none := hZ.trans (keepF_no (fun h => v1 h.1))
        have v2 : F.valid = false := Fld.valid_no v1
        clear v1
        go_wp2_with (first | (with_reducible refine wpList_load_blk rfl 30 (.tmp 6) rfl _ 0 rfl F.vals _ HF.out (by rw [List.drop_zero, List.take_length]) Tryd.underlying30 rfl (by rw [hFl]; kernel_rfl) ?_) | (go_at_call 37; refine (HV.out _).mono ?_; rintro e w6 ⟨rfl, hb⟩; rw [v2]; have HF6 := Lib.hid (HF.out.below' hb); have HB6 := Lib.hid (HFB.out.trans (hb.mono HFB.out.size)); have HZ6 := Lib.hid (HZr.out.below hb HZr.out.lt); have hsto := run_storeCells_blk (P := Tryd.prog) HZ6.out (vs := zfld.vals) rfl zfld.one; clear hb))
        exact post_blk2 (p := 2) (q := 3) (T := 30) rfl rfl rfl rfl (HZ6.out.row _) Tryd.underlying30 rfl (by rw [zfld_ok.len]; kernel_rfl) ⟨rfl, below_setRow HB6.out (Nat.le_refl _) _⟩
end Go.Proofs.YtfeniekapmbjjaaDoor
