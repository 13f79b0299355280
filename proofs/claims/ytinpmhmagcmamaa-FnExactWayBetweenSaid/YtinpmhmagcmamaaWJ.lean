/- The way between two cells, by the program. No condition but that the numbers are within their kinds. -/
import Derived.Test.YtinpmhmagcmamaaWI
import Derived.Test.YtinpmhmagcmamaaDG
namespace Go.Proofs.Ytinpmhmagcmamaa
open Go.RowKit Go.Proofs.YtinpmhmagcmamaaW.PrintWords Go.Proofs.YtinpmhmagcmamaaW.PrintLast Go.Proofs.YtinpmhmagcmamaaW.PrintMore
set_option linter.unusedSimpArgs false
set_option linter.unusedVariables false

theorem MapI.setOther {w : World} {b n k : Nat} {D : Nat → Int} (h : MapI w b n D) (hk : b ≠ k) {i : Nat} {v : Value} : MapI (w.setCell ⟨k, i, none⟩ v) b n D := by
  obtain ⟨E, ⟨es, clock, h1, h2, h3, h4⟩, hD⟩ := h
  exact ⟨E, ⟨es, clock, (Below.heap_setCell w ⟨k, i, none⟩ v b hk).trans h1, h2, h3, h4⟩, hD⟩
theorem own_new_ne {v1 : Value} {n k : Nat} (hn : ∃ b, v1.ownBlock = some b ∧ n ≤ b) (hk : k < n) : some k ≠ v1.ownBlock := fun e => by
  obtain ⟨b, h1, h2⟩ := hn
  rw [h1] at e
  injection e with e
  omega
theorem zeroMap (w : World) : (zeroValue 50).run Try.prog w = .ok (.map none) w := by kernel_rfl

set_option maxRecDepth 100000 in
set_option maxHeartbeats 8000000 in
theorem iWay_any (F : Fld) (hF : F.Ok) (s t : Int) (w : World) :
    Calls Try.prog 7 #[.agg F.vals.toArray, .int .i64 s, .int .i64 t] w fun e w' => ∃ v : Value, e = .returned (.tuple #[v, .int .i64 (wyRes F s t).2]) ∧ Made w w' (wyRes F s t).1 v ∧ Below w.heap.size w w' := by
  have HO := Lib.hid hF
  clear hF
  have hmf : ∀ (fn : Fn) (first cap : Array Value) (w : World), (Instr.makeFunc fn first cap).run Try.prog w = .ok (.func fn first cap) w := fun _ _ _ _ => rfl
  by_cases hq : codeF F (F.has s && F.has t) = 0
  case neg =>
    have HR := Lib.hid (wy_code hq)
    have hq' : (codeF F (F.has s && F.has t) != 0) = true := by simpa using hq
    go_enter Try.func7, Try.ntmps7
    go_upto_region 1 with (fail)
    obtain ⟨W, hW⟩ : ∃ W, W = ((w.alloc (.cells F.vals.toArray 31)).alloc (.cells [Value.int .i64 s].toArray 2)).alloc (.cells [Value.int .i64 t].toArray 2) := ⟨_, rfl⟩
    have HC := Lib.hid (boxed3 w F.vals [.int .i64 s] [.int .i64 t] 31 2 2)
    rw [← hW] at HC ⊢
    clear hW
    go_wp2_with (first
      | (go_at_call 21; refine (fieldCode_any F HO.out _ 22 _ (F.has s && F.has t) _ (HC.out.blk (w.heap.size, F.vals, 31) (by simp)) (enters_of Try.func22 (by kernel_rfl) rfl) (fun _ w1 hb => wyClo1_any F HO.out s t _ _ _ w1 ((HC.out.step hb).blk (w.heap.size, F.vals, 31) (by simp)) ((HC.out.step hb).blk (w.heap.size + 1, [.int .i64 s], 2) (by simp)) ((HC.out.step hb).blk (w.heap.size + 1 + 1, [.int .i64 t], 2) (by simp)))).mono ?_; rintro e w2 ⟨rfl, hb⟩;  have HC1 := Lib.hid (HC.out.step hb); clear hb; have k1 : w2.cell? ⟨w.heap.size + 1, 0, none⟩ = some (.int .i64 s) := (HC1.out.blk (w.heap.size + 1, [.int .i64 s], 2) (by simp)).cell rfl; have k2 : w2.cell? ⟨w.heap.size + 1 + 1, 0, none⟩ = some (.int .i64 t) := (HC1.out.blk (w.heap.size + 1 + 1, [.int .i64 t], 2) (by simp)).cell rfl))
    go_ret2
    exact ⟨.slice none 0 0, by rw [HR.out]; rfl, by rw [HR.out]; exact Kd.R_nil _ _ _ _ _, HC1.out.below⟩
  case pos =>
  have HQ := Lib.hid hq
  obtain ⟨hva, hin⟩ := codeF_in hq
  rw [Bool.and_eq_true] at hin
  have hsb := inB_iff.1 (has_in hin.1)
  have htb := inB_iff.1 (has_in hin.2)
  obtain ⟨a, rfl⟩ : ∃ a : Nat, s = (a : Int) := ⟨s.toNat, by omega⟩
  obtain ⟨b, rfl⟩ : ∃ b : Nat, t = (b : Int) := ⟨t.toNat, by omega⟩
  have ha : a < 100 := by omega
  have hb100 : b < 100 := by omega
  have HTB := Lib.hid hin.2
  clear hq hva hin hsb htb
  cases hw : (F.way (a : Int) && F.way (b : Int))
  · have HR := Lib.hid (wy_state HQ.out hw)
    have hww : F.way (a : Int) = false ∨ (F.way (a : Int) = true ∧ F.way (b : Int) = false) := by
      cases h1 : F.way (a : Int)
      · exact .inl rfl
      · rw [h1, Bool.true_and] at hw
        exact .inr ⟨rfl, hw⟩
    clear hw
    go_enter Try.func7, Try.ntmps7
    go_upto_region 1 with (fail)
    obtain ⟨W, hW⟩ : ∃ W, W = ((w.alloc (.cells F.vals.toArray 31)).alloc (.cells [Value.int .i64 (a : Int)].toArray 2)).alloc (.cells [Value.int .i64 (b : Int)].toArray 2) := ⟨_, rfl⟩
    have HC := Lib.hid (boxed3 w F.vals [.int .i64 (a : Int)] [.int .i64 (b : Int)] 31 2 2)
    rw [← hW] at HC ⊢
    clear hW
    rcases hww with h1 | ⟨h1, h2⟩
    · have H1 := Lib.hid h1
      clear h1
      go_wp2_with (first
        | (go_at_call 21; refine (fieldCode_any F HO.out _ 22 _ (F.has (a : Int) && F.has (b : Int)) _ (HC.out.blk (w.heap.size, F.vals, 31) (by simp)) (enters_of Try.func22 (by kernel_rfl) rfl) (fun _ w1 hb => wyClo1_any F HO.out (a : Int) (b : Int) _ _ _ w1 ((HC.out.step hb).blk (w.heap.size, F.vals, 31) (by simp)) ((HC.out.step hb).blk (w.heap.size + 1, [.int .i64 (a : Int)], 2) (by simp)) ((HC.out.step hb).blk (w.heap.size + 1 + 1, [.int .i64 (b : Int)], 2) (by simp)))).mono ?_; rintro e w2 ⟨rfl, hb⟩; rw [HQ.out]; have HC1 := Lib.hid (HC.out.step hb); clear hb; have k1 : w2.cell? ⟨w.heap.size + 1, 0, none⟩ = some (.int .i64 (a : Int)) := (HC1.out.blk (w.heap.size + 1, [.int .i64 (a : Int)], 2) (by simp)).cell rfl; have k2 : w2.cell? ⟨w.heap.size + 1 + 1, 0, none⟩ = some (.int .i64 (b : Int)) := (HC1.out.blk (w.heap.size + 1 + 1, [.int .i64 (b : Int)], 2) (by simp)).cell rfl)
        | (go_at_call 24; refine (isWay_any F HO.out _ _ _ (HC1.out.blk (w.heap.size, F.vals, 31) (by simp))).mono ?_; rintro e w' ⟨rfl, rfl⟩; rw [H1.out]))
      go_ret2
      exact ⟨.slice none 0 0, by rw [HR.out]; rfl, by rw [HR.out]; exact Kd.R_nil _ _ _ _ _, HC1.out.below⟩
    · have H1 := Lib.hid h1
      have H2 := Lib.hid h2
      clear h1 h2
      go_wp2_with (first
        | (go_at_call 21; refine (fieldCode_any F HO.out _ 22 _ (F.has (a : Int) && F.has (b : Int)) _ (HC.out.blk (w.heap.size, F.vals, 31) (by simp)) (enters_of Try.func22 (by kernel_rfl) rfl) (fun _ w1 hb => wyClo1_any F HO.out (a : Int) (b : Int) _ _ _ w1 ((HC.out.step hb).blk (w.heap.size, F.vals, 31) (by simp)) ((HC.out.step hb).blk (w.heap.size + 1, [.int .i64 (a : Int)], 2) (by simp)) ((HC.out.step hb).blk (w.heap.size + 1 + 1, [.int .i64 (b : Int)], 2) (by simp)))).mono ?_; rintro e w2 ⟨rfl, hb⟩; rw [HQ.out]; have HC1 := Lib.hid (HC.out.step hb); clear hb; have k1 : w2.cell? ⟨w.heap.size + 1, 0, none⟩ = some (.int .i64 (a : Int)) := (HC1.out.blk (w.heap.size + 1, [.int .i64 (a : Int)], 2) (by simp)).cell rfl; have k2 : w2.cell? ⟨w.heap.size + 1 + 1, 0, none⟩ = some (.int .i64 (b : Int)) := (HC1.out.blk (w.heap.size + 1 + 1, [.int .i64 (b : Int)], 2) (by simp)).cell rfl)
        | (go_at_call_of 24 (Value.int .i64 (a : Int)); refine (isWay_any F HO.out _ (a : Int) _ (HC1.out.blk (w.heap.size, F.vals, 31) (by simp))).mono ?_; rintro e w' ⟨rfl, rfl⟩; rw [H1.out])
        | (go_at_call 24; refine (isWay_any F HO.out _ (b : Int) _ (HC1.out.blk (w.heap.size, F.vals, 31) (by simp))).mono ?_; rintro e w' ⟨rfl, rfl⟩; rw [H2.out]))
      go_ret2
      exact ⟨.slice none 0 0, by rw [HR.out]; rfl, by rw [HR.out]; exact Kd.R_nil _ _ _ _ _, HC1.out.below⟩
  · have hww : F.way (a : Int) = true ∧ F.way (b : Int) = true := by rw [Bool.and_eq_true] at hw; exact hw
    have H1 := Lib.hid hww.1
    have H2 := Lib.hid hww.2
    have HWW := Lib.hid hw
    clear hw hww
    go_enter Try.func7, Try.ntmps7
    go_upto_region 1 with (fail)
    obtain ⟨W, hW⟩ : ∃ W, W = ((w.alloc (.cells F.vals.toArray 31)).alloc (.cells [Value.int .i64 (a : Int)].toArray 2)).alloc (.cells [Value.int .i64 (b : Int)].toArray 2) := ⟨_, rfl⟩
    have HC := Lib.hid (boxed3 w F.vals [.int .i64 (a : Int)] [.int .i64 (b : Int)] 31 2 2)
    rw [← hW] at HC ⊢
    clear hW
    go_upto_region 6 with (first
      | (go_at_call 21; refine (fieldCode_any F HO.out _ 22 _ (F.has (a : Int) && F.has (b : Int)) _ (HC.out.blk (w.heap.size, F.vals, 31) (by simp)) (enters_of Try.func22 (by kernel_rfl) rfl) (fun _ w1 hb => wyClo1_any F HO.out (a : Int) (b : Int) _ _ _ w1 ((HC.out.step hb).blk (w.heap.size, F.vals, 31) (by simp)) ((HC.out.step hb).blk (w.heap.size + 1, [.int .i64 (a : Int)], 2) (by simp)) ((HC.out.step hb).blk (w.heap.size + 1 + 1, [.int .i64 (b : Int)], 2) (by simp)))).mono ?_; rintro e w2 ⟨rfl, hb⟩; rw [HQ.out]; have HC1 := Lib.hid (HC.out.step hb); clear hb; have k1 : w2.cell? ⟨w.heap.size + 1, 0, none⟩ = some (.int .i64 (a : Int)) := (HC1.out.blk (w.heap.size + 1, [.int .i64 (a : Int)], 2) (by simp)).cell rfl; have k2 : w2.cell? ⟨w.heap.size + 1 + 1, 0, none⟩ = some (.int .i64 (b : Int)) := (HC1.out.blk (w.heap.size + 1 + 1, [.int .i64 (b : Int)], 2) (by simp)).cell rfl)
      | (go_at_call_of 24 (Value.int .i64 (a : Int)); refine (isWay_any F HO.out _ (a : Int) _ (HC1.out.blk (w.heap.size, F.vals, 31) (by simp))).mono ?_; rintro e w' ⟨rfl, rfl⟩; rw [H1.out])
      | (go_at_call 24; refine (isWay_any F HO.out _ (b : Int) _ (HC1.out.blk (w.heap.size, F.vals, 31) (by simp))).mono ?_; rintro e w' ⟨rfl, rfl⟩; rw [H2.out]))
    clear k1 k2
    have hg3 : w.heap.size + 1 + 1 < w2.heap.size := HC1.out.lt (w.heap.size + 1 + 1, [.int .i64 (b : Int)], 2) (by simp)
    obtain ⟨w3, hw3⟩ : ∃ x, x = w2 := ⟨_, rfl⟩
    have HC3 := HC1
    rw [← hw3] at HC3 hg3 ⊢
    clear hw3 HC1
    obtain ⟨g, hg⟩ : ∃ g, g = w3.heap.size := ⟨_, rfl⟩
    have HG := Lib.hid hg
    clear hg
    refine la_start (S := fun w' => Below g w3 w') (n := 9) #[false, false, false, false, false, false, false, false, false] (by kernel_rfl) (by kernel_rfl) (below_drewN (Below.refl _ _) 1) (fun _ _ _ _ hd h => ⟨hd.symm.trans h.1, h.2⟩) (fun hPB => ?_)
    obtain ⟨wd, hwd⟩ : ∃ u, u = { w3 with drawn := w3.drawn + 1 } := ⟨_, rfl⟩
    have hF0 : Below g w3 wd := by rw [hwd]; exact below_drewN (Below.refl _ _) 1
    rw [← hwd]
    clear hwd
    have hBt : ∀ w1, Below g w3 w1 → Blk w1 (w.heap.size + 1 + 1) [.int .i64 (b : Int)] 2 := fun w1 h1 => (HC3.out.blk (w.heap.size + 1 + 1, [.int .i64 (b : Int)], 2) (by simp)).below h1 (by rw [HG.out]; exact hg3)
    refine la_cell (i := 1) #[false, true, false, false, false, false, false, false, false] (some 38) rfl rfl (by kernel_rfl) hPB rfl 2 (.tmp 5) rfl (w.heap.size + 1 + 1) 0 (by kernel_rfl) hBt rfl Try.underlying2 hF0 ?_
    simp only [Act.put, List.setIfInBounds_toArray, List.set_cons_zero, List.set_cons_succ]
    refine la_cell (i := 4) #[false, true, false, false, true, false, false, false, false] (some 40) rfl rfl (by kernel_rfl) hPB rfl 2 (.tmp 5) rfl (w.heap.size + 1 + 1) 0 (by kernel_rfl) hBt rfl Try.underlying2 hF0 ?_
    simp only [Act.put, List.setIfInBounds_toArray, List.set_cons_zero, List.set_cons_succ]
    obtain ⟨m, p, vq⟩ : Nat × Nat × Value := ⟨0, 0, .map none⟩
    refine join_ (σ := Nat × Nat × Value) 1 #[true, true, true, true, true, true, true, true, false] (fun s => [(37, .map (some (s.1))), (39, .map (some (s.1))), (41, (s.2.2)), (9, .pointer (some ⟨(s.2.1), 0, none⟩))]) (fun s w' => (Below g w3 w') ∧ (MapI w' (s.1) 1 (WY.upd (fun _ => 0) b 1)) ∧ (g ≤ (s.1)) ∧ (Kd.R kI 2 w' g (fun k => some k = (s.2.2).ownBlock) (s.2.2) [(b : Int)]) ∧ (Blk w' (s.2.1) [.map (some (s.1))] 50) ∧ (g ≤ (s.2.1)) ∧ ((s.1) ≠ (s.2.1)) ∧ (some (s.1) ≠ (s.2.2).ownBlock) ∧ (some (s.2.1) ≠ (s.2.2).ownBlock)) ?_ ?_
    · rintro ⟨m, p, vq⟩ wd ⟨hF0, hF1, hF2, hF3, hF4, hF5, hF6, hF7, hF8⟩
      simp only [putAll, Act.put, List.setIfInBounds_toArray, List.set_cons_zero, List.set_cons_succ]
      refine la_assign (i := 8) #[true, true, true, true, true, true, true, true, true] (some 10) rfl rfl (by kernel_rfl) rfl (.tmp 41) rfl vq (by kernel_rfl) hF0 ?_
      have HS6 : Hid (BfM g m p w3 wd vq ([(b : Int)], WY.upd (fun _ => 0) b 1)) := Lib.hid ⟨Kd.R_mono hF3 (fun k hk => ⟨fun e => hF7 (by rw [← hk, e]), fun e => hF8 (by rw [← hk, e])⟩), hF1, hF4, hF0, hF2, hF5, hF6⟩
      clear hF0 hF1 hF2 hF3 hF4 hF5 hF6 hF7 hF8
      refine la_done (by kernel_rfl) ?_
      simp only [Act.put, List.setIfInBounds_toArray, List.set_cons_zero, List.set_cons_succ]
      have hg8 : g ≤ wd.heap.size := Nat.le_trans HS6.out.gm (Nat.le_of_lt HS6.out.d.lt)
      go_wp2
      go_loopw [10, 11] (fun u v wr => ∃ i : Nat, i ≤ 100 ∧ v = .int .i64 i ∧ Hid (BfM g m p w3 wr u (WY.bfs F b i))) (fun _ v _ => 100 - (intOf v).toNat)
      case atStart => exact ⟨0, by omega, rfl, HS6⟩
      case round =>
        clear HS6
        obtain ⟨i, hi, rfl, HS⟩ := hrel
        have HI := Lib.hid (WY.BInv.bfs (F := F) hb100 HTB.out i)
        obtain ⟨A, c, rfl⟩ := HS.out.slice
        by_cases hlt : i < (WY.bfs F b i).1.length
        · obtain ⟨q, hq100, hq, hq0⟩ := HI.out.q i hlt
          obtain ⟨-, ad, rfl, cq⟩ := HS.out.at hlt
          rw [hq] at cq
          have HN : Hid (WY.bfs F b (i + 1) = WY.visTo F q (WY.bfs F b i) (bes F q 4).length) := Lib.hid (by show WY.rnd F i (WY.bfs F b i) = _; unfold WY.rnd; rw [if_pos hlt, hq, Int.toNat_natCast])
          have HQR := Lib.hid hq
          have hlen := HI.out.len
          generalize WY.bfs F b i = S0 at *
          clear hq
          go_wp2_with (go_at_call 25; refine (neigh_any F HO.out hq100 _ _ (HS.out.field (HC3.out.blk (w.heap.size, F.vals, 31) (by simp)) HG.out)).mono ?_; rintro e w10 ⟨v10, rfl, hm, hb⟩; obtain ⟨B0, hB0⟩ : ∃ B0, B0 = wr.heap.size := ⟨_, rfl⟩; have HS10 := Lib.hid (HS.out.lst hm hb); rw [← hB0] at HS10; clear hB0; obtain ⟨A10, c10, rfl⟩ := Kd.R_slice hm; clear hb hm)
          have HMX := bes_len F q 4
          clear cq
          go_loopw [10, 54] (fun u v wr2 => ∃ j : Nat, j ≤ (bes F q 4).length ∧ v = .int .i64 j ∧ Hid (BfN g m p B0 w3 (.slice A10 (bes F q 4).length c10) (bes F q 4) wr2 u (WY.visTo F q S0 j))) (fun _ v _ => (bes F q 4).length - (intOf v).toNat)
          case atStart => exact ⟨0, by omega, rfl, HS10⟩
          case round =>
            clear HS10
            obtain ⟨j, hj, rfl, HS2⟩ := hrel
            obtain ⟨HI2, hq2⟩ := WY.BInv.visTo HI.out hq0 j hj
            have HIJ := Lib.hid HI2
            have HLQ := Lib.hid HI2.len
            clear HI2
            obtain ⟨A2, c2, rfl⟩ := HS2.out.s.slice
            by_cases hlt2 : j < (bes F q 4).length
            · obtain ⟨n, hn100, hn⟩ := bes_nat hlt2
              obtain ⟨-, ad10, rfl, cl⟩ := HS2.out.at hlt2
              have hiq : i < (WY.visTo F q S0 j).1.length := Nat.lt_of_lt_of_le hlt (WY.visTo_len S0 j)
              obtain ⟨-, ad2, rfl, cq⟩ := HS2.out.s.at hiq
              rw [WY.visTo_rd S0 hlt, HQR.out] at cq
              rw [hn] at cl
              have HN2 : Hid (WY.visTo F q S0 (j + 1) = WY.visit F q n (WY.visTo F q S0 j)) := Lib.hid (by simp only [WY.visTo]; rw [hn, Int.toNat_natCast])
              have lx := HS2.out.s.far hn100 true
              have lq := HS2.out.s.far hq100 false
              have cp := HS2.out.s.bx.cell (i := 0) rfl
              have HNR := Lib.hid hn
              generalize WY.visTo F q S0 j = S at *
              clear hn
              have HFB := Lib.hid (HS2.out.s.field (HC3.out.blk (w.heap.size, F.vals, 31) (by simp)) HG.out)
              have hqhi := HIJ.out.hi q
              have hqlo := HIJ.out.lo q
              have hnlo := HIJ.out.lo n
              have hLQ := HLQ.out
              rw [if_pos hq2] at lq
              simp only [if_true, Bool.false_eq_true, if_false] at lx lq
              by_cases h0 : 0 < S.2 n
              · have HV : Hid (WY.visit F q n S = S) := Lib.hid (by unfold WY.visit; rw [decide_eq_false (by omega), Bool.and_false, if_neg (by decide)])
                rw [if_pos h0, decide_eq_true h0] at lx
                generalize S.2 n - 1 = z at lx
                clear h0 lq
                go_wp2
                go_roundw
                case rel => exact ⟨j + 1, by omega, by go_num, by rw [HN2.out, HV.out]; exact HS2⟩
                case measure => simp only [intOf]; omega
              · rw [if_neg h0, decide_eq_false h0] at lx
                have h00 : S.2 n = 0 := by omega
                cases hwn : F.way (n : Int)
                · have HX := Lib.hid hwn
                  have HV : Hid (WY.visit F q n S = S) := Lib.hid (by unfold WY.visit; rw [hwn, Bool.false_and, if_neg (by decide)])
                  clear hwn h0 h00 lq
                  go_wp2_with (go_at_call 24; refine (isWay_any F HO.out _ _ _ HFB.out).mono ?_; rintro e w' ⟨rfl, rfl⟩; rw [HX.out])
                  go_roundw
                  case rel => exact ⟨j + 1, by omega, by go_num, by rw [HN2.out, HV.out]; exact HS2⟩
                  case measure => simp only [intOf]; omega
                · have HX := Lib.hid hwn
                  have HV : Hid (WY.visit F q n S = (S.1 ++ [(n : Int)], WY.upd S.2 n (S.2 q + 1))) := Lib.hid (by unfold WY.visit; rw [hwn, h00, if_pos (by decide)])
                  obtain ⟨dq, hdq⟩ : ∃ d, d = S.2 q := ⟨_, rfl⟩
                  rw [← hdq] at lq hqhi hqlo HV
                  have hs1 : IntKind.i64.wrap (dq - 1 + 1) = dq := by rw [IntKind.wrap_i64]; omega
                  clear hwn h0 h00
                  have hbd : Below wr.heap.size wr wr.drew := below_drew (Below.refl _ _)
                  have HSd := Lib.hid (HS2.out.s.below hbd)
                  have lqd := HSd.out.far hq100 false
                  rw [if_pos (by omega : 0 < S.2 q), ← hdq] at lqd
                  simp only [Bool.false_eq_true, if_false] at lqd
                  obtain ⟨wu, hrun, hR, hM, hP, hB, hg⟩ := HSd.out.put hn100 (v := dq) (by omega) (by omega) (by omega)
                  clear hdq
                  go_upto_region 15 with (go_at_call 24; refine (isWay_any F HO.out _ _ _ HFB.out).mono ?_; rintro e w' ⟨rfl, rfl⟩; rw [HX.out])
                  go_region
                  all_goals
                    have HRu := Lib.hid hR
                    have HMu := Lib.hid hM
                    have HPu := Lib.hid hP
                    have HBu := Lib.hid hB
                    have HLu : Hid (Kd.R kI 2 wu B0 (fun k => k ≠ m ∧ some k ≠ (Value.slice (some ad2) S.1.length c2).ownBlock) (.slice (some ad10) (bes F q 4).length c10) (bes F q 4)) := Lib.hid (Kd.R_grown (Kd.R_below HS2.out.l hbd) hg (fun k hk e => hk.1 (by injection e)))
                    clear hR hM hP hB hg hrun lq lqd lx cl cq cp hbd HSd
                    go_wp2_with (first
                      | ((with_reducible refine gate_builtin (b := .append) (xs := #[.tmp 79, .tmp 81]) rfl ?_); at_builtin; (refine Kd.R_append kI (w0 := w3) g rfl (.tmp 79) (.tmp 81) 28 2 (.int .i64 0) 8 rfl Try.underlying28 infoQ_i64 rfl (by decide) (by omega) _ (S.1) ((n : Int)) [.int .i64 ((n : Int))] (fun k => k ≠ m ∧ k ≠ p) (fun _ => False) rfl rfl ?aP (fun _ hk => hk.elim) ?aF ?aO ?aB ?aS ?aL ?_; (case aP => exact rfl); (case aO => exact HRu.out); (case aB => exact HBu.out); (case aF => exact fun k hk => ⟨Nat.ne_of_gt (Nat.lt_of_lt_of_le HMu.out.lt hk), Nat.ne_of_gt (Nat.lt_of_lt_of_le HPu.out.lt hk)⟩); (case aS => exact Nat.le_trans HS2.out.s.gm (Nat.le_of_lt HMu.out.lt)); (case aL => have := HLQ.out; omega); intro v1 w1 ho1 hb1 hg1 hat1; have HS3 : Hid (BfN g m p B0 w3 (.slice (some ad10) (bes F q 4).length c10) (bes F q 4) w1 v1 (S.1 ++ [(n : Int)], WY.upd S.2 n (dq + 1))) := Lib.hid ⟨BfM.app HRu.out HMu.out HPu.out HS2.out.s.gm HS2.out.s.gp HS2.out.s.ne ho1 (by simp) hb1 hg1, Kd.R_after HLu.out hg1 hat1⟩; clear ho1 hb1 hg1 hat1)))
                    go_roundw
                    case rel => exact ⟨j + 1, by omega, by go_num, by rw [HN2.out, HV.out]; exact HS3⟩
                    case measure => simp only [intOf]; omega
            · obtain rfl : j = (bes F q 4).length := by omega
              go_wp2
              go_roundw
              case rel => exact ⟨i + 1, by omega, by go_num, by rw [HN.out]; exact Lib.hid HS2.out.s⟩
              case measure => simp only [intOf]; omega
        · have HE : Hid (WY.bfs F b i = WY.bfs F b 100) := Lib.hid (WY.bfs_end hi hlt)
          rw [HE.out] at HS hlt ⊢
          have HI2 := Lib.hid (WY.BInv.bfs (F := F) hb100 HTB.out 100)
          have HRN := Lib.hid (wy_none HQ.out HWW.out)
          have HRW := Lib.hid (wy_way HQ.out HWW.out)
          clear HE HI
          generalize WY.bfs F b 100 = S at *
          obtain ⟨wx, hwx⟩ : ∃ x, x = wr := ⟨_, rfl⟩
          rw [← hwx] at HS ⊢
          clear hwx
          have HCx := Lib.hid (HC3.out.step (by have h := HS.out.b; rw [HG.out] at h; exact h))
          have ka : wx.cell? ⟨w.heap.size + 1, 0, none⟩ = some (.int .i64 (a : Int)) := (HCx.out.blk (w.heap.size + 1, [.int .i64 (a : Int)], 2) (by simp)).cell rfl
          have lx := HS.out.far ha true
          have cp := HS.out.bx.cell (i := 0) rfl
          simp only [if_true] at lx
          have hlo := HI2.out.lo a
          by_cases h0 : S.2 a = 0
          · have HR := Lib.hid (HRN.out h0)
            rw [if_neg (by omega), decide_eq_false (by omega)] at lx
            clear HRN HRW h0
            go_wp2
            go_ret2
            exact ⟨.slice none 0 0, by rw [HR.out]; rfl, by rw [HR.out]; exact Kd.R_nil _ _ _ _ _, HCx.out.below⟩
          · have HR := Lib.hid (HRW.out h0)
            have HP := Lib.hid (HI2.out.path (s := a) (by omega))
            have hhi := HI2.out.hi a
            have hln := HI2.out.len
            obtain ⟨mm, hm⟩ : ∃ mm : Nat, S.2 a = (mm : Int) + 1 := ⟨(S.2 a - 1).toNat, by omega⟩
            have HMM := Lib.hid hm
            have hm100 : mm ≤ 100 := by omega
            have HLH : Hid (∀ n, 0 ≤ S.2 n ∧ S.2 n ≤ 100) := Lib.hid (fun n => by have h1 := HI2.out.lo n; have h2 := HI2.out.hi n; omega)
            rw [if_pos (by omega), decide_eq_true (by omega)] at lx
            generalize S.2 a - 1 = z at lx
            clear HRN HRW h0 hlo hm hhi hln
            go_upto_region 22 with (first
              | ((with_reducible refine gate_dst (N := 93) rfl ?_); refine Kd.R_lit kI (w0 := wx) wx.heap.size 2 ?hg (N := 93) ?hd (xs := [(a : Int)]) (inner := [.int .i64 (a : Int)]) (ok := fun _ => True) (okp := fun _ => False) ?hr ?hp (fun _ hk => hk.elim) trivial (Below.refl _ _) (Nat.le_refl _) (by simp) ?_; (case hd => rfl); (case hg => rfl); (case hr => first | (go_simp; done) | (go_simp; rfl)); (case hp => exact (Kd.reps_scalar _)); intro v1 w1 ho1 hb1 hg1 hn1; have HR9 := Lib.hid ho1; have HB9 := Lib.hid hb1; clear ho1 hb1 hg1 hn1))
            have hb22 := newBox w1 (.int .i64 (a : Int)) 2
            have ka1 := (HB9.out.cell (p := ⟨w.heap.size + 1, 0, none⟩) (by have := HCx.out.lt (w.heap.size + 1, [.int .i64 (a : Int)], 2) (by simp); exact this)).trans ka
            clear lx cp ka
            go_wp2
            go_loopw [18, 19] (fun o v wr => ∃ k c : Nat, k ≤ mm ∧ v = .pointer (some ⟨c, 0, none⟩) ∧ wx.heap.size ≤ c ∧ Hid (Blk wr c [.int .i64 (WY.pathC F S.2 a k : Nat)] 2) ∧ Hid (Kd.R kI 2 wr wx.heap.size (fun j => j ≠ c) o (WY.pathL F S.2 a k)) ∧ Hid (Below wx.heap.size wx wr)) (fun o _ _ => mm + 1 - lenV o)
            case atStart => exact ⟨0, w1.heap.size, by omega, rfl, HB9.out.size, Lib.hid hb22.2, Lib.hid (Kd.R_below (Kd.R_mono (Kd.R_bound HR9.out) (fun k hk => Nat.ne_of_lt hk.2.2.1)) hb22.1), Lib.hid (below_then HB9.out HB9.out.size hb22.1)⟩
            case round =>
              clear HR9 HB9 hb22 ka1
              obtain ⟨k, c, hk, rfl, hc0, HC9, HRo, HBo⟩ := hrel
              have hpk := HP.out k (by have := HMM.out; omega)
              have HN : Hid (WY.pathL F S.2 a (k + 1) = WY.pathL F S.2 a k ++ [(WY.pathC F S.2 a (k + 1) : Int)]) := Lib.hid rfl
              have HN2 : Hid (WY.pathC F S.2 a (k + 1) = (WY.nx F S.2 (WY.pathC F S.2 a k)).toNat) := Lib.hid rfl
              have HLQ := Lib.hid (WY.pathL_len F S.2 a k)
              have HLN := Lib.hid (WY.pathL_len F S.2 a (k + 1))
              have hqk := hpk.2
              rw [HMM.out] at hqk
              have hq0 := hpk.1
              obtain ⟨Ao, co, rfl⟩ := Kd.R_slice HRo.out
              have cc := HC9.out.cell (i := 0) rfl
              have kb : wr.cell? ⟨w.heap.size + 1 + 1, 0, none⟩ = some (.int .i64 (b : Int)) := ((HCx.out.step HBo.out).blk (w.heap.size + 1 + 1, [.int .i64 (b : Int)], 2) (by simp)).cell rfl
              clear hpk
              by_cases hlt2 : k < mm
              · generalize WY.pathC F S.2 a k = q at *
                have hqb : q ≠ b := fun e => by have := HI2.out.tt; rw [← e] at this; omega
                obtain ⟨x, n, hx, hpx, hnox, hxn, hnx, hn100, hn0, hnd⟩ := HI2.out.next hq0 hqb
                have hq100 := (HI2.out.p q hq0).1
                have HMX := bes_len F q 4
                have HN3 : Hid (WY.pathC F S.2 a (k + 1) = n) := Lib.hid (by rw [HN2.out, hnx, Int.toNat_natCast])
                have HPX := Lib.hid hpx
                have HNX := Lib.hid hnox
                have HXN := Lib.hid hxn
                clear hpx hnox hxn hnx HN2 hnd hn0
                have hqbd : decide ((q : Int) = (b : Int)) = false := decide_eq_false (by omega)
                have hqbz : ¬ ((q : Int) = (b : Int)) := by omega
                have HFx := HCx.out.step HBo.out
                go_upto_region 26 with (first
                  | (go_at_call 25; refine (neigh_any F HO.out hq100 _ _ (HFx.blk (w.heap.size, F.vals, 31) (by simp))).mono ?_; rintro e w10 ⟨v10, rfl, hm, hb⟩; obtain ⟨A10, c10, rfl⟩ := Kd.R_slice hm; have HM10 := Lib.hid hm; have HB10 := Lib.hid hb; clear hb hm)
                  | (go_at_call 26; refine (sort_up (fun _ => True) A10 c10 (bes F q 4) wr _ HB10.out HM10.out (by omega) (WY.bes_up 4 (Nat.le_refl _))).mono ?_; rintro e w11 ⟨rfl, hm, hb, -⟩; have HM11 := Lib.hid (Kd.R_reads' hm).2.2; have HB11 := Lib.hid hb; clear hb hm))
                have hcl := HC9.out.lt
                have HSw := Lib.hid (HS.out.below HBo.out)
                have hml := HSw.out.d.lt
                have hpl := HSw.out.bx.lt
                clear cc kb HB10 HM10
                go_upto_region 27 with (first
                  | (go_at_call 27; refine (intFirst_any (bes F q 4) (WY.nearer S.2 q) A10 c10 28 _ w11 HM11.out x hx HPX.out HNX.out (enters_of Try.func28 (by kernel_rfl) rfl) (fun i w1 hi hb => by
                      obtain ⟨n2, hn2, hn2r⟩ := bes_nat hi
                      have hbb : Below wr.heap.size wr w1 := below_then HB11.out HB11.out.size hb
                      rw [wapp2, hn2r]
                      exact wyClo2_any HLH.out hq0 hq100 hn2 w1 (HSw.out.d.below hbb) (HSw.out.bx.below hbb hpl) (HC9.out.below hbb hcl))).mono ?_; rintro e w12 ⟨rfl, hb⟩; have HM12 := Lib.hid (Kd.C_below HM11.out hb); have HB12 := Lib.hid (below_then HB11.out HB11.out.size hb); clear hb))
                obtain ⟨adl, hAl, cl⟩ := Kd.at_int HM12.out (x : Int) (by omega) (by omega)
                subst hAl
                rw [Int.toNat_natCast] at cl
                have cl2 : w12.cell? (adl.add x) = some (.int .i64 (n : Int)) := by rw [← HXN.out]; simpa [rd] using cl
                clear cl
                have HC12 := Lib.hid (HC9.out.below HB12.out hcl)
                have cc := HC12.out.cell (i := 0) rfl
                have fc := HC12.out.free 0
                have HRo12 := Lib.hid (Kd.R_below HRo.out HB12.out)
                have HBo12 := Lib.hid (below_then HBo.out HBo.out.size HB12.out)
                go_upto_region 28 with (fail)
                refine name_of (fun w' => Blk w' c [.int .i64 (n : Int)] 2 ∧ Kd.R kI 2 w' wx.heap.size (fun j => j ≠ c) (.slice Ao (WY.pathL F S.2 a k).length co) (WY.pathL F S.2 a k) ∧ Below wx.heap.size wx w') ⟨HC12.out.set 0 (.int .i64 (n : Int)), Kd.R_far HRo12.out (p := ⟨c, 0, none⟩) (fun _ hk => hk) _, below_setCell HBo12.out hc0 0 _⟩ ?_
                rintro w13 ⟨h1, h2, h3⟩
                have HC13 := Lib.hid h1
                have HR13 := Lib.hid h2
                have HB13 := Lib.hid h3
                clear h1 h2 h3 cc fc cl2 HC12 HRo12 HBo12 HB12 HM12 HM11 HB11
                have cc := HC13.out.cell (i := 0) rfl
                go_upto_region 29 with (first
                  | ((with_reducible refine gate_builtin (b := .append) (xs := #[.tmp 109, .tmp 111]) rfl ?_); at_builtin; (refine Kd.R_append kI (w0 := wx) wx.heap.size rfl (.tmp 109) (.tmp 111) 28 2 (.int .i64 0) 8 rfl Try.underlying28 infoQ_i64 rfl (by decide) (by omega) _ (WY.pathL F S.2 a k) ((n : Int)) [.int .i64 ((n : Int))] (fun j => j ≠ c) (fun _ => False) rfl rfl ?aP (fun _ hk => hk.elim) ?aF ?aO ?aB ?aS ?aL ?_; (case aP => exact rfl); (case aO => exact HR13.out); (case aB => exact HB13.out); (case aF => exact fun k hk => Nat.ne_of_gt (Nat.lt_of_lt_of_le HC13.out.lt hk)); (case aS => exact below_size HB13.out); (case aL => have := HLQ.out; omega); intro v1 w1 ho1 hb1 hg1 hat1; have HR14 := Lib.hid ho1; have HB14 := Lib.hid hb1; have HC14 : Hid (Blk w1 c [.int .i64 (n : Int)] 2) := Lib.hid ((hg1.block c HC13.out.lt (Kd.R_away HR13.out (fun _ hk => hk))).trans HC13.out); clear ho1 hb1 hg1 hat1)))
                have cc1 := HC14.out.cell (i := 0) rfl
                have hb15 := newBox w1 (.int .i64 (n : Int)) 2
                clear cc
                go_wp2
                go_roundw
                case rel => exact ⟨k + 1, w1.heap.size, by omega, rfl, HB14.out.size, by rw [HN3.out]; exact Lib.hid hb15.2, by rw [HN.out, HN3.out]; exact Lib.hid (Kd.R_below (Kd.R_mono (Kd.R_bound HR14.out) (fun k hk => Nat.ne_of_lt hk.2.2.1)) hb15.1), Lib.hid (below_then HB14.out HB14.out.size hb15.1)⟩
                case measure =>
                  simp only [lenV]
                  obtain ⟨A14, c14, rfl⟩ := Kd.R_slice HR14.out
                  simp only [List.length_append, List.length_singleton]
                  have h1 := HLQ.out
                  omega
              · obtain rfl : k = mm := by omega
                have hqq : S.2 (WY.pathC F S.2 a k) = 1 := by omega
                have hqb := HI2.out.one _ hqq
                rw [hqb] at cc
                have HR2 : Hid (wyRes F (a : Int) (b : Int) = (WY.pathL F S.2 a k, 0)) := Lib.hid (by rw [HR.out, HMM.out, show (((k : Int) + 1 - 1).toNat) = k by omega])
                go_wp2
                go_ret2
                exact ⟨_, by rw [HR2.out]; rfl, by rw [HR2.out]; exact Kd.R_lower (Kd.R_mono HRo.out (fun _ _ => trivial)) HCx.out.below.size, HCx.out.below.trans (HBo.out.mono HCx.out.below.size)⟩
    intro NACDEF
    refine join_ (σ := Nat × Nat × Value) 2 #[true, true, true, true, true, true, true, false, false] (fun s => [(37, .map (some (s.1))), (39, .map (some (s.1))), (41, (s.2.2)), (9, .pointer (some ⟨(s.2.1), 0, none⟩))]) (fun s w' => (Below g w3 w') ∧ (MapI w' (s.1) 1 (WY.upd (fun _ => 0) b 1)) ∧ (g ≤ (s.1)) ∧ (Kd.R kI 2 w' g (fun k => some k = (s.2.2).ownBlock) (s.2.2) [(b : Int)]) ∧ (Blk w' (s.2.1) [.map none] 50) ∧ (g ≤ (s.2.1)) ∧ ((s.1) ≠ (s.2.1)) ∧ (some (s.1) ≠ (s.2.2).ownBlock) ∧ (some (s.2.1) ≠ (s.2.2).ownBlock)) ?_ ?_
    · rintro ⟨m, p, vq⟩ wd ⟨hF0, hF1, hF2, hF3, hF4, hF5, hF6, hF7, hF8⟩
      simp only [putAll, Act.put, List.setIfInBounds_toArray, List.set_cons_zero, List.set_cons_succ]
      refine la_next (i := 7) #[true, true, true, true, true, true, true, true, false] rfl (by kernel_rfl) rfl ?_
      · have hcp := hF4.cell (i := 0) rfl
        have hfp := hF4.free 0
        refine ev_skip none rfl (wd.setCell ⟨p, 0, none⟩ (.map (some m))) (by first | (go_simp; done) | (go_simp; rfl)) (below_setCell hF0 hF5 0 _) ?_
        exact norm_ (by simp only [putAll, Act.put, List.setIfInBounds_toArray, List.set_cons_zero, List.set_cons_succ]) (NACDEF (m, p, vq) _ ⟨(below_setCell hF0 hF5 0 _), (hF1.setOther hF6), hF2, (Kd.R_far hF3 (p := ⟨p, 0, none⟩) (fun k hk e => hF8 (by rw [← hk]; exact congrArg some e.symm)) _), (hF4.set 0 (.map (some m))), hF5, hF6, hF7, hF8⟩)
    intro NACDE
    refine join_ (σ := Nat × Nat × Value) 2 #[true, true, true, true, true, false, true, true, false] (fun s => [(37, .map (some (s.1))), (39, .map (some (s.1))), (9, .pointer (some ⟨(s.2.1), 0, none⟩))]) (fun s w' => (Below g w3 w') ∧ (MapI w' (s.1) 1 (WY.upd (fun _ => 0) b 1)) ∧ (g ≤ (s.1)) ∧ (Blk w' (s.2.1) [.map (some (s.1))] 50) ∧ (g ≤ (s.2.1)) ∧ ((s.1) ≠ (s.2.1))) ?_ ?_
    · rintro ⟨m, p, vq⟩ wd ⟨hF0, hF1, hF2, hF3, hF4, hF5⟩
      simp only [putAll, Act.put, List.setIfInBounds_toArray, List.set_cons_zero, List.set_cons_succ]
      refine la_next (i := 5) #[true, true, true, true, true, true, true, true, false] rfl (by kernel_rfl) rfl ?_
      · have hgW : g ≤ wd.heap.size := Nat.le_trans (Nat.le_of_eq HG.out) (by have := hF0.size; exact this)
        refine ev_lit 41 rfl (by kernel_rfl) kI (w0 := w3) g 2 (xs := [(b : Int)]) (inner := [.int .i64 (b : Int)]) (ok := fun _ => True) (okp := fun _ => False) (by first | (go_simp; done) | (go_simp; rfl)) (Kd.reps_scalar _) (fun _ hk => hk.elim) trivial hF0 hgW (by simp) (fun v1 w1 ho hB2 hg hn => ⟨hB2, ?_⟩)
        have hb := below_grown_none hg
        exact norm_ (by simp only [putAll, Act.put, List.setIfInBounds_toArray, List.set_cons_zero, List.set_cons_succ]) (NACDEF (m, p, v1) _ ⟨hB2, (hF1.below hb), hF2, (Kd.R_tight rfl ho), (hF3.below hb hF3.lt), hF4, hF5, (own_new_ne hn hF1.lt), (own_new_ne hn hF3.lt)⟩)
    intro NACEF
    refine join_ (σ := Nat × Nat × Value) 3 #[true, true, true, true, true, true, false, false, false] (fun s => [(37, .map (some (s.1))), (39, .map (some (s.1))), (41, (s.2.2))]) (fun s w' => (Below g w3 w') ∧ (MapI w' (s.1) 1 (WY.upd (fun _ => 0) b 1)) ∧ (g ≤ (s.1)) ∧ (Kd.R kI 2 w' g (fun k => some k = (s.2.2).ownBlock) (s.2.2) [(b : Int)]) ∧ (some (s.1) ≠ (s.2.2).ownBlock)) ?_ ?_
    · rintro ⟨m, p, vq⟩ wd ⟨hF0, hF1, hF2, hF3, hF4⟩
      simp only [putAll, Act.put, List.setIfInBounds_toArray, List.set_cons_zero, List.set_cons_succ]
      refine la_next (i := 6) #[true, true, true, true, true, true, true, false, false] rfl (by kernel_rfl) rfl ?_
      · have hgW : g ≤ wd.heap.size := Nat.le_trans (Nat.le_of_eq HG.out) (by have := hF0.size; exact this)
        have hb : Below wd.heap.size wd (wd.alloc (.cells [Value.map none].toArray 50)) := (Below.refl _ _).alloc (Nat.le_refl _) _
        refine ev_value (some 9) rfl _ (wd.alloc (.cells [Value.map none].toArray 50)) (run_alloc1 rfl wd (zeroMap _) rfl) (below_then hF0 hgW hb) ?_
        exact norm_ (by simp only [putAll, Act.put, List.setIfInBounds_toArray, List.set_cons_zero, List.set_cons_succ]) (NACDE (m, wd.heap.size, vq) _ ⟨(below_then hF0 hgW hb), (hF1.below hb), hF2, (Kd.R_below hF3 hb), (Blk.new' _ _ _), hgW, (Nat.ne_of_lt hF1.lt), hF4, (fun e => Nat.lt_irrefl _ (Kd.R_lt hF3 _ e.symm))⟩)
    intro NACD
    refine join_ (σ := Nat × Nat × Value) 3 #[true, true, true, true, true, false, true, false, false] (fun s => [(37, .map (some (s.1))), (39, .map (some (s.1))), (9, .pointer (some ⟨(s.2.1), 0, none⟩))]) (fun s w' => (Below g w3 w') ∧ (MapI w' (s.1) 1 (WY.upd (fun _ => 0) b 1)) ∧ (g ≤ (s.1)) ∧ (Blk w' (s.2.1) [.map none] 50) ∧ (g ≤ (s.2.1)) ∧ ((s.1) ≠ (s.2.1))) ?_ ?_
    · rintro ⟨m, p, vq⟩ wd ⟨hF0, hF1, hF2, hF3, hF4, hF5⟩
      simp only [putAll, Act.put, List.setIfInBounds_toArray, List.set_cons_zero, List.set_cons_succ]
      refine la_two (i := 5) (j := 7) #[true, true, true, true, true, true, true, false, false] #[true, true, true, true, true, false, true, true, false] rfl rfl (by kernel_rfl) rfl rfl ?_ ?_
      · have hgW : g ≤ wd.heap.size := Nat.le_trans (Nat.le_of_eq HG.out) (by have := hF0.size; exact this)
        refine ev_lit 41 rfl (by kernel_rfl) kI (w0 := w3) g 2 (xs := [(b : Int)]) (inner := [.int .i64 (b : Int)]) (ok := fun _ => True) (okp := fun _ => False) (by first | (go_simp; done) | (go_simp; rfl)) (Kd.reps_scalar _) (fun _ hk => hk.elim) trivial hF0 hgW (by simp) (fun v1 w1 ho hB2 hg hn => ⟨hB2, ?_⟩)
        have hb := below_grown_none hg
        exact norm_ (by simp only [putAll, Act.put, List.setIfInBounds_toArray, List.set_cons_zero, List.set_cons_succ]) (NACDE (m, p, v1) _ ⟨hB2, (hF1.below hb), hF2, (Kd.R_tight rfl ho), (hF3.below hb hF3.lt), hF4, hF5, (own_new_ne hn hF1.lt), (own_new_ne hn hF3.lt)⟩)
      · have hcp := hF3.cell (i := 0) rfl
        have hfp := hF3.free 0
        refine ev_skip none rfl (wd.setCell ⟨p, 0, none⟩ (.map (some m))) (by first | (go_simp; done) | (go_simp; rfl)) (below_setCell hF0 hF4 0 _) ?_
        exact norm_ (by simp only [putAll, Act.put, List.setIfInBounds_toArray, List.set_cons_zero, List.set_cons_succ]) (NACEF (m, p, vq) _ ⟨(below_setCell hF0 hF4 0 _), (hF1.setOther hF5), hF2, (hF3.set 0 (.map (some m))), hF4, hF5⟩)
    intro NACE
    refine join_ (σ := Nat × Nat × Value) 4 #[true, true, false, false, true, true, true, false, false] (fun s => [(37, .map (some (s.1))), (41, (s.2.2)), (9, .pointer (some ⟨(s.2.1), 0, none⟩))]) (fun s w' => (Below g w3 w') ∧ (MapI w' (s.1) 0 (fun _ => 0)) ∧ (g ≤ (s.1)) ∧ (Kd.R kI 2 w' g (fun k => some k = (s.2.2).ownBlock) (s.2.2) [(b : Int)]) ∧ (Blk w' (s.2.1) [.map none] 50) ∧ (g ≤ (s.2.1)) ∧ ((s.1) ≠ (s.2.1)) ∧ (some (s.1) ≠ (s.2.2).ownBlock) ∧ (some (s.2.1) ≠ (s.2.2).ownBlock)) ?_ ?_
    · rintro ⟨m, p, vq⟩ wd ⟨hF0, hF1, hF2, hF3, hF4, hF5, hF6, hF7, hF8⟩
      simp only [putAll, Act.put, List.setIfInBounds_toArray, List.set_cons_zero, List.set_cons_succ]
      refine la_next (i := 2) #[true, true, true, false, true, true, true, false, false] rfl (by kernel_rfl) rfl ?_
      · have hgW : g ≤ wd.heap.size := Nat.le_trans (Nat.le_of_eq HG.out) (by have := hF0.size; exact this)
        obtain ⟨w2, hrun, hM2, hg⟩ := hF1.put (by omega) hb100 (v := 0) (by omega) (by omega)
        have hB2 : Below g w3 w2 := pw_below_grown hF0 (some m) hgW hg (fun k hk => by injection hk with hk; rw [← hk]; exact hF2)
        refine ev_skip none rfl w2 (run_insert rfl (vm := .map (some m)) (vk := .int .i64 (b : Int)) (vx := .int .i64 0) (by kernel_rfl) (by kernel_rfl) (by kernel_rfl) hrun) hB2 ?_
        try simp only [Act.put, List.setIfInBounds_toArray, List.set_cons_zero, List.set_cons_succ]
        refine la_fmove (i := 3) #[true, true, true, true, true, true, true, false, false] (some 39) rfl rfl (by kernel_rfl) hPB rfl (.tmp 37) rfl (.map (some m)) (by kernel_rfl) ?_
        exact norm_ (by simp only [putAll, Act.put, List.setIfInBounds_toArray, List.set_cons_zero, List.set_cons_succ]) (NACDE (m, p, vq) _ ⟨hB2, hM2, hF2, (Kd.R_grown hF3 hg (fun k hk e => hF7 (by rw [← hk, e]))), ((hg.block p hF4.lt (fun e => hF6 (by injection e with e; exact e.symm))).trans hF4), hF5, hF6, hF7, hF8⟩)
    intro NADE
    refine join_ (σ := Nat × Nat × Value) 4 #[true, true, true, true, true, false, false, false, false] (fun s => [(37, .map (some (s.1))), (39, .map (some (s.1)))]) (fun s w' => (Below g w3 w') ∧ (MapI w' (s.1) 1 (WY.upd (fun _ => 0) b 1)) ∧ (g ≤ (s.1))) ?_ ?_
    · rintro ⟨m, p, vq⟩ wd ⟨hF0, hF1, hF2⟩
      simp only [putAll, Act.put, List.setIfInBounds_toArray, List.set_cons_zero, List.set_cons_succ]
      refine la_two (i := 5) (j := 6) #[true, true, true, true, true, true, false, false, false] #[true, true, true, true, true, false, true, false, false] rfl rfl (by kernel_rfl) rfl rfl ?_ ?_
      · have hgW : g ≤ wd.heap.size := Nat.le_trans (Nat.le_of_eq HG.out) (by have := hF0.size; exact this)
        refine ev_lit 41 rfl (by kernel_rfl) kI (w0 := w3) g 2 (xs := [(b : Int)]) (inner := [.int .i64 (b : Int)]) (ok := fun _ => True) (okp := fun _ => False) (by first | (go_simp; done) | (go_simp; rfl)) (Kd.reps_scalar _) (fun _ hk => hk.elim) trivial hF0 hgW (by simp) (fun v1 w1 ho hB2 hg hn => ⟨hB2, ?_⟩)
        have hb := below_grown_none hg
        exact norm_ (by simp only [putAll, Act.put, List.setIfInBounds_toArray, List.set_cons_zero, List.set_cons_succ]) (NACD (m, p, v1) _ ⟨hB2, (hF1.below hb), hF2, (Kd.R_tight rfl ho), (own_new_ne hn hF1.lt)⟩)
      · have hgW : g ≤ wd.heap.size := Nat.le_trans (Nat.le_of_eq HG.out) (by have := hF0.size; exact this)
        have hb : Below wd.heap.size wd (wd.alloc (.cells [Value.map none].toArray 50)) := (Below.refl _ _).alloc (Nat.le_refl _) _
        refine ev_value (some 9) rfl _ (wd.alloc (.cells [Value.map none].toArray 50)) (run_alloc1 rfl wd (zeroMap _) rfl) (below_then hF0 hgW hb) ?_
        exact norm_ (by simp only [putAll, Act.put, List.setIfInBounds_toArray, List.set_cons_zero, List.set_cons_succ]) (NACE (m, wd.heap.size, vq) _ ⟨(below_then hF0 hgW hb), (hF1.below hb), hF2, (Blk.new' _ _ _), hgW, (Nat.ne_of_lt hF1.lt)⟩)
    intro NAC
    refine join_ (σ := Nat × Nat × Value) 5 #[true, true, false, false, true, true, false, false, false] (fun s => [(37, .map (some (s.1))), (41, (s.2.2))]) (fun s w' => (Below g w3 w') ∧ (MapI w' (s.1) 0 (fun _ => 0)) ∧ (g ≤ (s.1)) ∧ (Kd.R kI 2 w' g (fun k => some k = (s.2.2).ownBlock) (s.2.2) [(b : Int)]) ∧ (some (s.1) ≠ (s.2.2).ownBlock)) ?_ ?_
    · rintro ⟨m, p, vq⟩ wd ⟨hF0, hF1, hF2, hF3, hF4⟩
      simp only [putAll, Act.put, List.setIfInBounds_toArray, List.set_cons_zero, List.set_cons_succ]
      refine la_two (i := 2) (j := 6) #[true, true, true, false, true, true, false, false, false] #[true, true, false, false, true, true, true, false, false] rfl rfl (by kernel_rfl) rfl rfl ?_ ?_
      · have hgW : g ≤ wd.heap.size := Nat.le_trans (Nat.le_of_eq HG.out) (by have := hF0.size; exact this)
        obtain ⟨w2, hrun, hM2, hg⟩ := hF1.put (by omega) hb100 (v := 0) (by omega) (by omega)
        have hB2 : Below g w3 w2 := pw_below_grown hF0 (some m) hgW hg (fun k hk => by injection hk with hk; rw [← hk]; exact hF2)
        refine ev_skip none rfl w2 (run_insert rfl (vm := .map (some m)) (vk := .int .i64 (b : Int)) (vx := .int .i64 0) (by kernel_rfl) (by kernel_rfl) (by kernel_rfl) hrun) hB2 ?_
        try simp only [Act.put, List.setIfInBounds_toArray, List.set_cons_zero, List.set_cons_succ]
        refine la_fmove (i := 3) #[true, true, true, true, true, true, false, false, false] (some 39) rfl rfl (by kernel_rfl) hPB rfl (.tmp 37) rfl (.map (some m)) (by kernel_rfl) ?_
        exact norm_ (by simp only [putAll, Act.put, List.setIfInBounds_toArray, List.set_cons_zero, List.set_cons_succ]) (NACD (m, p, vq) _ ⟨hB2, hM2, hF2, (Kd.R_grown hF3 hg (fun k hk e => hF4 (by rw [← hk, e]))), hF4⟩)
      · have hgW : g ≤ wd.heap.size := Nat.le_trans (Nat.le_of_eq HG.out) (by have := hF0.size; exact this)
        have hb : Below wd.heap.size wd (wd.alloc (.cells [Value.map none].toArray 50)) := (Below.refl _ _).alloc (Nat.le_refl _) _
        refine ev_value (some 9) rfl _ (wd.alloc (.cells [Value.map none].toArray 50)) (run_alloc1 rfl wd (zeroMap _) rfl) (below_then hF0 hgW hb) ?_
        exact norm_ (by simp only [putAll, Act.put, List.setIfInBounds_toArray, List.set_cons_zero, List.set_cons_succ]) (NADE (m, wd.heap.size, vq) _ ⟨(below_then hF0 hgW hb), (hF1.below hb), hF2, (Kd.R_below hF3 hb), (Blk.new' _ _ _), hgW, (Nat.ne_of_lt hF1.lt), hF4, (fun e => Nat.lt_irrefl _ (Kd.R_lt hF3 _ e.symm))⟩)
    intro NAD
    refine join_ (σ := Nat × Nat × Value) 5 #[true, true, false, false, true, false, true, false, false] (fun s => [(37, .map (some (s.1))), (9, .pointer (some ⟨(s.2.1), 0, none⟩))]) (fun s w' => (Below g w3 w') ∧ (MapI w' (s.1) 0 (fun _ => 0)) ∧ (g ≤ (s.1)) ∧ (Blk w' (s.2.1) [.map none] 50) ∧ (g ≤ (s.2.1)) ∧ ((s.1) ≠ (s.2.1))) ?_ ?_
    · rintro ⟨m, p, vq⟩ wd ⟨hF0, hF1, hF2, hF3, hF4, hF5⟩
      simp only [putAll, Act.put, List.setIfInBounds_toArray, List.set_cons_zero, List.set_cons_succ]
      refine la_two (i := 2) (j := 5) #[true, true, true, false, true, false, true, false, false] #[true, true, false, false, true, true, true, false, false] rfl rfl (by kernel_rfl) rfl rfl ?_ ?_
      · have hgW : g ≤ wd.heap.size := Nat.le_trans (Nat.le_of_eq HG.out) (by have := hF0.size; exact this)
        obtain ⟨w2, hrun, hM2, hg⟩ := hF1.put (by omega) hb100 (v := 0) (by omega) (by omega)
        have hB2 : Below g w3 w2 := pw_below_grown hF0 (some m) hgW hg (fun k hk => by injection hk with hk; rw [← hk]; exact hF2)
        refine ev_skip none rfl w2 (run_insert rfl (vm := .map (some m)) (vk := .int .i64 (b : Int)) (vx := .int .i64 0) (by kernel_rfl) (by kernel_rfl) (by kernel_rfl) hrun) hB2 ?_
        try simp only [Act.put, List.setIfInBounds_toArray, List.set_cons_zero, List.set_cons_succ]
        refine la_fmove (i := 3) #[true, true, true, true, true, false, true, false, false] (some 39) rfl rfl (by kernel_rfl) hPB rfl (.tmp 37) rfl (.map (some m)) (by kernel_rfl) ?_
        exact norm_ (by simp only [putAll, Act.put, List.setIfInBounds_toArray, List.set_cons_zero, List.set_cons_succ]) (NACE (m, p, vq) _ ⟨hB2, hM2, hF2, ((hg.block p hF3.lt (fun e => hF5 (by injection e with e; exact e.symm))).trans hF3), hF4, hF5⟩)
      · have hgW : g ≤ wd.heap.size := Nat.le_trans (Nat.le_of_eq HG.out) (by have := hF0.size; exact this)
        refine ev_lit 41 rfl (by kernel_rfl) kI (w0 := w3) g 2 (xs := [(b : Int)]) (inner := [.int .i64 (b : Int)]) (ok := fun _ => True) (okp := fun _ => False) (by first | (go_simp; done) | (go_simp; rfl)) (Kd.reps_scalar _) (fun _ hk => hk.elim) trivial hF0 hgW (by simp) (fun v1 w1 ho hB2 hg hn => ⟨hB2, ?_⟩)
        have hb := below_grown_none hg
        exact norm_ (by simp only [putAll, Act.put, List.setIfInBounds_toArray, List.set_cons_zero, List.set_cons_succ]) (NADE (m, p, v1) _ ⟨hB2, (hF1.below hb), hF2, (Kd.R_tight rfl ho), (hF3.below hb hF3.lt), hF4, hF5, (own_new_ne hn hF1.lt), (own_new_ne hn hF3.lt)⟩)
    intro NAE
    refine join_ (σ := Nat × Nat × Value) 5 #[false, true, false, false, true, true, true, false, false] (fun s => [(41, (s.2.2)), (9, .pointer (some ⟨(s.2.1), 0, none⟩))]) (fun s w' => (Below g w3 w') ∧ (Kd.R kI 2 w' g (fun k => some k = (s.2.2).ownBlock) (s.2.2) [(b : Int)]) ∧ (Blk w' (s.2.1) [.map none] 50) ∧ (g ≤ (s.2.1)) ∧ (some (s.2.1) ≠ (s.2.2).ownBlock)) ?_ ?_
    · rintro ⟨m, p, vq⟩ wd ⟨hF0, hF1, hF2, hF3, hF4⟩
      simp only [putAll, Act.put, List.setIfInBounds_toArray, List.set_cons_zero, List.set_cons_succ]
      refine la_next (i := 0) #[true, true, false, false, true, true, true, false, false] rfl (by kernel_rfl) rfl ?_
      · have hgW : g ≤ wd.heap.size := Nat.le_trans (Nat.le_of_eq HG.out) (by have := hF0.size; exact this)
        have hb : Below wd.heap.size wd (wd.alloc (.map #[] 0)) := (Below.refl _ _).alloc (Nat.le_refl _) _
        refine ev_value (some 37) rfl _ _ (run_makeMap rfl wd) (below_then hF0 hgW hb) ?_
        exact norm_ (by simp only [putAll, Act.put, List.setIfInBounds_toArray, List.set_cons_zero, List.set_cons_succ]) (NADE (wd.heap.size, p, vq) _ ⟨(below_then hF0 hgW hb), MapI.made _, hgW, (Kd.R_below hF1 hb), (hF2.below hb hF2.lt), hF3, (Nat.ne_of_gt hF2.lt), (fun e => Nat.lt_irrefl _ (Kd.R_lt hF1 _ e.symm)), hF4⟩)
    intro NDE
    refine join_ (σ := Nat × Nat × Value) 6 #[true, true, false, false, true, false, false, false, false] (fun s => [(37, .map (some (s.1)))]) (fun s w' => (Below g w3 w') ∧ (MapI w' (s.1) 0 (fun _ => 0)) ∧ (g ≤ (s.1))) ?_ ?_
    · rintro ⟨m, p, vq⟩ wd ⟨hF0, hF1, hF2⟩
      simp only [putAll, Act.put, List.setIfInBounds_toArray, List.set_cons_zero, List.set_cons_succ]
      refine la_three (i := 2) (j := 5) (k := 6) #[true, true, true, false, true, false, false, false, false] #[true, true, false, false, true, true, false, false, false] #[true, true, false, false, true, false, true, false, false] rfl rfl rfl (by kernel_rfl) rfl rfl rfl ?_ ?_ ?_
      · have hgW : g ≤ wd.heap.size := Nat.le_trans (Nat.le_of_eq HG.out) (by have := hF0.size; exact this)
        obtain ⟨w2, hrun, hM2, hg⟩ := hF1.put (by omega) hb100 (v := 0) (by omega) (by omega)
        have hB2 : Below g w3 w2 := pw_below_grown hF0 (some m) hgW hg (fun k hk => by injection hk with hk; rw [← hk]; exact hF2)
        refine ev_skip none rfl w2 (run_insert rfl (vm := .map (some m)) (vk := .int .i64 (b : Int)) (vx := .int .i64 0) (by kernel_rfl) (by kernel_rfl) (by kernel_rfl) hrun) hB2 ?_
        try simp only [Act.put, List.setIfInBounds_toArray, List.set_cons_zero, List.set_cons_succ]
        refine la_fmove (i := 3) #[true, true, true, true, true, false, false, false, false] (some 39) rfl rfl (by kernel_rfl) hPB rfl (.tmp 37) rfl (.map (some m)) (by kernel_rfl) ?_
        exact norm_ (by simp only [putAll, Act.put, List.setIfInBounds_toArray, List.set_cons_zero, List.set_cons_succ]) (NAC (m, p, vq) _ ⟨hB2, hM2, hF2⟩)
      · have hgW : g ≤ wd.heap.size := Nat.le_trans (Nat.le_of_eq HG.out) (by have := hF0.size; exact this)
        refine ev_lit 41 rfl (by kernel_rfl) kI (w0 := w3) g 2 (xs := [(b : Int)]) (inner := [.int .i64 (b : Int)]) (ok := fun _ => True) (okp := fun _ => False) (by first | (go_simp; done) | (go_simp; rfl)) (Kd.reps_scalar _) (fun _ hk => hk.elim) trivial hF0 hgW (by simp) (fun v1 w1 ho hB2 hg hn => ⟨hB2, ?_⟩)
        have hb := below_grown_none hg
        exact norm_ (by simp only [putAll, Act.put, List.setIfInBounds_toArray, List.set_cons_zero, List.set_cons_succ]) (NAD (m, p, v1) _ ⟨hB2, (hF1.below hb), hF2, (Kd.R_tight rfl ho), (own_new_ne hn hF1.lt)⟩)
      · have hgW : g ≤ wd.heap.size := Nat.le_trans (Nat.le_of_eq HG.out) (by have := hF0.size; exact this)
        have hb : Below wd.heap.size wd (wd.alloc (.cells [Value.map none].toArray 50)) := (Below.refl _ _).alloc (Nat.le_refl _) _
        refine ev_value (some 9) rfl _ (wd.alloc (.cells [Value.map none].toArray 50)) (run_alloc1 rfl wd (zeroMap _) rfl) (below_then hF0 hgW hb) ?_
        exact norm_ (by simp only [putAll, Act.put, List.setIfInBounds_toArray, List.set_cons_zero, List.set_cons_succ]) (NAE (m, wd.heap.size, vq) _ ⟨(below_then hF0 hgW hb), (hF1.below hb), hF2, (Blk.new' _ _ _), hgW, (Nat.ne_of_lt hF1.lt)⟩)
    intro NA
    refine join_ (σ := Nat × Nat × Value) 6 #[false, true, false, false, true, true, false, false, false] (fun s => [(41, (s.2.2))]) (fun s w' => (Below g w3 w') ∧ (Kd.R kI 2 w' g (fun k => some k = (s.2.2).ownBlock) (s.2.2) [(b : Int)])) ?_ ?_
    · rintro ⟨m, p, vq⟩ wd ⟨hF0, hF1⟩
      simp only [putAll, Act.put, List.setIfInBounds_toArray, List.set_cons_zero, List.set_cons_succ]
      refine la_two (i := 0) (j := 6) #[true, true, false, false, true, true, false, false, false] #[false, true, false, false, true, true, true, false, false] rfl rfl (by kernel_rfl) rfl rfl ?_ ?_
      · have hgW : g ≤ wd.heap.size := Nat.le_trans (Nat.le_of_eq HG.out) (by have := hF0.size; exact this)
        have hb : Below wd.heap.size wd (wd.alloc (.map #[] 0)) := (Below.refl _ _).alloc (Nat.le_refl _) _
        refine ev_value (some 37) rfl _ _ (run_makeMap rfl wd) (below_then hF0 hgW hb) ?_
        exact norm_ (by simp only [putAll, Act.put, List.setIfInBounds_toArray, List.set_cons_zero, List.set_cons_succ]) (NAD (wd.heap.size, p, vq) _ ⟨(below_then hF0 hgW hb), MapI.made _, hgW, (Kd.R_below hF1 hb), (fun e => Nat.lt_irrefl _ (Kd.R_lt hF1 _ e.symm))⟩)
      · have hgW : g ≤ wd.heap.size := Nat.le_trans (Nat.le_of_eq HG.out) (by have := hF0.size; exact this)
        have hb : Below wd.heap.size wd (wd.alloc (.cells [Value.map none].toArray 50)) := (Below.refl _ _).alloc (Nat.le_refl _) _
        refine ev_value (some 9) rfl _ (wd.alloc (.cells [Value.map none].toArray 50)) (run_alloc1 rfl wd (zeroMap _) rfl) (below_then hF0 hgW hb) ?_
        exact norm_ (by simp only [putAll, Act.put, List.setIfInBounds_toArray, List.set_cons_zero, List.set_cons_succ]) (NDE (m, wd.heap.size, vq) _ ⟨(below_then hF0 hgW hb), (Kd.R_below hF1 hb), (Blk.new' _ _ _), hgW, (fun e => Nat.lt_irrefl _ (Kd.R_lt hF1 _ e.symm))⟩)
    intro ND
    refine join_ (σ := Nat × Nat × Value) 6 #[false, true, false, false, true, false, true, false, false] (fun s => [(9, .pointer (some ⟨(s.2.1), 0, none⟩))]) (fun s w' => (Below g w3 w') ∧ (Blk w' (s.2.1) [.map none] 50) ∧ (g ≤ (s.2.1))) ?_ ?_
    · rintro ⟨m, p, vq⟩ wd ⟨hF0, hF1, hF2⟩
      simp only [putAll, Act.put, List.setIfInBounds_toArray, List.set_cons_zero, List.set_cons_succ]
      refine la_two (i := 0) (j := 5) #[true, true, false, false, true, false, true, false, false] #[false, true, false, false, true, true, true, false, false] rfl rfl (by kernel_rfl) rfl rfl ?_ ?_
      · have hgW : g ≤ wd.heap.size := Nat.le_trans (Nat.le_of_eq HG.out) (by have := hF0.size; exact this)
        have hb : Below wd.heap.size wd (wd.alloc (.map #[] 0)) := (Below.refl _ _).alloc (Nat.le_refl _) _
        refine ev_value (some 37) rfl _ _ (run_makeMap rfl wd) (below_then hF0 hgW hb) ?_
        exact norm_ (by simp only [putAll, Act.put, List.setIfInBounds_toArray, List.set_cons_zero, List.set_cons_succ]) (NAE (wd.heap.size, p, vq) _ ⟨(below_then hF0 hgW hb), MapI.made _, hgW, (hF1.below hb hF1.lt), hF2, (Nat.ne_of_gt hF1.lt)⟩)
      · have hgW : g ≤ wd.heap.size := Nat.le_trans (Nat.le_of_eq HG.out) (by have := hF0.size; exact this)
        refine ev_lit 41 rfl (by kernel_rfl) kI (w0 := w3) g 2 (xs := [(b : Int)]) (inner := [.int .i64 (b : Int)]) (ok := fun _ => True) (okp := fun _ => False) (by first | (go_simp; done) | (go_simp; rfl)) (Kd.reps_scalar _) (fun _ hk => hk.elim) trivial hF0 hgW (by simp) (fun v1 w1 ho hB2 hg hn => ⟨hB2, ?_⟩)
        have hb := below_grown_none hg
        exact norm_ (by simp only [putAll, Act.put, List.setIfInBounds_toArray, List.set_cons_zero, List.set_cons_succ]) (NDE (m, p, v1) _ ⟨hB2, (Kd.R_tight rfl ho), (hF1.below hb hF1.lt), hF2, (own_new_ne hn hF1.lt)⟩)
    intro NE
    refine la_three (i := 0) (j := 5) (k := 6) #[true, true, false, false, true, false, false, false, false] #[false, true, false, false, true, true, false, false, false] #[false, true, false, false, true, false, true, false, false] rfl rfl rfl (by kernel_rfl) rfl rfl rfl ?_ ?_ ?_
    · have hgW : g ≤ wd.heap.size := Nat.le_trans (Nat.le_of_eq HG.out) (by have := hF0.size; exact this)
      have hb : Below wd.heap.size wd (wd.alloc (.map #[] 0)) := (Below.refl _ _).alloc (Nat.le_refl _) _
      refine ev_value (some 37) rfl _ _ (run_makeMap rfl wd) (below_then hF0 hgW hb) ?_
      exact norm_ (by simp only [putAll, Act.put, List.setIfInBounds_toArray, List.set_cons_zero, List.set_cons_succ]) (NA (wd.heap.size, p, vq) _ ⟨(below_then hF0 hgW hb), MapI.made _, hgW⟩)
    · have hgW : g ≤ wd.heap.size := Nat.le_trans (Nat.le_of_eq HG.out) (by have := hF0.size; exact this)
      refine ev_lit 41 rfl (by kernel_rfl) kI (w0 := w3) g 2 (xs := [(b : Int)]) (inner := [.int .i64 (b : Int)]) (ok := fun _ => True) (okp := fun _ => False) (by first | (go_simp; done) | (go_simp; rfl)) (Kd.reps_scalar _) (fun _ hk => hk.elim) trivial hF0 hgW (by simp) (fun v1 w1 ho hB2 hg hn => ⟨hB2, ?_⟩)
      have hb := below_grown_none hg
      exact norm_ (by simp only [putAll, Act.put, List.setIfInBounds_toArray, List.set_cons_zero, List.set_cons_succ]) (ND (m, p, v1) _ ⟨hB2, (Kd.R_tight rfl ho)⟩)
    · have hgW : g ≤ wd.heap.size := Nat.le_trans (Nat.le_of_eq HG.out) (by have := hF0.size; exact this)
      have hb : Below wd.heap.size wd (wd.alloc (.cells [Value.map none].toArray 50)) := (Below.refl _ _).alloc (Nat.le_refl _) _
      refine ev_value (some 9) rfl _ (wd.alloc (.cells [Value.map none].toArray 50)) (run_alloc1 rfl wd (zeroMap _) rfl) (below_then hF0 hgW hb) ?_
      exact norm_ (by simp only [putAll, Act.put, List.setIfInBounds_toArray, List.set_cons_zero, List.set_cons_succ]) (NE (m, wd.heap.size, vq) _ ⟨(below_then hF0 hgW hb), (Blk.new' _ _ _), hgW⟩)
end Go.Proofs.Ytinpmhmagcmamaa
