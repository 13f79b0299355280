/- MinutesOf, by the program and by the reference: the same. No condition but that the numbers are within their kinds. -/
import Derived.Test.YtmhkechkkpppaaaB9
namespace Go.Proofs.Ytmhkechkkpppaaa
open Go.RowKit Go.Proofs.YtmhkechkkpppaaaW.PrintWords Go.Proofs.YtmhkechkkpppaaaW.PrintLast Go.Proofs.YtmhkechkkpppaaaW.PrintMore Go.Proofs.Ytmhkechkkpppaaa.PAll
set_option linter.unusedSimpArgs false
set_option linter.unusedVariables false

def moB (F : Fld) (s c : Int) : Bool := inB s 0 50 && F.has c
/-- The minutes in which a cell is seen, and the code. -/
noncomputable def moRes (F : Fld) (b : List Int) (s c : Int) : List Int × Int := if codeB F b (moB F s c) = 0 then (Gap.lst (seenB b s c 1) b.length, 0) else ([], codeB F b (moB F s c))
theorem moRes_len (F : Fld) (b : List Int) (s c : Int) : (moRes F b s c).1.length ≤ 1048576 := by
  unfold moRes
  split
  · rename_i h
    have h1 := (beat_cells (codeB_zero h).1).2.1
    have h2 := Gap.lst_len (seenB b s c 1) b.length
    show (Gap.lst (seenB b s c 1) b.length).length ≤ _
    omega
  · simp
theorem moClo_any (F : Fld) (hF : F.Ok) (s c : Int) (g d1 d2 : Nat) (w : World) (hf : IsF w g F) (h1 : Blk w d1 [.int .i64 s] 2) (h2 : Blk w d2 [.int .i64 c] 2) :
    Calls Try.prog 65 #[.pointer (some ⟨d1, 0, none⟩), .pointer (some ⟨g, 0, none⟩), .pointer (some ⟨d2, 0, none⟩)] w fun e w' => e = .returned (.bool (moB F s c)) ∧ Below w.heap.size w w' := by
  have c1 := h1.cell (i := 0) rfl
  have c2 := h2.cell (i := 0) rfl
  have HF := Lib.hid hf
  have HO := Lib.hid hF
  clear h1 h2 hf hF
  unfold moB
  cases hs : inB s 0 50
  · have HS := Lib.hid hs
    clear hs
    go_enter Try.func65, Try.ntmps65
    go_wp2_with (go_at_call 54; refine (isSight_any _ _).mono ?_; rintro e w' ⟨rfl, rfl⟩; rw [HS.out])
    go_ret
    exact ⟨rfl, Below.refl _ _⟩
  · have HS := Lib.hid hs
    clear hs
    go_enter Try.func65, Try.ntmps65
    go_wp2_with (first
      | (go_at_call 54; refine (isSight_any _ _).mono ?_; rintro e w' ⟨rfl, rfl⟩; rw [HS.out])
      | (go_at_call 66; refine (has_any F _ _ _ HF.out HO.out).mono ?_; rintro e w' ⟨rfl, rfl⟩))
    go_ret
    exact ⟨by rw [Bool.true_and]; rfl, Below.refl _ _⟩


theorem mo_in {F : Fld} {b : List Int} {s c : Int} (h : codeB F b (moB F s c) = 0) : BtIn b c 1 := by
  obtain ⟨hv, hq⟩ := codeB_zero h
  unfold moB at hq
  rw [Bool.and_eq_true] at hq
  exact (btIn_of (wt := 1) hv hq.2 (by decide)).1
set_option maxHeartbeats 2000000 in
theorem iMinutesOf_any (F : Fld) (hF : F.Ok) (b : List Int) (hb : BtOk b) (s c : Int) (A : Option Addr) (n : Nat) (w : World) (hA : BtAt w A b) (hlc : b.length ≤ n) :
    Calls Try.prog 28 #[.agg F.vals.toArray, .slice A b.length n, .int .i64 s, .int .i64 c] w fun e w' => ∃ v : Value, e = .returned (.tuple #[v, .int .i64 (moRes F b s c).2]) ∧ Made w w' (moRes F b s c).1 v ∧ Below w.heap.size w w' := by
  have HO := Lib.hid hF
  have HBO := Lib.hid hb
  have HA := Lib.hid hA
  have HLC := Lib.hid hlc
  clear hF hb hA hlc
  have hmf : ∀ (fn : Fn) (first cap : Array Value) (w : World), (Instr.makeFunc fn first cap).run Try.prog w = .ok (.func fn first cap) w := fun _ _ _ _ => rfl
  go_enter Try.func28, Try.ntmps28
  go_upto_region 1 with (fail)
  obtain ⟨W, hW⟩ : ∃ W, W = ((w.alloc (.cells F.vals.toArray 32)).alloc (.cells [Value.int .i64 s].toArray 2)).alloc (.cells [Value.int .i64 c].toArray 2) := ⟨_, rfl⟩
  have HC := Lib.hid (boxed3 w F.vals [.int .i64 s] [.int .i64 c] 32 2 2)
  rw [← hW] at HC ⊢
  clear hW
  by_cases hq : codeB F b (moB F s c) = 0
  · have HQ := Lib.hid hq
    have HI := Lib.hid (mo_in hq)
    have HR : Hid (moRes F b s c = (Gap.lst (seenB b s c 1) b.length, 0)) := Lib.hid (by unfold moRes; rw [if_pos hq])
    clear hq
    go_wp2_with (first
      | (go_at_call 52; refine (beatCode_any F HO.out b HBO.out _ A n 65 _ (moB F s c) _ (HC.out.blk (w.heap.size, F.vals, 32) (by simp)) (Kd.C_below HA.out HC.out.below) (enters_of Try.func65 (by kernel_rfl) rfl) (fun _ w1 hb => moClo_any F HO.out s c _ _ _ w1 ((HC.out.step hb).blk (w.heap.size, F.vals, 32) (by simp)) ((HC.out.step hb).blk (w.heap.size + 1, [.int .i64 s], 2) (by simp)) ((HC.out.step hb).blk (w.heap.size + 1 + 1, [.int .i64 c], 2) (by simp)))).mono ?_; rintro e w2 ⟨rfl, hb⟩; rw [HQ.out]; have HC1 := Lib.hid (HC.out.step hb); clear hb; have k1 : w2.cell? ⟨w.heap.size + 1, 0, none⟩ = some (.int .i64 s) := (HC1.out.blk (w.heap.size + 1, [.int .i64 s], 2) (by simp)).cell rfl; have k2 : w2.cell? ⟨w.heap.size + 1 + 1, 0, none⟩ = some (.int .i64 c) := (HC1.out.blk (w.heap.size + 1 + 1, [.int .i64 c], 2) (by simp)).cell rfl)
      | (go_at_call 62; refine (minC_any HI.out s A n _ (Kd.C_below HA.out HC1.out.below) HLC.out).mono ?_; rintro e w3 ⟨v3, rfl, hm, hb⟩; have HM := Lib.hid (Kd.R_lower hm HC1.out.below.size); have HC2 := Lib.hid (HC1.out.step hb); clear hb hm))
    go_ret2
    exact ⟨v3, by rw [HR.out]; rfl, by rw [HR.out]; exact HM.out, HC2.out.below⟩
  · have HR : Hid (moRes F b s c = ([], codeB F b (moB F s c))) := Lib.hid (by unfold moRes; rw [if_neg hq])
    have hq' : (codeB F b (moB F s c) != 0) = true := by simpa using hq
    go_wp2_with (first
      | (go_at_call 52; refine (beatCode_any F HO.out b HBO.out _ A n 65 _ (moB F s c) _ (HC.out.blk (w.heap.size, F.vals, 32) (by simp)) (Kd.C_below HA.out HC.out.below) (enters_of Try.func65 (by kernel_rfl) rfl) (fun _ w1 hb => moClo_any F HO.out s c _ _ _ w1 ((HC.out.step hb).blk (w.heap.size, F.vals, 32) (by simp)) ((HC.out.step hb).blk (w.heap.size + 1, [.int .i64 s], 2) (by simp)) ((HC.out.step hb).blk (w.heap.size + 1 + 1, [.int .i64 c], 2) (by simp)))).mono ?_; rintro e w2 ⟨rfl, hb⟩; have HC1 := Lib.hid (HC.out.step hb); clear hb; have k1 : w2.cell? ⟨w.heap.size + 1, 0, none⟩ = some (.int .i64 s) := (HC1.out.blk (w.heap.size + 1, [.int .i64 s], 2) (by simp)).cell rfl; have k2 : w2.cell? ⟨w.heap.size + 1 + 1, 0, none⟩ = some (.int .i64 c) := (HC1.out.blk (w.heap.size + 1 + 1, [.int .i64 c], 2) (by simp)).cell rfl))
    go_ret2
    exact ⟨.slice none 0 0, by rw [HR.out]; rfl, by rw [HR.out]; exact Kd.R_nil _ _ _ _ _, HC1.out.below⟩


theorem info_i64' : (Try.prog.info? 2).map (fun i => (i.zero, i.size, i.bytes)) = some (some (.int .i64 0), 1, 8) := by kernel_rfl
theorem sseenC_any {b : List Int} {c : Int} {wt : Nat} (h : BtIn b c wt) (s : Int) (A : Option Addr) (n : Nat) (w : World) (hA : BtAt w A b) (hc : b.length ≤ n) :
    Calls Try.prog 64 #[.slice A b.length n, .int .i64 s, .int .i64 c, .int .i64 (wt : Int)] w fun e w' => ∃ (A2 : Option Addr) (c2 : Nat), e = .returned (.slice A2 b.length c2) ∧ Kd.C Kd.bool w' A2 b.length (seenL b s c wt b.length false) ∧ Below w.heap.size w w' := by
  refine (spec_l05Seen.calls (1 + b.length * (wt + 2)) A n b s c wt _ w hA hc (seen_f h _ (Nat.le_refl _))).mono ?_
  rintro e w' ⟨v, rfl, hm, hb⟩
  obtain ⟨A2, c2, hv⟩ := Kd.R_slice hm
  subst hv
  have h1 := (Kd.R_reads' hm).2.2
  rw [seenL_len] at h1 ⊢
  exact ⟨A2, c2, rfl, h1, hb⟩
set_option maxHeartbeats 4000000 in
theorem sMinutesOf_any (F : Fld) (hF : F.Ok) (b : List Int) (hb : BtOk b) (s c : Int) (A : Option Addr) (n : Nat) (w : World) (hA : BtAt w A b) (hlc : b.length ≤ n) :
    Calls Try.prog 27 #[.agg F.vals.toArray, .slice A b.length n, .int .i64 s, .int .i64 c] w fun e w' => ∃ v : Value, e = .returned (.tuple #[v, .int .i64 (moRes F b s c).2]) ∧ Made w w' (moRes F b s c).1 v ∧ Below w.heap.size w w' := by
  have HO := Lib.hid hF
  have HBO := Lib.hid hb
  have HA := Lib.hid hA
  have HLC := Lib.hid hlc
  have HWB : Hid ((inB s 0 50 && F.has c) = moB F s c) := Lib.hid rfl
  clear hF hb hA hlc
  go_enter Try.func27, Try.ntmps27
  go_upto_region 1 with (fail)
  obtain ⟨W, hW⟩ : ∃ W, W = w.alloc (.cells F.vals.toArray 32) := ⟨_, rfl⟩
  have HC := Lib.hid (boxed1 w F.vals 32)
  rw [← hW] at HC ⊢
  clear hW
  by_cases hq : codeB F b (moB F s c) = 0
  · have HQ := Lib.hid hq
    have HI := Lib.hid (mo_in hq)
    have HR : Hid (moRes F b s c = (Gap.lst (seenB b s c 1) b.length, 0)) := Lib.hid (by unfold moRes; rw [if_pos hq])
    have hb40 : b.length ≤ 40 := (beat_cells (codeB_zero hq).1).2.1
    clear hq
    go_wp2_with (first
      | (go_at_call 63; refine (is_any F w.heap.size _ _ (HC.out.blk (w.heap.size, F.vals, 32) (by simp)) HO.out).mono ?_; rintro e w5 ⟨rfl, rfl⟩)
      | (go_at_call 49; refine (l05Asked_any F HO.out b HBO.out _ A n s (F.has c) _ (HC.out.blk (w.heap.size, F.vals, 32) (by simp)) (Kd.C_below HA.out HC.out.below)).mono ?_; rintro e w2 ⟨rfl, m1, hw⟩; rw [HWB.out, HQ.out]; have HC1 := Lib.hid (HC.out.step (show Below W.heap.size W w2 by rw [hw]; exact below_drewN (Below.refl _ _) _)); clear hw)
      | (go_at_call 64; refine (sseenC_any HI.out s A n _ (Kd.C_below HA.out HC1.out.below) HLC.out).mono ?_; rintro e w6 ⟨A2, c2, rfl, hm, hb⟩; have HC6 := Lib.hid (HC1.out.step hb); have HM := Lib.hid hm; clear hm hb)
      | ((with_reducible refine gate_dst (N := 27) rfl ?_); refine Kd.R_lit (Kd.int .i64) (w0 := w6) w6.heap.size 2 ?hg (N := 27) ?hd (xs := ([] : List Int)) (inner := []) (ok := fun _ => True) (okp := fun _ => True) ?hr ?hp (fun _ hk => hk) trivial (Below.refl _ _) (Nat.le_refl _) (by simp) ?_; (case hd => rfl); (case hg => rfl); (case hr => first | (go_simp; done) | (go_simp; rfl)); (case hp => exact (Reps.none _ _)); intro v7 w7 ho1 hb1 hg1 hn1; clear hg1 hn1; have HR7 := Lib.hid ho1; have HB7 := Lib.hid hb1; clear ho1 hb1))
    go_loopw [12, 13] (fun u v wr => ∃ i : Nat, i ≤ b.length ∧ v = .int .i64 i ∧ Hid (Made w6 wr (Gap.lst (seenB b s c 1) i) u) ∧ Hid (Below w6.heap.size w6 wr)) (fun _ v _ => b.length - (intOf v).toNat)
    case atStart => exact ⟨0, by omega, rfl, Lib.hid HR7.out, HB7⟩
    case round =>
      clear HR7 HB7
      obtain ⟨i, hi, rfl, HRr, HB⟩ := hrel
      have HL : Hid ((Gap.lst (seenB b s c 1) i).length ≤ i) := Lib.hid (Gap.lst_len _ i)
      by_cases hlt : i < b.length
      · obtain ⟨ad, hA2, hx⟩ := Kd.at_bool (Kd.C_below HM.out HB.out) (i : Int) (by omega) (by omega)
        subst hA2
        rw [Int.toNat_natCast, seenL_rd hlt] at hx
        cases hs : seenB b s c 1 i
        · have HN : Hid (Gap.lst (seenB b s c 1) (i + 1) = Gap.lst (seenB b s c 1) i) := Lib.hid (Gap.lst_no hs)
          rw [hs] at hx
          clear hs
          go_wp2
          go_roundw
          case rel => exact ⟨i + 1, by omega, by go_num, by rw [HN.out]; exact HRr, HB⟩
          case measure => simp only [intOf]; omega
        · have HN : Hid (Gap.lst (seenB b s c 1) (i + 1) = Gap.lst (seenB b s c 1) i ++ [(i : Int)]) := Lib.hid (Gap.lst_yes hs)
          rw [hs] at hx
          clear hs
          go_wp2_with (first
            | ((with_reducible refine gate_builtin (b := .append) (xs := #[.tmp 38, .tmp 40]) rfl ?_); at_builtin; refine Kd.R_append (Kd.int .i64) (w0 := w6) w6.heap.size rfl (.tmp 38) (.tmp 40) 48 2 (.int .i64 0) 8 rfl Try.underlying48 info_i64 rfl (by decide) (by omega) _ (Gap.lst (seenB b s c 1) i) i [.int .i64 i] (fun _ => True) (fun _ => False) rfl rfl ?aP (fun _ hk => hk.elim) ?aF ?aO ?aB ?aS ?aL ?_; (case aP => exact rfl); (case aF => exact (fun _ _ => trivial)); (case aO => exact (by (with_reducible repeat (first | apply Kd.R_alloc | apply Kd.R_drewN | apply Kd.R_drew)); exact HRr.out)); (case aB => exact (by repeat (first | (with_reducible first | exact HB.out | apply below_alloc | apply pw_below_drewN | apply below_drew1) | exact HB.out))); (case aS => exact (below_size (by repeat (first | (with_reducible first | exact HB.out | apply below_alloc | apply pw_below_drewN | apply below_drew1) | exact HB.out)))); (case aL => have := HL.out; omega); intro v2 w8 ho hb hg hat; rw [← HN.out] at ho; have HR2 := Lib.hid ho; have HB2 := Lib.hid hb; clear ho hb hg hat))
          go_roundw
          case rel => exact ⟨i + 1, by omega, by go_num, HR2, HB2⟩
          case measure => simp only [intOf]; omega
      · obtain rfl : i = b.length := by omega
        go_wp2
        go_ret2
        exact ⟨_, by rw [HR.out]; rfl, by rw [HR.out]; exact Kd.R_lower HRr.out HC6.out.below.size, (HC6.out.step HB.out).below⟩
  · have HR : Hid (moRes F b s c = ([], codeB F b (moB F s c))) := Lib.hid (by unfold moRes; rw [if_neg hq])
    have hq' : (codeB F b (moB F s c) != 0) = true := by simpa using hq
    go_wp2_with (first
      | (go_at_call 63; refine (is_any F w.heap.size _ _ (HC.out.blk (w.heap.size, F.vals, 32) (by simp)) HO.out).mono ?_; rintro e w5 ⟨rfl, rfl⟩)
      | (go_at_call 49; refine (l05Asked_any F HO.out b HBO.out _ A n s (F.has c) _ (HC.out.blk (w.heap.size, F.vals, 32) (by simp)) (Kd.C_below HA.out HC.out.below)).mono ?_; rintro e w2 ⟨rfl, m1, hw⟩; rw [HWB.out]; have HC1 := Lib.hid (HC.out.step (show Below W.heap.size W w2 by rw [hw]; exact below_drewN (Below.refl _ _) _)); clear hw)
      | ((with_reducible refine gate_dst (N := 21) rfl ?_); refine Kd.R_lit (Kd.int .i64) (w0 := w) w.heap.size 2 ?hg (N := 21) ?hd (xs := ([] : List Int)) (inner := []) (ok := fun _ => True) (okp := fun _ => True) ?hr ?hp (fun _ hk => hk) trivial HC1.out.below HC1.out.below.size (by simp) ?_; (case hd => rfl); (case hg => rfl); (case hr => first | (go_simp; done) | (go_simp; rfl)); (case hp => exact (Reps.none _ _)); intro v3 w3 ho1 hb1 hg1 hn1; clear hg1 hn1; have HR3 := Lib.hid ho1; have HB3 := Lib.hid hb1; clear ho1 hb1))
    go_ret2
    exact ⟨v3, by rw [HR.out]; rfl, by rw [HR.out]; exact HR3.out, HB3.out⟩
end Go.Proofs.Ytmhkechkkpppaaa
