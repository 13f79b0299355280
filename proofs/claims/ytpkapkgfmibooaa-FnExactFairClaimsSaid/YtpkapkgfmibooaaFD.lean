/- FalseClaims and FairClaims, by the program and by the reference: the same. No condition but that the numbers are within their kinds. -/
import Derived.Test.YtpkapkgfmibooaaFC
namespace Go.Proofs.Ytpkapkgfmibooaa
open Go.RowKit Go.Proofs.YtpkapkgfmibooaaW.PrintWords Go.Proofs.YtpkapkgfmibooaaW.PrintLast Go.Proofs.YtpkapkgfmibooaaW.PrintMore Go.Proofs.Ytpkapkgfmibooaa.PAll
set_option linter.unusedSimpArgs false
set_option linter.unusedVariables false

theorem byRes_len (F G : Fld) (os : List Int) : (byRes F G os).length = 10 := byTo_len F _ os 100
/-- Whether an owner claims more than the loss. -/
def moreB (B ts : List Int) (i : Nat) : Bool := decide (rd B (i : Int) < rd ts (i : Int))
noncomputable def faRes (F G : Fld) (os ts : List Int) : List Int × Int := if clCode F G os ts = 0 then (Gap.lst (moreB (byRes F G os) ts) 10, 0) else ([], clCode F G os ts)
theorem faRes_len (F G : Fld) (os ts : List Int) : (faRes F G os ts).1.length ≤ 1048576 := by
  unfold faRes
  split
  · have := Gap.lst_len (moreB (byRes F G os) ts) 10
    show (Gap.lst (moreB (byRes F G os) ts) 10).length ≤ _
    omega
  · simp
/-- The first n losses cut to the claims. -/
def mnTo (B ts : List Int) (n : Nat) : List Int := (List.range 10).map fun j => if j < n then min (rd B (j : Int)) (rd ts (j : Int)) else rd B (j : Int)
theorem mnTo_len (B ts : List Int) (n : Nat) : (mnTo B ts n).length = 10 := by simp [mnTo]
theorem mnTo_rd (B ts : List Int) (n : Nat) {j : Nat} (hj : j < 10) : rd (mnTo B ts n) (j : Int) = if j < n then min (rd B (j : Int)) (rd ts (j : Int)) else rd B (j : Int) := by
  unfold mnTo
  show List.getD _ (j : Int).toNat 0 = _
  rw [Int.toNat_natCast, List.getD_eq_getElem?_getD, List.getElem?_map, List.getElem?_range hj]
  rfl
theorem mnTo_zero {B : List Int} (ts : List Int) (h : B.length = 10) : mnTo B ts 0 = B := by
  refine List.ext_getElem (by rw [mnTo_len, h]) fun j h1 h2 => ?_
  have hj : j < 10 := by rw [mnTo_len] at h1; exact h1
  have e := mnTo_rd B ts 0 hj
  rw [if_neg (by omega)] at e
  simpa [rd, List.getD_eq_getElem?_getD, List.getElem?_eq_getElem h1, List.getElem?_eq_getElem h2] using e
theorem mnTo_get (B ts : List Int) (n : Nat) {j : Nat} (h : j < (mnTo B ts n).length) : (mnTo B ts n)[j] = if j < n then min (rd B (j : Int)) (rd ts (j : Int)) else rd B (j : Int) := by simp [mnTo]
theorem mnTo_step (B ts : List Int) {n : Nat} (hn : n < 10) : (mnTo B ts n).set n (min (rd B (n : Int)) (rd ts (n : Int))) = mnTo B ts (n + 1) := by
  refine List.ext_getElem (by rw [List.length_set, mnTo_len, mnTo_len]) fun j h1 h2 => ?_
  rw [List.getElem_set, mnTo_get]
  split
  · rename_i e
    subst e
    rw [mnTo_get, if_pos (by omega)]
  · rename_i e
    rw [mnTo_get]
    by_cases h : j < n
    · rw [if_pos h, if_pos (by omega)]
    · rw [if_neg h, if_neg (by omega)]
noncomputable def frRes (F G : Fld) (os ts : List Int) : List Int × Int := if clCode F G os ts = 0 then (mnTo (byRes F G os) ts 10, 0) else ([], clCode F G os ts)
theorem frRes_len (F G : Fld) (os ts : List Int) : (frRes F G os ts).1.length ≤ 1048576 := by
  unfold frRes
  split
  · show (mnTo (byRes F G os) ts 10).length ≤ _
    rw [mnTo_len]
    omega
  · simp
theorem apart_next {u v : Value} {g s : Nat} (h : ∀ k, u.ownBlock = some k → k ≠ g) (hat : v.ownBlock = u.ownBlock ∨ ∃ b, v.ownBlock = some b ∧ s ≤ b) (hg : g < s) : ∀ k, v.ownBlock = some k → k ≠ g := fun k hk => by
  rcases hat with h1 | ⟨b, h1, h2⟩
  · exact h k (by rw [← h1]; exact hk)
  · rw [h1] at hk
    injection hk with hk
    omega
theorem cell_keepE {w w1 w' : World} {p : Addr} {v : Value} (h : w.cell? p = some v) (h1 : Below w.heap.size w w1) (h2 : Below w1.heap.size w1 w') (hl : p.block < w.heap.size) : w'.cell? p = some v := by
  rw [← h]
  unfold World.cell?
  rw [h2.block _ (by have := h1.size; omega), h1.block _ hl]
theorem info_I : (Try.prog.info? 2).map (fun i => (i.zero, i.size, i.bytes)) = some (some (.int .i64 0), 1, 8) := by kernel_rfl


set_option maxRecDepth 100000 in
set_option maxHeartbeats 4000000 in
theorem iFalse_any (F G : Fld) (hF : F.Ok) (hG : G.Ok) (os : List Int) (hs : OsOk os) (ts : List Int) (hl : ts.length ≤ 1048576) (A : Option Addr) (n : Nat) (w : World) (hA : Kd.C (Kd.int .i64) w A ts.length ts) (hlc : ts.length ≤ n) :
    Calls Try.prog 23 #[.agg F.vals.toArray, .agg G.vals.toArray, .agg (vrow .i8 os).toArray, .slice A ts.length n] w fun e w' => ∃ v : Value, e = .returned (.tuple #[v, .int .i64 (faRes F G os ts).2]) ∧ Made w w' (faRes F G os ts).1 v ∧ Below w.heap.size w w' := by
  have HO := Lib.hid hF
  have HP := Lib.hid hG
  have HS := Lib.hid hs
  have HA := Lib.hid hA
  have HLC := Lib.hid hlc
  have HLN := Lib.hid hl
  clear hF hG hs hA hlc hl
  go_enter Try.func23, Try.ntmps23
  go_upto_region 1 with (fail)
  obtain ⟨W, hW⟩ : ∃ W, W = ((w.alloc (.cells F.vals.toArray 32)).alloc (.cells G.vals.toArray 32)).alloc (.cells (vrow .i8 os).toArray 34) := ⟨_, rfl⟩
  have HC := Lib.hid (boxed3 w F.vals G.vals (vrow .i8 os) 32 32 34)
  rw [← hW] at HC ⊢
  clear hW
  by_cases hq : clCode F G os ts = 0
  · have HQ := Lib.hid hq
    obtain ⟨hoc, hln⟩ := cl_zero hq
    have HOA := Lib.hid (ownCode_zero hoc)
    have HLT := Lib.hid hln
    have hlz : (ts.length : Int) = 10 := by omega
    have HR : Hid (faRes F G os ts = (Gap.lst (moreB (byRes F G os) ts) 10, 0)) := Lib.hid (by unfold faRes; rw [if_pos hq])
    have HBL := Lib.hid (byRes_len F G os)
    clear hq hoc hln
    go_wp2_with (first
      | (go_at_call 47; refine (claimsCode_any F G HO.out HP.out os HS.out ts HLN.out _ _ _ A n _ (HC.out.blk (w.heap.size, F.vals, 32) (by simp)) (HC.out.blk (w.heap.size + 1, G.vals, 32) (by simp)) (HC.out.blk (w.heap.size + 1 + 1, vrow .i8 os, 34) (by simp)) (Kd.C_below HA.out HC.out.below) HLC.out).mono ?_; rintro e w2 ⟨rfl, hb⟩; rw [HQ.out]; have HC1 := Lib.hid (HC.out.step hb); clear hb)
      | ((with_reducible refine gate_dst (N := 19) rfl ?_); refine Kd.R_lit (Kd.int .i64) (w0 := w2) w2.heap.size 2 ?hg (N := 19) ?hd (xs := ([] : List Int)) (inner := []) (ok := fun _ => True) (okp := fun _ => True) ?hr ?hp (fun _ hk => hk) trivial (Below.refl _ _) (below_size (Below.refl _ _)) (by simp) ?_; (case hd => rfl); (case hg => rfl); (case hr => first | (go_simp; done) | (go_simp; rfl)); (case hp => exact (Reps.none _ _)); intro v4 w4 ho1 hb1 hg1 hn1; clear hg1 hn1; have HRw4 := Lib.hid ho1; have HBw4 := Lib.hid hb1; have HC4 := Lib.hid (HC1.out.step hb1); clear ho1 hb1)
      | (go_at_call 45; refine (byOwner_any F G HO.out HP.out os HS.out HOA.out _ _ _ _ (HC4.out.blk (w.heap.size, F.vals, 32) (by simp)) (HC4.out.blk (w.heap.size + 1, G.vals, 32) (by simp)) (HC4.out.blk (w.heap.size + 1 + 1, vrow .i8 os, 34) (by simp))).mono ?_; rintro e w5 ⟨v5, rfl, hm, hb⟩; obtain ⟨g, cap, hv, hg1, hg2, cells, hg3⟩ := Kd.R_form hm (by have := HBL.out; omega); rw [HBL.out] at hv; subst hv; have HB5 := Lib.hid (Kd.R_mono (Kd.R_tight rfl hm) (ok' := fun k => k = g) (fun k hk => by simpa [Value.ownBlock] using hk)); have HC5 := Lib.hid ((HC4.out).step hb); have HR5 := Lib.hid (Kd.R_lower (Kd.R_below HRw4.out hb) HC1.out.below.size); have hap : ∀ k, v4.ownBlock = some k → k ≠ g := fun k hk => (by have := Kd.R_lt HRw4.out k hk; omega); clear hb hm hg3))
    go_loopw [11, 22] (fun u v wr => ∃ i : Nat, i ≤ 10 ∧ v = .int .i64 i ∧ Hid (Made w wr (Gap.lst (moreB (byRes F G os) ts) i) u) ∧ Hid (Kd.R (Kd.int .i64) 2 wr w.heap.size (fun k => k = g) (.slice (some ⟨g, 0, none⟩) 10 cap) (byRes F G os)) ∧ Hid (Below w.heap.size w wr) ∧ Hid (∀ k, u.ownBlock = some k → k ≠ g)) (fun _ v _ => 10 - (intOf v).toNat)
    case atStart => exact ⟨0, by omega, rfl, HR5, Lib.hid (Kd.R_lower HB5.out HC4.out.below.size), Lib.hid HC5.out.below, Lib.hid hap⟩
    case round =>
      obtain ⟨i, hi, rfl, HRr, HBr, HB, HAp⟩ := hrel
      have HL : Hid ((Gap.lst (moreB (byRes F G os) ts) i).length ≤ i) := Lib.hid (Gap.lst_len _ i)
      by_cases hlt : i < 10
      · obtain ⟨ad, hA2, hx⟩ := Kd.at_int (Kd.C_below HA.out HB.out) (i : Int) (by omega) (by omega)
        subst hA2
        obtain ⟨cb, _⟩ := Kd.R_celln 0 HBr.out (i : Int) (by omega) (by omega)
        rw [Int.toNat_natCast] at hx cb
        replace cb : wr.cell? ⟨g, i, none⟩ = some (.int .i64 (rd (byRes F G os) (i : Int))) := cb
        by_cases hs : rd (byRes F G os) (i : Int) < rd ts (i : Int)
        · have HN : Hid (Gap.lst (moreB (byRes F G os) ts) (i + 1) = Gap.lst (moreB (byRes F G os) ts) i ++ [(i : Int)]) := Lib.hid (Gap.lst_yes (by unfold moreB; exact decide_eq_true hs))
          generalize rd (byRes F G os) (i : Int) = x at *
          generalize rd ts (i : Int) = y at *
          go_wp2_with (first
            | ((with_reducible refine gate_builtin (b := .append) (xs := #[.tmp 33, .tmp 35]) rfl ?_); at_builtin; refine Kd.R_append (Kd.int .i64) (w0 := w) w.heap.size rfl (.tmp 33) (.tmp 35) 39 2 (.int .i64 0) 8 rfl Try.underlying39 info_I rfl (by decide) (by omega) _ (Gap.lst (moreB (byRes F G os) ts) i) i [.int .i64 i] (fun _ => True) (fun _ => False) rfl rfl ?aP (fun _ hk => hk.elim) ?aF ?aO ?aB ?aS ?aL ?_; (case aP => exact rfl); (case aF => exact (fun _ _ => trivial)); (case aO => exact (by (with_reducible repeat (first | apply Kd.R_alloc | apply Kd.R_drewN | apply Kd.R_drew)); exact HRr.out)); (case aB => exact (by repeat (first | (with_reducible first | exact HB.out | apply below_alloc | apply pw_below_drewN | apply below_drew1) | exact HB.out))); (case aS => exact (below_size (by repeat (first | (with_reducible first | exact HB.out | apply below_alloc | apply pw_below_drewN | apply below_drew1) | exact HB.out)))); (case aL => have := HL.out; omega); intro v2 w8 ho hb hg hat; rw [← HN.out] at ho; have HR2 := Lib.hid ho; have HB2 := Lib.hid hb; have hgl := Kd.R_lt HBr.out g rfl; have HBn := Lib.hid (Kd.R_grown HBr.out hg (fun k hk he => HAp.out k he.symm hk)); have HAn := Lib.hid (apart_next HAp.out hat hgl); clear ho hb hg hat))
          go_roundw
          case rel => exact ⟨i + 1, by omega, by go_num, HR2, HBn, HB2, HAn⟩
          case measure => simp only [intOf]; omega
        · have HN : Hid (Gap.lst (moreB (byRes F G os) ts) (i + 1) = Gap.lst (moreB (byRes F G os) ts) i) := Lib.hid (Gap.lst_no (by unfold moreB; exact decide_eq_false hs))
          generalize rd (byRes F G os) (i : Int) = x at *
          generalize rd ts (i : Int) = y at *
          go_wp2
          go_roundw
          case rel => exact ⟨i + 1, by omega, by go_num, by rw [HN.out]; exact HRr, HBr, HB, HAp⟩
          case measure => simp only [intOf]; omega
      · obtain rfl : i = 10 := by omega
        go_wp2
        go_ret2
        exact ⟨_, by rw [HR.out]; rfl, by rw [HR.out]; exact HRr.out, HB.out⟩
  · have HR : Hid (faRes F G os ts = ([], clCode F G os ts)) := Lib.hid (by unfold faRes; rw [if_neg hq])
    have hq' : (clCode F G os ts != 0) = true := by simpa using hq
    go_wp2_with (first
      | (go_at_call 47; refine (claimsCode_any F G HO.out HP.out os HS.out ts HLN.out _ _ _ A n _ (HC.out.blk (w.heap.size, F.vals, 32) (by simp)) (HC.out.blk (w.heap.size + 1, G.vals, 32) (by simp)) (HC.out.blk (w.heap.size + 1 + 1, vrow .i8 os, 34) (by simp)) (Kd.C_below HA.out HC.out.below) HLC.out).mono ?_; rintro e w2 ⟨rfl, hb⟩; have HC1 := Lib.hid (HC.out.step hb); clear hb))
    go_ret2
    exact ⟨.slice none 0 0, by rw [HR.out]; rfl, by rw [HR.out]; exact Kd.R_nil _ _ _ _ _, HC1.out.below⟩


set_option maxRecDepth 100000 in
set_option maxHeartbeats 4000000 in
theorem sFalse_any (F G : Fld) (hF : F.Ok) (hG : G.Ok) (os : List Int) (hs : OsOk os) (ts : List Int) (hl : ts.length ≤ 1048576) (A : Option Addr) (n : Nat) (w : World) (hA : Kd.C (Kd.int .i64) w A ts.length ts) (hlc : ts.length ≤ n) :
    Calls Try.prog 21 #[.agg F.vals.toArray, .agg G.vals.toArray, .agg (vrow .i8 os).toArray, .slice A ts.length n] w fun e w' => ∃ v : Value, e = .returned (.tuple #[v, .int .i64 (faRes F G os ts).2]) ∧ Made w w' (faRes F G os ts).1 v ∧ Below w.heap.size w w' := by
  have HO := Lib.hid hF
  have HP := Lib.hid hG
  have HS := Lib.hid hs
  have HA := Lib.hid hA
  have HLC := Lib.hid hlc
  have HLN := Lib.hid hl
  clear hF hG hs hA hlc hl
  go_enter Try.func21, Try.ntmps21
  go_upto_region 1 with (fail)
  obtain ⟨W, hW⟩ : ∃ W, W = ((w.alloc (.cells F.vals.toArray 32)).alloc (.cells G.vals.toArray 32)).alloc (.cells (vrow .i8 os).toArray 34) := ⟨_, rfl⟩
  have HC := Lib.hid (boxed3 w F.vals G.vals (vrow .i8 os) 32 32 34)
  rw [← hW] at HC ⊢
  clear hW
  by_cases hq : clCode F G os ts = 0
  · have HQ := Lib.hid hq
    obtain ⟨hoc, hln⟩ := cl_zero hq
    have HOA := Lib.hid (ownCode_zero hoc)
    have HLT := Lib.hid hln
    have hlz : (ts.length : Int) = 10 := by omega
    have HR : Hid (faRes F G os ts = (Gap.lst (moreB (byRes F G os) ts) 10, 0)) := Lib.hid (by unfold faRes; rw [if_pos hq])
    have HBL := Lib.hid (byRes_len F G os)
    clear hq hoc hln
    go_wp2_with (first
      | (go_at_call 46; refine (l06Claimed_any F G HO.out HP.out os HS.out ts HLN.out _ _ _ A n _ (HC.out.blk (w.heap.size, F.vals, 32) (by simp)) (HC.out.blk (w.heap.size + 1, G.vals, 32) (by simp)) (HC.out.blk (w.heap.size + 1 + 1, vrow .i8 os, 34) (by simp)) (Kd.C_below HA.out HC.out.below) HLC.out).mono ?_; rintro e w2 ⟨rfl, hb⟩; rw [HQ.out]; have HC1 := Lib.hid (HC.out.step hb); clear hb)
      | (go_at_call 43; refine (sByOwner_any F G HO.out HP.out os HS.out HOA.out _ _ _ _ (HC1.out.blk (w.heap.size, F.vals, 32) (by simp)) (HC1.out.blk (w.heap.size + 1, G.vals, 32) (by simp)) (HC1.out.blk (w.heap.size + 1 + 1, vrow .i8 os, 34) (by simp))).mono ?_; rintro e w5 ⟨v5, rfl, hm, hb⟩; obtain ⟨g, cap, hv, hg1, hg2, cells, hg3⟩ := Kd.R_form hm (by have := HBL.out; omega); rw [HBL.out] at hv; subst hv; have HB5 := Lib.hid (Kd.R_mono (Kd.R_tight rfl hm) (ok' := fun k => k = g) (fun k hk => by simpa [Value.ownBlock] using hk)); have HC5 := Lib.hid ((HC1.out).step hb); have HB5w := Lib.hid (Kd.R_lower HB5.out HC1.out.below.size); clear hb hm hg3)
      | ((with_reducible refine gate_dst (N := 21) rfl ?_); refine Kd.R_lit (Kd.int .i64) (w0 := w5) w5.heap.size 2 ?hg (N := 21) ?hd (xs := ([] : List Int)) (inner := []) (ok := fun _ => True) (okp := fun _ => True) ?hr ?hp (fun _ hk => hk) trivial (Below.refl _ _) (below_size (Below.refl _ _)) (by simp) ?_; (case hd => rfl); (case hg => rfl); (case hr => first | (go_simp; done) | (go_simp; rfl)); (case hp => exact (Reps.none _ _)); intro v6 w6 ho1 hb1 hg1 hn1; clear hg1 hn1; have HRw6 := Lib.hid ho1; have HBw6 := Lib.hid hb1; clear ho1 hb1))
    go_loopw [12, 13] (fun u v wr => ∃ i : Nat, i ≤ 10 ∧ v = .int .i64 i ∧ Hid (Made w5 wr (Gap.lst (moreB (byRes F G os) ts) i) u) ∧ Hid (Below w5.heap.size w5 wr)) (fun _ v _ => 10 - (intOf v).toNat)
    case atStart => exact ⟨0, by omega, rfl, HRw6, HBw6⟩
    case round =>
      obtain ⟨i, hi, rfl, HRr, HB⟩ := hrel
      have HL : Hid ((Gap.lst (moreB (byRes F G os) ts) i).length ≤ i) := Lib.hid (Gap.lst_len _ i)
      by_cases hlt : i < 10
      · obtain ⟨ad, hA2, hx⟩ := Kd.at_int (Kd.C_below HA.out (HC5.out.step HB.out).below) (i : Int) (by omega) (by omega)
        subst hA2
        obtain ⟨cb, _⟩ := Kd.R_celln 0 (Kd.R_below HB5.out HB.out) (i : Int) (by omega) (by omega)
        rw [Int.toNat_natCast] at hx cb
        replace cb : wr.cell? ⟨g, i, none⟩ = some (.int .i64 (rd (byRes F G os) (i : Int))) := cb
        by_cases hs : rd (byRes F G os) (i : Int) < rd ts (i : Int)
        · have HN : Hid (Gap.lst (moreB (byRes F G os) ts) (i + 1) = Gap.lst (moreB (byRes F G os) ts) i ++ [(i : Int)]) := Lib.hid (Gap.lst_yes (by unfold moreB; exact decide_eq_true hs))
          generalize rd (byRes F G os) (i : Int) = x at *
          generalize rd ts (i : Int) = y at *
          go_upto_region 9 with (fail)
          go_quiet (fail)
          have HBq := HB
          replace HB := Lib.hid (below_drewN HB.out nq)
          replace HRr := Lib.hid (Kd.R_drewN HRr.out nq)
          go_wp2_with (first
            | ((with_reducible refine gate_builtin (b := .append) (xs := #[.tmp 37, .tmp 39]) rfl ?_); at_builtin; refine Kd.R_append (Kd.int .i64) (w0 := w5) w5.heap.size rfl (.tmp 37) (.tmp 39) 39 2 (.int .i64 0) 8 rfl Try.underlying39 info_I rfl (by decide) (by omega) _ (Gap.lst (moreB (byRes F G os) ts) i) i [.int .i64 i] (fun _ => True) (fun _ => False) rfl rfl ?aP (fun _ hk => hk.elim) ?aF ?aO ?aB ?aS ?aL ?_; (case aP => exact rfl); (case aF => exact (fun _ _ => trivial)); (case aO => exact (by (with_reducible repeat (first | apply Kd.R_alloc | apply Kd.R_drewN | apply Kd.R_drew)); exact HRr.out)); (case aB => exact (by repeat (first | (with_reducible first | exact HB.out | apply below_alloc | apply pw_below_drewN | apply below_drew1) | exact HB.out))); (case aS => exact (below_size (by repeat (first | (with_reducible first | exact HB.out | apply below_alloc | apply pw_below_drewN | apply below_drew1) | exact HB.out)))); (case aL => have := HL.out; omega); intro v2 w8 ho hb hg hat; rw [← HN.out] at ho; have HR2 := Lib.hid ho; have HB2 := Lib.hid hb; clear ho hb hg hat))
          go_roundw
          case rel => exact ⟨i + 1, by omega, by go_num, HR2, HB2⟩
          case measure => simp only [intOf]; omega
        · have HN : Hid (Gap.lst (moreB (byRes F G os) ts) (i + 1) = Gap.lst (moreB (byRes F G os) ts) i) := Lib.hid (Gap.lst_no (by unfold moreB; exact decide_eq_false hs))
          generalize rd (byRes F G os) (i : Int) = x at *
          generalize rd ts (i : Int) = y at *
          go_upto_region 9 with (fail)
          go_quiet (fail)
          go_wp2
          go_roundw
          case rel => exact ⟨i + 1, by omega, by go_num, by rw [HN.out]; exact Lib.hid (Kd.R_drewN HRr.out nq), Lib.hid (below_drewN HB.out nq)⟩
          case measure => simp only [intOf]; omega
      · obtain rfl : i = 10 := by omega
        go_wp2
        go_ret2
        exact ⟨_, by rw [HR.out]; rfl, by rw [HR.out]; exact Kd.R_lower HRr.out HC5.out.below.size, (HC5.out.step HB.out).below⟩
  · have HR : Hid (faRes F G os ts = ([], clCode F G os ts)) := Lib.hid (by unfold faRes; rw [if_neg hq])
    have hq' : (clCode F G os ts != 0) = true := by simpa using hq
    go_wp2_with (first
      | (go_at_call 46; refine (l06Claimed_any F G HO.out HP.out os HS.out ts HLN.out _ _ _ A n _ (HC.out.blk (w.heap.size, F.vals, 32) (by simp)) (HC.out.blk (w.heap.size + 1, G.vals, 32) (by simp)) (HC.out.blk (w.heap.size + 1 + 1, vrow .i8 os, 34) (by simp)) (Kd.C_below HA.out HC.out.below) HLC.out).mono ?_; rintro e w2 ⟨rfl, hb⟩; have HC1 := Lib.hid (HC.out.step hb); clear hb)
      | ((with_reducible refine gate_dst (N := 18) rfl ?_); refine Kd.R_lit (Kd.int .i64) (w0 := w) w.heap.size 2 ?hg (N := 18) ?hd (xs := ([] : List Int)) (inner := []) (ok := fun _ => True) (okp := fun _ => True) ?hr ?hp (fun _ hk => hk) trivial HC1.out.below (below_size HC1.out.below) (by simp) ?_; (case hd => rfl); (case hg => rfl); (case hr => first | (go_simp; done) | (go_simp; rfl)); (case hp => exact (Reps.none _ _)); intro v3 w3 ho1 hb1 hg1 hn1; clear hg1 hn1; have HRw3 := Lib.hid ho1; have HBw3 := Lib.hid hb1; clear ho1 hb1))
    go_ret2
    exact ⟨v3, by rw [HR.out]; rfl, by rw [HR.out]; exact HRw3.out, HBw3.out⟩


set_option maxRecDepth 100000 in
set_option maxHeartbeats 4000000 in
theorem iFair_any (F G : Fld) (hF : F.Ok) (hG : G.Ok) (os : List Int) (hs : OsOk os) (ts : List Int) (hl : ts.length ≤ 1048576) (A : Option Addr) (n : Nat) (w : World) (hA : Kd.C (Kd.int .i64) w A ts.length ts) (hlc : ts.length ≤ n) :
    Calls Try.prog 25 #[.agg F.vals.toArray, .agg G.vals.toArray, .agg (vrow .i8 os).toArray, .slice A ts.length n] w fun e w' => ∃ v : Value, e = .returned (.tuple #[v, .int .i64 (frRes F G os ts).2]) ∧ Made w w' (frRes F G os ts).1 v ∧ Below w.heap.size w w' := by
  have HO := Lib.hid hF
  have HP := Lib.hid hG
  have HS := Lib.hid hs
  have HA := Lib.hid hA
  have HLC := Lib.hid hlc
  have HLN := Lib.hid hl
  clear hF hG hs hA hlc hl
  go_enter Try.func25, Try.ntmps25
  go_upto_region 1 with (fail)
  obtain ⟨W, hW⟩ : ∃ W, W = ((w.alloc (.cells F.vals.toArray 32)).alloc (.cells G.vals.toArray 32)).alloc (.cells (vrow .i8 os).toArray 34) := ⟨_, rfl⟩
  have HC := Lib.hid (boxed3 w F.vals G.vals (vrow .i8 os) 32 32 34)
  rw [← hW] at HC ⊢
  clear hW
  by_cases hq : clCode F G os ts = 0
  · have HQ := Lib.hid hq
    obtain ⟨hoc, hln⟩ := cl_zero hq
    have HOA := Lib.hid (ownCode_zero hoc)
    have HLT := Lib.hid hln
    have hlz : (ts.length : Int) = 10 := by omega
    have HR : Hid (frRes F G os ts = (mnTo (byRes F G os) ts 10, 0)) := Lib.hid (by unfold frRes; rw [if_pos hq])
    have HBL := Lib.hid (byRes_len F G os)
    clear hq hoc hln
    go_wp2_with (first
      | (go_at_call 47; refine (claimsCode_any F G HO.out HP.out os HS.out ts HLN.out _ _ _ A n _ (HC.out.blk (w.heap.size, F.vals, 32) (by simp)) (HC.out.blk (w.heap.size + 1, G.vals, 32) (by simp)) (HC.out.blk (w.heap.size + 1 + 1, vrow .i8 os, 34) (by simp)) (Kd.C_below HA.out HC.out.below) HLC.out).mono ?_; rintro e w2 ⟨rfl, hb⟩; rw [HQ.out]; have HC1 := Lib.hid (HC.out.step hb); clear hb)
      | (go_at_call 45; refine (byOwner_any F G HO.out HP.out os HS.out HOA.out _ _ _ _ (HC1.out.blk (w.heap.size, F.vals, 32) (by simp)) (HC1.out.blk (w.heap.size + 1, G.vals, 32) (by simp)) (HC1.out.blk (w.heap.size + 1 + 1, vrow .i8 os, 34) (by simp))).mono ?_; rintro e w5 ⟨v5, rfl, hm, hb⟩; obtain ⟨g, cap, hv, hg1, hg2, cells, hg3⟩ := Kd.R_form hm (by have := HBL.out; omega); rw [HBL.out] at hv; subst hv; have HB5 := Lib.hid (Kd.R_mono (Kd.R_tight rfl hm) (ok' := fun k => k = g) (fun k hk => by simpa [Value.ownBlock] using hk)); have HC5 := Lib.hid ((HC1.out).step hb); have HB5w := Lib.hid (Kd.R_lower HB5.out HC1.out.below.size); clear hb hm hg3))
    have HZ : Hid (mnTo (byRes F G os) ts 0 = byRes F G os) := Lib.hid (mnTo_zero ts HBL.out)
    have hgw : w.heap.size ≤ g := Nat.le_trans HC1.out.below.size hg1
    go_loopw [22] (fun v wr => ∃ i : Nat, i ≤ 10 ∧ v = .int .i64 i ∧ Hid (Kept g w5 wr) ∧ Hid (Kd.R (Kd.int .i64) 2 wr w.heap.size (fun k => k = g) (.slice (some ⟨g, 0, none⟩) 10 cap) (mnTo (byRes F G os) ts i))) (fun v _ => 10 - (intOf v).toNat)
    case atStart => exact ⟨0, by omega, rfl, Lib.hid (Kept.refl _ _), by rw [HZ.out]; exact HB5w⟩
    case round =>
      obtain ⟨i, hi, rfl, HK, HRr⟩ := hrel
      by_cases hlt : i < 10
      · have HBw : Hid (Below w.heap.size w wr) := Lib.hid (HK.out.below HC5.out.below hgw HC5.out.below.size)
        obtain ⟨ad, hA2, hx⟩ := Kd.at_int (Kd.C_below HA.out HBw.out) (i : Int) (by omega) (by omega)
        subst hA2
        obtain ⟨co, fo⟩ := Kd.R_celln 0 HRr.out (i : Int) (by omega) (by omega)
        rw [Int.toNat_natCast] at hx co fo
        have hmi := mnTo_rd (byRes F G os) ts i hlt
        rw [if_neg (by omega)] at hmi
        replace co : wr.cell? ⟨g, i, none⟩ = some (.int .i64 (rd (mnTo (byRes F G os) ts i) (i : Int))) := co
        rw [hmi] at co
        have HP2 := Lib.hid (Kd.R_putn HRr.out (i : Int) (min (rd (byRes F G os) (i : Int)) (rd ts (i : Int))))
        rw [Int.toNat_natCast, mnTo_step (byRes F G os) ts hlt] at HP2
        have HPE : Hid ((mnTo (byRes F G os) ts i).set (i : Int).toNat (min (rd (byRes F G os) (i : Int)) (rd ts (i : Int))) = mnTo (byRes F G os) ts (i + 1)) := Lib.hid (by rw [Int.toNat_natCast]; exact mnTo_step (byRes F G os) ts hlt)
        clear hmi
        generalize rd (byRes F G os) (i : Int) = x at *
        generalize rd ts (i : Int) = y at *
        have hme : min x y = if y < x then y else x := by rw [Int.min_def]; split <;> split <;> omega
        rw [hme] at HP2
        clear hme
        go_wp2
        go_roundw
        case rel => exact ⟨i + 1, by omega, by go_num, Lib.hid (HK.out.set _ _), HP2⟩
        case measure => simp only [intOf]; omega
      · obtain rfl : i = 10 := by omega
        go_wp2
        go_ret2
        exact ⟨_, by rw [HR.out]; rfl, by rw [HR.out]; exact Kd.R_mono HRr.out (fun _ _ => trivial), HK.out.below HC5.out.below hgw HC5.out.below.size⟩
  · have HR : Hid (frRes F G os ts = ([], clCode F G os ts)) := Lib.hid (by unfold frRes; rw [if_neg hq])
    have hq' : (clCode F G os ts != 0) = true := by simpa using hq
    go_wp2_with (first
      | (go_at_call 47; refine (claimsCode_any F G HO.out HP.out os HS.out ts HLN.out _ _ _ A n _ (HC.out.blk (w.heap.size, F.vals, 32) (by simp)) (HC.out.blk (w.heap.size + 1, G.vals, 32) (by simp)) (HC.out.blk (w.heap.size + 1 + 1, vrow .i8 os, 34) (by simp)) (Kd.C_below HA.out HC.out.below) HLC.out).mono ?_; rintro e w2 ⟨rfl, hb⟩; have HC1 := Lib.hid (HC.out.step hb); clear hb))
    go_ret2
    exact ⟨.slice none 0 0, by rw [HR.out]; rfl, by rw [HR.out]; exact Kd.R_nil _ _ _ _ _, HC1.out.below⟩


theorem min_any (x y : Int) (w : World) : Calls Try.prog 48 #[.int .i64 x, .int .i64 y] w fun e w' => e = .returned (.int .i64 (min x y)) ∧ Below w.heap.size w w' := by
  refine (spec_l00Min.calls x y (min x y) w ?_).mono ?_
  · unfold spec_l00Min.f
    by_cases h : x < y
    · rw [if_pos h, Int.min_def, if_pos (by omega)]
    · rw [if_neg h, Int.min_def]
      split
      · congr 1
        omega
      · rfl
  · rintro e w1 ⟨rfl, hb⟩
    exact ⟨rfl, by first | exact hb.below | exact hb | (subst hb; exact Below.refl _ _) | (obtain rfl := hb; exact Below.refl _ _)⟩
set_option maxRecDepth 100000 in
set_option maxHeartbeats 4000000 in
theorem sFair_any (F G : Fld) (hF : F.Ok) (hG : G.Ok) (os : List Int) (hs : OsOk os) (ts : List Int) (hl : ts.length ≤ 1048576) (A : Option Addr) (n : Nat) (w : World) (hA : Kd.C (Kd.int .i64) w A ts.length ts) (hlc : ts.length ≤ n) :
    Calls Try.prog 24 #[.agg F.vals.toArray, .agg G.vals.toArray, .agg (vrow .i8 os).toArray, .slice A ts.length n] w fun e w' => ∃ v : Value, e = .returned (.tuple #[v, .int .i64 (frRes F G os ts).2]) ∧ Made w w' (frRes F G os ts).1 v ∧ Below w.heap.size w w' := by
  have HO := Lib.hid hF
  have HP := Lib.hid hG
  have HS := Lib.hid hs
  have HA := Lib.hid hA
  have HLC := Lib.hid hlc
  have HLN := Lib.hid hl
  clear hF hG hs hA hlc hl
  go_enter Try.func24, Try.ntmps24
  go_upto_region 1 with (fail)
  obtain ⟨W, hW⟩ : ∃ W, W = ((w.alloc (.cells F.vals.toArray 32)).alloc (.cells G.vals.toArray 32)).alloc (.cells (vrow .i8 os).toArray 34) := ⟨_, rfl⟩
  have HC := Lib.hid (boxed3 w F.vals G.vals (vrow .i8 os) 32 32 34)
  rw [← hW] at HC ⊢
  clear hW
  by_cases hq : clCode F G os ts = 0
  · have HQ := Lib.hid hq
    obtain ⟨hoc, hln⟩ := cl_zero hq
    have HOA := Lib.hid (ownCode_zero hoc)
    have HLT := Lib.hid hln
    have hlz : (ts.length : Int) = 10 := by omega
    have HR : Hid (frRes F G os ts = (mnTo (byRes F G os) ts 10, 0)) := Lib.hid (by unfold frRes; rw [if_pos hq])
    have HBL := Lib.hid (byRes_len F G os)
    clear hq hoc hln
    go_wp2_with (first
      | (go_at_call 46; refine (l06Claimed_any F G HO.out HP.out os HS.out ts HLN.out _ _ _ A n _ (HC.out.blk (w.heap.size, F.vals, 32) (by simp)) (HC.out.blk (w.heap.size + 1, G.vals, 32) (by simp)) (HC.out.blk (w.heap.size + 1 + 1, vrow .i8 os, 34) (by simp)) (Kd.C_below HA.out HC.out.below) HLC.out).mono ?_; rintro e w2 ⟨rfl, hb⟩; rw [HQ.out]; have HC1 := Lib.hid (HC.out.step hb); clear hb)
      | (go_at_call 43; refine (sByOwner_any F G HO.out HP.out os HS.out HOA.out _ _ _ _ (HC1.out.blk (w.heap.size, F.vals, 32) (by simp)) (HC1.out.blk (w.heap.size + 1, G.vals, 32) (by simp)) (HC1.out.blk (w.heap.size + 1 + 1, vrow .i8 os, 34) (by simp))).mono ?_; rintro e w5 ⟨v5, rfl, hm, hb⟩; obtain ⟨g, cap, hv, hg1, hg2, cells, hg3⟩ := Kd.R_form hm (by have := HBL.out; omega); rw [HBL.out] at hv; subst hv; have HB5 := Lib.hid (Kd.R_mono (Kd.R_tight rfl hm) (ok' := fun k => k = g) (fun k hk => by simpa [Value.ownBlock] using hk)); have HC5 := Lib.hid ((HC1.out).step hb); have HB5w := Lib.hid (Kd.R_lower HB5.out HC1.out.below.size); clear hb hm hg3))
    have HZ : Hid (mnTo (byRes F G os) ts 0 = byRes F G os) := Lib.hid (mnTo_zero ts HBL.out)
    have hgw : w.heap.size ≤ g := Nat.le_trans HC1.out.below.size hg1
    go_loopw [12] (fun v wr => ∃ i : Nat, i ≤ 10 ∧ v = .int .i64 i ∧ Hid (Kept g w5 wr) ∧ Hid (Kd.R (Kd.int .i64) 2 wr w.heap.size (fun k => k = g) (.slice (some ⟨g, 0, none⟩) 10 cap) (mnTo (byRes F G os) ts i))) (fun v _ => 10 - (intOf v).toNat)
    case atStart => exact ⟨0, by omega, rfl, Lib.hid (Kept.refl _ _), by rw [HZ.out]; exact HB5w⟩
    case round =>
      obtain ⟨i, hi, rfl, HK, HRr⟩ := hrel
      by_cases hlt : i < 10
      · have HBw : Hid (Below w.heap.size w wr) := Lib.hid (HK.out.below HC5.out.below hgw HC5.out.below.size)
        obtain ⟨ad, hA2, hx⟩ := Kd.at_int (Kd.C_below HA.out HBw.out) (i : Int) (by omega) (by omega)
        subst hA2
        obtain ⟨co, fo⟩ := Kd.R_celln 0 HRr.out (i : Int) (by omega) (by omega)
        rw [Int.toNat_natCast] at hx co fo
        have hmi := mnTo_rd (byRes F G os) ts i hlt
        rw [if_neg (by omega)] at hmi
        replace co : wr.cell? ⟨g, i, none⟩ = some (.int .i64 (rd (mnTo (byRes F G os) ts i) (i : Int))) := co
        rw [hmi] at co
        have HP2 := Lib.hid (Kd.R_putn HRr.out (i : Int) (min (rd (byRes F G os) (i : Int)) (rd ts (i : Int))))
        rw [Int.toNat_natCast, mnTo_step (byRes F G os) ts hlt] at HP2
        have HPE : Hid ((mnTo (byRes F G os) ts i).set (i : Int).toNat (min (rd (byRes F G os) (i : Int)) (rd ts (i : Int))) = mnTo (byRes F G os) ts (i + 1)) := Lib.hid (by rw [Int.toNat_natCast]; exact mnTo_step (byRes F G os) ts hlt)
        clear hmi
        go_upto_region 8 with (fail)
        refine wp_region_K 12 13 #[false, false, false, false, false, false, false, false, false, false, false, false, false] (by kernel_rfl) (by kernel_rfl) (fun _ _ _ _ hd h => ⟨hd.symm.trans h.1, h.2⟩) (fun hPB => ?_)
        have HL1 := Lib.hid (fun (w' : World) (h : WUp wr.drew w') => run_loadc_int (P := Try.prog) 2 Try.underlying2 (cell_keepE co (below_drewN (Below.refl _ _) 1) h (Kd.R_lt HRr.out g rfl)))
        have HL2 := Lib.hid (fun (w' : World) (h : WUp wr.drew w') => run_loadc_int (P := Try.prog) 2 Try.underlying2 (show w'.cell? (ad.add i) = some (.int .i64 (rd ts (i : Int))) from by
          obtain ⟨ad', e1, e2⟩ := Kd.at_int (Kd.C_below HA.out (HBw.out.trans ((below_drewN (Below.refl _ _) 1 : Below wr.heap.size wr wr.drew).trans h |>.mono HBw.out.size))) (i : Int) (by omega) (by omega)
          cases e1
          rw [Int.toNat_natCast] at e2
          exact e2))
        generalize rd (byRes F G os) (i : Int) = x at *
        generalize rd ts (i : Int) = y at *
        refine wpK_auto (i := 0) #[true, false, false, false, false, false, false, false, false, false, false, false, false] rfl (by kernel_rfl) hPB (fun K hK => ?_)
        go_simp
        refine hK _ ?_
        clear hK K
        refine wpK_auto (i := 1) #[true, true, false, false, false, false, false, false, false, false, false, false, false] rfl (by kernel_rfl) hPB (fun K hK => ?_)
        go_simp
        refine hK _ ?_
        clear hK K
        refine wpK_auto (i := 2) #[true, true, true, false, false, false, false, false, false, false, false, false, false] rfl (by kernel_rfl) hPB (fun K hK => ?_)
        go_simp
        refine hK _ ?_
        clear hK K
        refine wpK_auto (i := 3) #[true, true, true, true, false, false, false, false, false, false, false, false, false] rfl (by kernel_rfl) hPB (fun K hK => ?_)
        go_simp
        refine hK _ ?_
        clear hK K
        refine wpK_auto (i := 4) #[true, true, true, true, true, false, false, false, false, false, false, false, false] rfl (by kernel_rfl) hPB (fun K hK => ?_)
        go_simp
        refine hK _ ?_
        clear hK K
        refine wpK_take (i := 5) #[true, true, true, true, true, true, false, false, false, false, false, false, false] rfl (by kernel_rfl) hPB (y_loadc (v := .int .i64 x) rfl 2 (.tmp 30) rfl ⟨g, i, none⟩ (by kernel_rfl) HL1.out) ?_
        simp only [Act.put, List.setIfInBounds_toArray, List.set_cons_zero, List.set_cons_succ]
        refine wpK_auto (i := 6) #[true, true, true, true, true, true, true, false, false, false, false, false, false] rfl (by kernel_rfl) hPB (fun K hK => ?_)
        go_simp
        refine hK _ ?_
        clear hK K
        refine wpK_auto (i := 7) #[true, true, true, true, true, true, true, true, false, false, false, false, false] rfl (by kernel_rfl) hPB (fun K hK => ?_)
        go_simp
        refine hK _ ?_
        clear hK K
        refine wpK_auto (i := 8) #[true, true, true, true, true, true, true, true, true, false, false, false, false] rfl (by kernel_rfl) hPB (fun K hK => ?_)
        go_simp
        refine hK _ ?_
        clear hK K
        refine wpK_take (i := 9) #[true, true, true, true, true, true, true, true, true, true, false, false, false] rfl (by kernel_rfl) hPB (y_loadc (v := .int .i64 y) rfl 2 (.tmp 34) rfl (ad.add i) (by kernel_rfl) HL2.out) ?_
        simp only [Act.put, List.setIfInBounds_toArray, List.set_cons_zero, List.set_cons_succ]
        refine wpK_take (i := 10) #[true, true, true, true, true, true, true, true, true, true, true, false, false] rfl (by kernel_rfl) hPB (y_call (v := .int .i64 (min x y)) rfl Try.func48 (by kernel_rfl) rfl #[.int .i64 x, .int .i64 y] rfl (by simp only [List.map_toArray, List.map_cons, List.map_nil]; kernel_rfl) (fun w' h => min_any x y w')) ?_
        simp only [Act.put, List.setIfInBounds_toArray, List.set_cons_zero, List.set_cons_succ]
        refine wpK_auto (i := 11) #[true, true, true, true, true, true, true, true, true, true, true, true, false] rfl (by kernel_rfl) hPB (fun K hK => ?_)
        go_simp
        refine hK _ ?_
        clear hK K
        refine wpK_only (i := 12) #[true, true, true, true, true, true, true, true, true, true, true, true, true] (by kernel_rfl) (fun w6 hu => ?_)
        have hu1 : Below wr.heap.size wr w6 := (below_drewN (Below.refl _ _) 1 : Below wr.heap.size wr wr.drew).trans hu
        have hR6 := Kd.R_below HRr.out hu1
        obtain ⟨co6, fo6⟩ := Kd.R_celln 0 hR6 (i : Int) (by omega) (by omega)
        have hP6 := Kd.R_putn hR6 (i : Int) (min x y)
        refine k_put rfl rfl 2 (.tmp 37) (.tmp 36) rfl g i .i64 (min x y) _ (by kernel_rfl) (by kernel_rfl) co6 fo6 (by kernel_rfl) ⟨fun h => absurd h (by decide), ?_⟩
        simp only [Act.put]
        have hK6 := (HK.out.step hu1).set i (.int .i64 (min x y))
        refine wpK_done (by kernel_rfl) (fun w7 hu7 => ?_)
        have HK7 := Lib.hid (hK6.step hu7)
        have HR7 : Hid (Kd.R (Kd.int .i64) 2 w7 w.heap.size (fun k => k = g) (.slice (some ⟨g, 0, none⟩) 10 cap) (mnTo (byRes F G os) ts (i + 1))) := Lib.hid (by rw [← HPE.out]; exact Kd.R_below hP6 hu7)
        clear hK6 hu7 hu hu1 hR6 co6 fo6 hP6 hPB
        go_wp2
        go_roundw
        case rel => exact ⟨i + 1, by omega, by go_num, HK7, HR7⟩
        case measure => simp only [intOf]; omega
      · obtain rfl : i = 10 := by omega
        go_wp2
        go_ret2
        exact ⟨_, by rw [HR.out]; rfl, by rw [HR.out]; exact Kd.R_mono HRr.out (fun _ _ => trivial), HK.out.below HC5.out.below hgw HC5.out.below.size⟩
  · have HR : Hid (frRes F G os ts = ([], clCode F G os ts)) := Lib.hid (by unfold frRes; rw [if_neg hq])
    have hq' : (clCode F G os ts != 0) = true := by simpa using hq
    go_wp2_with (first
      | (go_at_call 46; refine (l06Claimed_any F G HO.out HP.out os HS.out ts HLN.out _ _ _ A n _ (HC.out.blk (w.heap.size, F.vals, 32) (by simp)) (HC.out.blk (w.heap.size + 1, G.vals, 32) (by simp)) (HC.out.blk (w.heap.size + 1 + 1, vrow .i8 os, 34) (by simp)) (Kd.C_below HA.out HC.out.below) HLC.out).mono ?_; rintro e w2 ⟨rfl, hb⟩; have HC1 := Lib.hid (HC.out.step hb); clear hb)
      | ((with_reducible refine gate_dst (N := 17) rfl ?_); refine Kd.R_lit (Kd.int .i64) (w0 := w) w.heap.size 2 ?hg (N := 17) ?hd (xs := ([] : List Int)) (inner := []) (ok := fun _ => True) (okp := fun _ => True) ?hr ?hp (fun _ hk => hk) trivial HC1.out.below (below_size HC1.out.below) (by simp) ?_; (case hd => rfl); (case hg => rfl); (case hr => first | (go_simp; done) | (go_simp; rfl)); (case hp => exact (Reps.none _ _)); intro v3 w3 ho1 hb1 hg1 hn1; clear hg1 hn1; have HRw3 := Lib.hid ho1; have HBw3 := Lib.hid hb1; clear ho1 hb1))
    go_ret2
    exact ⟨v3, by rw [HR.out]; rfl, by rw [HR.out]; exact HRw3.out, HBw3.out⟩

end Go.Proofs.Ytpkapkgfmibooaa
