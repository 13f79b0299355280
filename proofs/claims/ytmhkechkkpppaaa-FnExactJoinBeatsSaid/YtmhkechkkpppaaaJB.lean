/- JoinBeats, by the program and by the reference: the same. No condition but that the numbers are within their kinds. -/
import Derived.Test.YtmhkechkkpppaaaB2
import Derived.Test.YtmhkechkkpppaaaGR
namespace Go.Proofs.Ytmhkechkkpppaaa
open Go.RowKit Go.Proofs.YtmhkechkkpppaaaW.PrintWords Go.Proofs.YtmhkechkkpppaaaW.PrintLast Go.Proofs.YtmhkechkkpppaaaW.PrintMore Go.Proofs.Ytmhkechkkpppaaa.PAll
set_option linter.unusedSimpArgs false
set_option linter.unusedVariables false

/-- Two beats joined, and the code. -/
noncomputable def jbRes (F : Fld) (a b : List Int) : List Int × Int := if ((F.valid && onF F a) && (F.valid && onF F b)) = true then (if rd a 0 = rd b 0 then (if a.length + b.length ≤ 40 then (a ++ b, 0) else ([], 3)) else ([], 4)) else ([], 1)
theorem jbRes_len (F : Fld) (a b : List Int) : (jbRes F a b).1.length ≤ 1048576 := by
  unfold jbRes
  split
  · split
    · split
      · show (a ++ b).length ≤ _
        rw [List.length_append]
        omega
      · simp
    · simp
  · simp
theorem add_zero' (ad : Addr) : ad.add (0 : Int).toNat = ad := by
  show ad.add 0 = ad
  unfold Addr.add
  split <;> simp_all
theorem jb_1 {F : Fld} {a b : List Int} (h : (F.valid && onF F a) = false) : jbRes F a b = ([], 1) := by unfold jbRes; rw [if_neg (by rw [h]; simp)]
theorem jb_2 {F : Fld} {a b : List Int} (h1 : (F.valid && onF F a) = true) (h : (F.valid && onF F b) = false) : jbRes F a b = ([], 1) := by unfold jbRes; rw [if_neg (by rw [h1, h]; simp)]
theorem jb_3 {F : Fld} {a b : List Int} (h1 : (F.valid && onF F a) = true) (h2 : (F.valid && onF F b) = true) (h : ¬ rd a 0 = rd b 0) : jbRes F a b = ([], 4) := by unfold jbRes; rw [if_pos (by rw [h1, h2]; rfl), if_neg h]
theorem jb_4 {F : Fld} {a b : List Int} (h1 : (F.valid && onF F a) = true) (h2 : (F.valid && onF F b) = true) (h : rd a 0 = rd b 0) (hl : ¬ a.length + b.length ≤ 40) : jbRes F a b = ([], 3) := by unfold jbRes; rw [if_pos (by rw [h1, h2]; rfl), if_pos h, if_neg hl]
theorem jb_5 {F : Fld} {a b : List Int} (h1 : (F.valid && onF F a) = true) (h2 : (F.valid && onF F b) = true) (h : rd a 0 = rd b 0) (hl : a.length + b.length ≤ 40) : jbRes F a b = (a ++ b, 0) := by unfold jbRes; rw [if_pos (by rw [h1, h2]; rfl), if_pos h, if_pos hl]


set_option maxHeartbeats 4000000 in
theorem iJoinBeats_any (F : Fld) (hF : F.Ok) (a b : List Int) (ha : BtOk a) (hb : BtOk b) (A : Option Addr) (c : Nat) (B : Option Addr) (d : Nat) (w : World) (hA : BtAt w A a) (hlc : a.length ≤ c) (hB : BtAt w B b) (hld : b.length ≤ d) :
    Calls Try.prog 16 #[.agg F.vals.toArray, .slice A a.length c, .slice B b.length d] w fun e w' => ∃ v : Value, e = .returned (.tuple #[v, .int .i64 (jbRes F a b).2]) ∧ MadeB w w' (jbRes F a b).1 v ∧ Below w.heap.size w w' := by
  have HO := Lib.hid hF
  have HAO := Lib.hid ha
  have HBO := Lib.hid hb
  have HA := Lib.hid hA
  have HB := Lib.hid hB
  have HLC := Lib.hid hlc
  have HLD := Lib.hid hld
  clear hF ha hb hA hlc hB hld
  go_enter Try.func16, Try.ntmps16
  go_upto_region 1 with (fail)
  obtain ⟨W, hW⟩ : ∃ W, W = w.alloc (.cells F.vals.toArray 32) := ⟨_, rfl⟩
  have HC := Lib.hid (boxed1 w F.vals 32)
  rw [← hW] at HC ⊢
  clear hW
  cases hv1 : (F.valid && onF F a)
  · have HV1 := Lib.hid hv1
    have HR := Lib.hid (jb_1 (b := b) hv1)
    clear hv1
    go_wp2_with (first
      | (with_reducible refine wpList_load_blk rfl 32 (.tmp 3) rfl _ 0 rfl F.vals _ (HC.out.blk (w.heap.size, F.vals, 32) (by simp)) (by rw [List.drop_zero, List.take_length]) Try.underlying32 rfl (by rw [HO.out.len]; kernel_rfl) ?_)
      | (go_at_call 47; refine (validBeat_any F HO.out a HAO.out A _ _ (Kd.C_below HA.out HC.out.below)).mono ?_; rintro e w1 ⟨rfl, hb⟩; rw [HV1.out]; have HC1 := Lib.hid (HC.out.step hb); clear hb))
    go_ret2
    exact ⟨.slice none 0 0, by rw [HR.out]; rfl, by rw [HR.out]; exact Kd.R_nil _ _ _ _ _, HC1.out.below⟩
  have HV1 := Lib.hid hv1
  cases hv2 : (F.valid && onF F b)
  · have HV2 := Lib.hid hv2
    have HR := Lib.hid (jb_2 hv1 hv2)
    clear hv1 hv2
    go_wp2_with (first
      | (with_reducible refine wpList_guard rfl (wpList_load_blk rfl 32 (.tmp 3) rfl _ 0 rfl F.vals _ (HC1.out.blk (w.heap.size, F.vals, 32) (by simp)) (by rw [List.drop_zero, List.take_length]) Try.underlying32 rfl (by rw [HO.out.len]; kernel_rfl) ?_))
      | (with_reducible refine wpList_load_blk rfl 32 (.tmp 3) rfl _ 0 rfl F.vals _ (HC.out.blk (w.heap.size, F.vals, 32) (by simp)) (by rw [List.drop_zero, List.take_length]) Try.underlying32 rfl (by rw [HO.out.len]; kernel_rfl) ?_)
      | (go_at_call 47; refine (validBeat_any F HO.out b HBO.out B _ _ (Kd.C_below HB.out HC1.out.below)).mono ?_; rintro e w2 ⟨rfl, hb⟩; rw [HV2.out]; have HC2 := Lib.hid (HC1.out.step hb); clear hb)
      | (go_at_call 47; refine (validBeat_any F HO.out a HAO.out A _ _ (Kd.C_below HA.out HC.out.below)).mono ?_; rintro e w1 ⟨rfl, hb⟩; rw [HV1.out]; have HC1 := Lib.hid (HC.out.step hb); clear hb))
    go_ret2
    exact ⟨.slice none 0 0, by rw [HR.out]; rfl, by rw [HR.out]; exact Kd.R_nil _ _ _ _ _, HC2.out.below⟩
  have HV2 := Lib.hid hv2
  obtain ⟨la0, la1, _⟩ := beat_cells hv1
  obtain ⟨lb0, lb1, _⟩ := beat_cells hv2
  have HJ3 := Lib.hid (jb_3 hv1 hv2)
  have HJ4 := Lib.hid (jb_4 hv1 hv2)
  have HJ5 := Lib.hid (jb_5 hv1 hv2)
  clear hv1 hv2
  go_upto_region 3 with (first
    | (with_reducible refine wpList_guard rfl (wpList_load_blk rfl 32 (.tmp 3) rfl _ 0 rfl F.vals _ (HC1.out.blk (w.heap.size, F.vals, 32) (by simp)) (by rw [List.drop_zero, List.take_length]) Try.underlying32 rfl (by rw [HO.out.len]; kernel_rfl) ?_))
    | (with_reducible refine wpList_load_blk rfl 32 (.tmp 3) rfl _ 0 rfl F.vals _ (HC.out.blk (w.heap.size, F.vals, 32) (by simp)) (by rw [List.drop_zero, List.take_length]) Try.underlying32 rfl (by rw [HO.out.len]; kernel_rfl) ?_)
    | (go_at_call 47; refine (validBeat_any F HO.out b HBO.out B _ _ (Kd.C_below HB.out HC1.out.below)).mono ?_; rintro e w2 ⟨rfl, hb⟩; rw [HV2.out]; have HC2 := Lib.hid (HC1.out.step hb); clear hb)
    | (go_at_call 47; refine (validBeat_any F HO.out a HAO.out A _ _ (Kd.C_below HA.out HC.out.below)).mono ?_; rintro e w1 ⟨rfl, hb⟩; rw [HV1.out]; have HC1 := Lib.hid (HC.out.step hb); clear hb))
  obtain ⟨ad, hA2, hx⟩ := Kd.at_int (Kd.C_below HA.out HC2.out.below) 0 (by omega) (by omega)
  obtain ⟨bd, hB2, hy⟩ := Kd.at_int (Kd.C_below HB.out HC2.out.below) 0 (by omega) (by omega)
  subst hA2 hB2
  rw [add_zero'] at hx hy
  by_cases h0 : rd a 0 = rd b 0
  · have h0' : (rd a 0 != rd b 0) = false := by simpa using h0
    go_quiet (fail)
    have HD := Lib.hid ((HC2.out.step (below_drewN (Below.refl w2.heap.size w2) nq)).alloc (.cells [Value.slice (some ad) a.length c, Value.slice (some bd) b.length d].toArray 29))
    by_cases hl : a.length + b.length ≤ 40
    · have HR := Lib.hid (HJ5.out h0 hl)
      go_wp2_with (first
        | (go_at_call 48; refine (concat_any a b (some ad) (some bd) c d _ 2 _ ((Blk.new' (w2.drewN nq) [.slice (some ad) a.length c, .slice (some bd) b.length d] 29).cell rfl) ((Blk.new' (w2.drewN nq) [.slice (some ad) a.length c, .slice (some bd) b.length d] 29).cell rfl) (by simp) (Kd.C_below HA.out HD.out.below) (Kd.C_below HB.out HD.out.below) (by omega) (by omega)).mono ?_; rintro e w4 ⟨v4, rfl, hm, hb⟩; have HM := Lib.hid (Kd.R_lower hm HD.out.below.size); have HC4 := Lib.hid (HD.out.step hb); clear hb hm))
      go_ret2
      exact ⟨v4, by rw [HR.out]; rfl, by rw [HR.out]; exact HM.out, HC4.out.below⟩
    · have HR := Lib.hid (HJ4.out h0 hl)
      go_wp2
      go_ret2
      exact ⟨.slice none 0 0, by rw [HR.out]; rfl, by rw [HR.out]; exact Kd.R_nil _ _ _ _ _, below_drewN HC2.out.below _⟩
  · have HR := Lib.hid (HJ3.out h0)
    have h0' : (rd a 0 != rd b 0) = true := by simpa using h0
    go_quiet (fail)
    go_wp2
    go_ret2
    exact ⟨.slice none 0 0, by rw [HR.out]; rfl, by rw [HR.out]; exact Kd.R_nil _ _ _ _ _, below_drewN HC2.out.below _⟩


set_option maxHeartbeats 4000000 in
theorem sJoinBeats_any (F : Fld) (hF : F.Ok) (a b : List Int) (ha : BtOk a) (hb : BtOk b) (A : Option Addr) (c : Nat) (B : Option Addr) (d : Nat) (w : World) (hA : BtAt w A a) (hlc : a.length ≤ c) (hB : BtAt w B b) (hld : b.length ≤ d) :
    Calls Try.prog 13 #[.agg F.vals.toArray, .slice A a.length c, .slice B b.length d] w fun e w' => ∃ v : Value, e = .returned (.tuple #[v, .int .i64 (jbRes F a b).2]) ∧ MadeB w w' (jbRes F a b).1 v ∧ Below w.heap.size w w' := by
  have HO := Lib.hid hF
  have HAO := Lib.hid ha
  have HBO := Lib.hid hb
  have HA := Lib.hid hA
  have HB := Lib.hid hB
  have HLC := Lib.hid hlc
  have HLD := Lib.hid hld
  clear hF ha hb hA hlc hB hld
  go_enter Try.func13, Try.ntmps13
  go_upto_region 1 with (fail)
  obtain ⟨W, hW⟩ : ∃ W, W = w.alloc (.cells F.vals.toArray 32) := ⟨_, rfl⟩
  have HC := Lib.hid (boxed1 w F.vals 32)
  rw [← hW] at HC ⊢
  clear hW
  cases hv1 : (F.valid && onF F a)
  · have HV1 := Lib.hid hv1
    have HR := Lib.hid (jb_1 (b := b) hv1)
    clear hv1
    go_wp2_with (first
      | (go_at_call 44; refine (l05Ok_any F HO.out a HAO.out _ A _ _ (HC.out.blk (w.heap.size, F.vals, 32) (by simp)) (Kd.C_below HA.out HC.out.below)).mono ?_; rintro e w1 ⟨rfl, m1, hw⟩; rw [HV1.out]; have HC1 := Lib.hid (HC.out.step (show Below W.heap.size W w1 by rw [hw]; exact below_drewN (Below.refl _ _) _)); clear hw)
      | ((with_reducible refine gate_dst (N := 16) rfl ?_); refine Kd.R_lit (Kd.int .i16) (w0 := w) w.heap.size 24 ?hg (N := 16) ?hd (xs := ([] : List Int)) (inner := []) (ok := fun _ => True) (okp := fun _ => True) ?hr ?hp (fun _ hk => hk) trivial HC1.out.below (below_size HC1.out.below) (by simp) ?_; (case hd => rfl); (case hg => rfl); (case hr => first | (go_simp; done) | (go_simp; rfl)); (case hp => exact (Reps.none _ _)); intro v3 w3 ho1 hb1 hg1 hn1; clear hg1 hn1; have HR3 := Lib.hid ho1; have HB3 := Lib.hid hb1; clear ho1 hb1))
    go_ret2
    exact ⟨v3, by rw [HR.out]; rfl, by rw [HR.out]; exact HR3.out, HB3.out⟩
  have HV1 := Lib.hid hv1
  cases hv2 : (F.valid && onF F b)
  · have HV2 := Lib.hid hv2
    have HR := Lib.hid (jb_2 hv1 hv2)
    clear hv1 hv2
    go_wp2_with (first
      | (go_at_call 44; refine (l05Ok_any F HO.out b HBO.out _ B _ _ (HC1.out.blk (w.heap.size, F.vals, 32) (by simp)) (Kd.C_below HB.out HC1.out.below)).mono ?_; rintro e w2 ⟨rfl, m2, hw⟩; rw [HV2.out]; have HC2 := Lib.hid (HC1.out.step (show Below w1.heap.size w1 w2 by rw [hw]; exact below_drewN (Below.refl _ _) _)); clear hw)
      | (go_at_call 44; refine (l05Ok_any F HO.out a HAO.out _ A _ _ (HC.out.blk (w.heap.size, F.vals, 32) (by simp)) (Kd.C_below HA.out HC.out.below)).mono ?_; rintro e w1 ⟨rfl, m1, hw⟩; rw [HV1.out]; have HC1 := Lib.hid (HC.out.step (show Below W.heap.size W w1 by rw [hw]; exact below_drewN (Below.refl _ _) _)); clear hw)
      | ((with_reducible refine gate_dst (N := 16) rfl ?_); refine Kd.R_lit (Kd.int .i16) (w0 := w) w.heap.size 24 ?hg (N := 16) ?hd (xs := ([] : List Int)) (inner := []) (ok := fun _ => True) (okp := fun _ => True) ?hr ?hp (fun _ hk => hk) trivial HC2.out.below (below_size HC2.out.below) (by simp) ?_; (case hd => rfl); (case hg => rfl); (case hr => first | (go_simp; done) | (go_simp; rfl)); (case hp => exact (Reps.none _ _)); intro v3 w3 ho1 hb1 hg1 hn1; clear hg1 hn1; have HR3 := Lib.hid ho1; have HB3 := Lib.hid hb1; clear ho1 hb1))
    go_ret2
    exact ⟨v3, by rw [HR.out]; rfl, by rw [HR.out]; exact HR3.out, HB3.out⟩
  have HV2 := Lib.hid hv2
  obtain ⟨la0, la1, _⟩ := beat_cells hv1
  obtain ⟨lb0, lb1, _⟩ := beat_cells hv2
  have HJ3 := Lib.hid (jb_3 hv1 hv2)
  have HJ4 := Lib.hid (jb_4 hv1 hv2)
  have HJ5 := Lib.hid (jb_5 hv1 hv2)
  clear hv1 hv2
  go_upto_region 3 with (first
    | (go_at_call 44; refine (l05Ok_any F HO.out b HBO.out _ B _ _ (HC1.out.blk (w.heap.size, F.vals, 32) (by simp)) (Kd.C_below HB.out HC1.out.below)).mono ?_; rintro e w2 ⟨rfl, m2, hw⟩; rw [HV2.out]; have HC2 := Lib.hid (HC1.out.step (show Below w1.heap.size w1 w2 by rw [hw]; exact below_drewN (Below.refl _ _) _)); clear hw)
    | (go_at_call 44; refine (l05Ok_any F HO.out a HAO.out _ A _ _ (HC.out.blk (w.heap.size, F.vals, 32) (by simp)) (Kd.C_below HA.out HC.out.below)).mono ?_; rintro e w1 ⟨rfl, m1, hw⟩; rw [HV1.out]; have HC1 := Lib.hid (HC.out.step (show Below W.heap.size W w1 by rw [hw]; exact below_drewN (Below.refl _ _) _)); clear hw))
  obtain ⟨ad, hA2, hx⟩ := Kd.at_int (Kd.C_below HA.out HC2.out.below) 0 (by omega) (by omega)
  obtain ⟨bd, hB2, hy⟩ := Kd.at_int (Kd.C_below HB.out HC2.out.below) 0 (by omega) (by omega)
  subst hA2 hB2
  rw [add_zero'] at hx hy
  by_cases h0 : rd a 0 = rd b 0
  · have h0' : (rd a 0 != rd b 0) = false := by simpa using h0
    go_quiet (fail)
    have HD := Lib.hid (show Below w.heap.size w (w2.drewN nq) from below_drewN HC2.out.below _)
    by_cases hl : a.length + b.length ≤ 40
    · have HR := Lib.hid (HJ5.out h0 hl)
      go_wp2_with (first
        | ((with_reducible refine gate_dst (N := 32) rfl ?_); refine Kd.R_lit (Kd.int .i16) (w0 := w) w.heap.size 24 ?hg (N := 32) ?hd (xs := ([] : List Int)) (inner := []) (ok := fun _ => True) (okp := fun _ => True) ?hr ?hp (fun _ hk => hk) trivial HD.out (below_size HD.out) (by simp) ?_; (case hd => rfl); (case hg => rfl); (case hr => first | (go_simp; done) | (go_simp; rfl)); (case hp => exact (Reps.none _ _)); intro v3 w3 ho1 hb1 hg1 hn1; clear hg1 hn1; have HR3 := Lib.hid ho1; have HB3 := Lib.hid hb1; clear ho1 hb1)
        | ((with_reducible refine gate_builtin (b := .append) (xs := #[.tmp 32, .tmp 33]) rfl ?_); at_builtin; refine Kd.R_append_rows (Kd.int .i16) (w0 := w) w.heap.size rfl (.tmp 32) (.tmp 33) 29 24 (.int .i16 0) 2 rfl Try.underlying29 info_i16 rfl (by decide) (by omega) _ ([]) (a) _ _ _ (fun _ => True) (fun _ => False) rfl rfl HR3.out (Kd.C_below HA.out HB3.out) (fun _ _ h => h) (fun _ h => h.elim) (fun _ _ => trivial) HB3.out HB3.out.size (by first | omega | (simp; omega)) ?_; intro v4 w4 ho hb hg hat; have HR4 := Lib.hid ho; have HB4 := Lib.hid hb; clear ho hb hg hat)
        | ((with_reducible refine gate_builtin (b := .append) (xs := #[.tmp 34, .tmp 35]) rfl ?_); at_builtin; refine Kd.R_append_rows (Kd.int .i16) (w0 := w) w.heap.size rfl (.tmp 34) (.tmp 35) 29 24 (.int .i16 0) 2 rfl Try.underlying29 info_i16 rfl (by decide) (by omega) _ (a) (b) _ _ _ (fun _ => True) (fun _ => False) rfl rfl HR4.out (Kd.C_below HB.out HB4.out) (fun _ _ h => h) (fun _ h => h.elim) (fun _ _ => trivial) HB4.out HB4.out.size (by first | omega | (simp; omega)) ?_; intro v5 w5 ho hb hg hat; have HR5 := Lib.hid ho; have HB5 := Lib.hid hb; clear ho hb hg hat))
      go_ret2
      exact ⟨v5, by rw [HR.out]; rfl, by rw [HR.out]; exact HR5.out, HB5.out⟩
    · have HR := Lib.hid (HJ4.out h0 hl)
      go_wp2_with (first
        | ((with_reducible refine gate_dst (N := 31) rfl ?_); refine Kd.R_lit (Kd.int .i16) (w0 := w) w.heap.size 24 ?hg (N := 31) ?hd (xs := ([] : List Int)) (inner := []) (ok := fun _ => True) (okp := fun _ => True) ?hr ?hp (fun _ hk => hk) trivial HD.out (below_size HD.out) (by simp) ?_; (case hd => rfl); (case hg => rfl); (case hr => first | (go_simp; done) | (go_simp; rfl)); (case hp => exact (Reps.none _ _)); intro v3 w3 ho1 hb1 hg1 hn1; clear hg1 hn1; have HR3 := Lib.hid ho1; have HB3 := Lib.hid hb1; clear ho1 hb1))
      go_ret2
      exact ⟨v3, by rw [HR.out]; rfl, by rw [HR.out]; exact HR3.out, HB3.out⟩
  · have HR := Lib.hid (HJ3.out h0)
    have h0' : (rd a 0 != rd b 0) = true := by simpa using h0
    go_quiet (fail)
    have HD := Lib.hid (show Below w.heap.size w (w2.drewN nq) from below_drewN HC2.out.below _)
    go_wp2_with (first
      | ((with_reducible refine gate_dst (N := 24) rfl ?_); refine Kd.R_lit (Kd.int .i16) (w0 := w) w.heap.size 24 ?hg (N := 24) ?hd (xs := ([] : List Int)) (inner := []) (ok := fun _ => True) (okp := fun _ => True) ?hr ?hp (fun _ hk => hk) trivial HD.out (below_size HD.out) (by simp) ?_; (case hd => rfl); (case hg => rfl); (case hr => first | (go_simp; done) | (go_simp; rfl)); (case hp => exact (Reps.none _ _)); intro v3 w3 ho1 hb1 hg1 hn1; clear hg1 hn1; have HR3 := Lib.hid ho1; have HB3 := Lib.hid hb1; clear ho1 hb1))
    go_ret2
    exact ⟨v3, by rw [HR.out]; rfl, by rw [HR.out]; exact HR3.out, HB3.out⟩

end Go.Proofs.Ytmhkechkkpppaaa
