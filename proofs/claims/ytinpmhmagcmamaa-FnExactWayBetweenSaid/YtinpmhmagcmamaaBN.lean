/- The cells that share a side with a cell, by the program and by the reference: the same list. No condition but that the numbers are within their kinds. -/
import Derived.Test.YtinpmhmagcmamaaEV
import Derived.Test.YtinpmhmagcmamaaG3
import Derived.Test.YtinpmhmagcmamaaGC
import Derived.Test.YtinpmhmagcmamaaGB
import Derived.Test.YtinpmhmagcmamaaPAllx1
namespace Go.Proofs.Ytinpmhmagcmamaa
open Go.RowKit Go.Proofs.YtinpmhmagcmamaaW.PrintWords Go.Proofs.YtinpmhmagcmamaaW.PrintLast Go.Proofs.YtinpmhmagcmamaaW.PrintMore
set_option linter.unusedSimpArgs false
set_option linter.unusedVariables false

def offs : Nat → Int
  | 0 => -10
  | 1 => -1
  | 2 => 1
  | _ => 10
/-- Whether the k-th cell beside is one across no border. -/
def flat (c k : Nat) : Bool := !((k == 1 && c % 10 == 0) || (k == 2 && c % 10 == 9))
def nextTo (F : Fld) (c k : Nat) : Bool := flat c k && F.has ((c : Int) + offs k)
def bes (F : Fld) (c : Nat) : Nat → List Int
  | 0 => []
  | k + 1 => if nextTo F c k = true then bes F c k ++ [(c : Int) + offs k] else bes F c k
theorem bes_len (F : Fld) (c : Nat) : ∀ k, (bes F c k).length ≤ k
  | 0 => by simp [bes]
  | k + 1 => by
    have := bes_len F c k
    simp only [bes]
    split
    · simp; omega
    · omega
theorem bes_in (F : Fld) (c : Nat) : ∀ k i, i < (bes F c k).length → F.has (rd (bes F c k) (i : Int)) = true
  | 0, i, h => by simp [bes] at h
  | k + 1, i, h => by
    simp only [bes] at h ⊢
    split at h
    case isTrue hx =>
      rw [if_pos hx]
      rw [List.length_append] at h
      simp at h
      rcases Nat.lt_or_ge i (bes F c k).length with h1 | h1
      · rw [rd_app_l _ _ h1]
        exact bes_in F c k i h1
      · obtain rfl : i = (bes F c k).length := by omega
        rw [rd_app_r]
        unfold nextTo at hx
        rw [Bool.and_eq_true] at hx
        exact hx.2
    case isFalse hx =>
      rw [if_neg hx]
      exact bes_in F c k i h
theorem bes_yes {F : Fld} {c k : Nat} (h : nextTo F c k = true) : bes F c (k + 1) = bes F c k ++ [(c : Int) + offs k] := by simp only [bes]; rw [if_pos h]
theorem bes_no {F : Fld} {c k : Nat} (h : nextTo F c k = false) : bes F c (k + 1) = bes F c k := by simp only [bes]; rw [if_neg (by rw [h]; decide)]
theorem square_beside : ∀ (c : Fin 100) (k : Fin 4), inB ((c.val : Int) + offs k.val) 0 99 = true → PAll.spec_l01Square.f (c.val : Int) ((c.val : Int) + offs k.val) = some (if flat c.val k.val = true then 1 else 82) := by decide +kernel
theorem has_in {F : Fld} {c : Int} (h : F.has c = true) : inB c 0 99 = true := by
  unfold Fld.has at h
  rw [Bool.and_eq_true] at h
  exact h.1
theorem infoN_i64 : (Try.prog.info? 2).map (fun i => (i.zero, i.size, i.bytes)) = some (some (.int .i64 0), 1, 8) := by kernel_rfl

set_option maxRecDepth 100000 in
set_option maxHeartbeats 4000000 in
theorem neigh_any (F : Fld) (hF : F.Ok) {c : Nat} (hc : c < 100) (g : Nat) (w : World) (hf : IsF w g F) :
    Calls Try.prog 25 #[.pointer (some ⟨g, 0, none⟩), .int .i64 (c : Int)] w fun e w' => ∃ v : Value, e = .returned v ∧ Made w w' (bes F c 4) v ∧ Below w.heap.size w w' := by
  have HF := Lib.hid hf
  have HO := Lib.hid hF
  have hfl := hf.lt
  clear hf hF
  obtain ⟨x, hx⟩ : ∃ x, x = c % 10 := ⟨_, rfl⟩
  have hx9 : x < 10 := by omega
  have em : (c : Int) % 10 = (x : Int) := by omega
  have et : (c : Int).tmod 10 = (x : Int) := by rw [Int.tmod_eq_emod_of_nonneg (by omega)]; exact em
  have HX0 := Lib.hid hx
  clear hx
  go_enter Try.func25, Try.ntmps25
  go_wp2_with (first
    | ((with_reducible refine gate_dst (N := 9) rfl ?_); refine Kd.R_lit (Kd.int .i64) (w0 := w) w.heap.size 2 ?hg (N := 9) ?hd (xs := ([] : List Int)) (inner := []) (ok := fun _ => True) (okp := fun _ => True) ?hr ?hp (fun _ hk => hk) trivial (Below.refl _ _) (Nat.le_refl _) (by simp) ?_; (case hd => rfl); (case hg => rfl); (case hr => first | (go_simp; done) | (go_simp; rfl)); (case hp => exact (Reps.none _ _)); intro v1 w1 ho1 hb1 hg1 hn1; clear hg1 hn1; have HR1 := Lib.hid ho1; have HB1 := Lib.hid hb1; clear ho1 hb1))
  go_loopw [5, 13] (fun u v wr => ∃ i : Nat, i ≤ 4 ∧ v = .int .i64 i ∧ Hid (Made w wr (bes F c i) u) ∧ Hid (Below w.heap.size w wr)) (fun _ v _ => 4 - (intOf v).toNat)
  case atStart => exact ⟨0, by omega, rfl, Lib.hid HR1.out, HB1⟩
  case round =>
    clear HR1 HB1
    obtain ⟨i, hi, rfl, HR, HB⟩ := hrel
    have HL : Hid ((bes F c i).length ≤ i) := Lib.hid (bes_len F c i)
    by_cases hlt : i < 4
    · obtain rfl | rfl | rfl | rfl : i = 0 ∨ i = 1 ∨ i = 2 ∨ i = 3 := by omega
      · skip
        have ew : wrap64 ((c : Int) + (-10)) = (c : Int) + (-10) := by unfold wrap64; omega
        have eb : (c : Int) + offs 0 = ((c : Int) + (-10)) := rfl
        cases hh : F.has ((c : Int) + (-10))
        · have HX := Lib.hid hh
          have HN : Hid (bes F c 1 = bes F c 0) := Lib.hid (bes_no (by unfold nextTo; rw [eb, hh, Bool.and_false]))
          clear hh eb
          try clear hq
          go_wp2_with (first | ((with_reducible refine gate_dst (N := 15) rfl ?_); refine Kd.event_run (v := .int .i64 (-10)) (w1 := wr) rfl (by kernel_rfl) ?_; simp only [Act.put, List.setIfInBounds_toArray, List.set_cons_zero, List.set_cons_succ]) | (go_at_call 23; refine (has_any F _ ((c : Int) + (-10)) _ (HF.out.below HB.out hfl) HO.out).mono ?_; rintro e w' ⟨rfl, rfl⟩; rw [HX.out]))
          go_roundw
          case rel => exact ⟨1, by omega, by go_num, by rw [HN.out]; exact HR, HB⟩
          case measure => simp only [intOf]; omega
        · have HX := Lib.hid hh
          have HN : Hid (bes F c 1 = bes F c 0 ++ [((c : Int) + (-10))]) := Lib.hid (by rw [← eb]; exact bes_yes (by unfold nextTo; rw [eb, hh, Bool.and_true]; rfl))
          clear hh eb
          try clear hq
          go_wp2_with (first
            | ((with_reducible refine gate_dst (N := 15) rfl ?_); refine Kd.event_run (v := .int .i64 (-10)) (w1 := wr) rfl (by kernel_rfl) ?_; simp only [Act.put, List.setIfInBounds_toArray, List.set_cons_zero, List.set_cons_succ])
            | (go_at_call 23; refine (has_any F _ ((c : Int) + (-10)) _ (HF.out.below HB.out hfl) HO.out).mono ?_; rintro e w' ⟨rfl, rfl⟩; rw [HX.out])
            | ((with_reducible refine gate_builtin (b := .append) (xs := #[.tmp 38, .tmp 42]) rfl ?_); at_builtin; refine Kd.R_append (Kd.int .i64) (w0 := w) w.heap.size rfl (.tmp 38) (.tmp 42) 28 2 (.int .i64 0) 8 rfl Try.underlying28 infoN_i64 rfl (by decide) (by omega) _ (bes F c 0) ((c : Int) + (-10)) [.int .i64 ((c : Int) + (-10))] (fun _ => True) (fun _ => False) rfl rfl ?aP (fun _ hk => hk.elim) ?aF ?aO ?aB ?aS ?aL ?_; (case aP => exact rfl); (case aF => exact (fun _ _ => trivial)); (case aO => exact (by (with_reducible repeat (first | apply Kd.R_alloc | apply Kd.R_drewN | apply Kd.R_drew)); exact HR.out)); (case aB => exact (by repeat (first | (with_reducible first | exact HB.out | apply below_alloc | apply pw_below_drewN | apply below_drew1) | exact HB.out))); (case aS => exact (below_size (by repeat (first | (with_reducible first | exact HB.out | apply below_alloc | apply pw_below_drewN | apply below_drew1) | exact HB.out)))); (case aL => have := HL.out; omega); intro v2 w2 ho hb hg hat; rw [← HN.out] at ho; have HR2 := Lib.hid ho; have HB2 := Lib.hid hb; clear ho hb hg hat))
          go_roundw
          case rel => exact ⟨1, by omega, by go_num, HR2, HB2⟩
          case measure => simp only [intOf]; omega
      · skip
        by_cases h0 : x = 0
        · have HN : Hid (bes F c 2 = bes F c 1) := Lib.hid (bes_no (by unfold nextTo flat; rw [← HX0.out, h0]; simp))
          rw [h0] at et em
          go_wp2_with (((with_reducible refine gate_dst (N := 15) rfl ?_); refine Kd.event_run (v := .int .i64 (-1)) (w1 := wr) rfl (by kernel_rfl) ?_; simp only [Act.put, List.setIfInBounds_toArray, List.set_cons_zero, List.set_cons_succ]))
          go_roundw
          case rel => exact ⟨2, by omega, by go_num, by rw [HN.out]; exact HR, HB⟩
          case measure => simp only [intOf]; omega
        · have h0b : ((x : Int) == 0) = false := by rw [beq_eq_false_iff_ne]; omega
          have hfl2 : flat c 1 = true := by unfold flat; rw [← HX0.out]; simp [h0]
          have ew : wrap64 ((c : Int) + (-1)) = (c : Int) + (-1) := by unfold wrap64; omega
          have eb : (c : Int) + offs 1 = ((c : Int) + (-1)) := rfl
          cases hh : F.has ((c : Int) + (-1))
          · have HX := Lib.hid hh
            have HN : Hid (bes F c 2 = bes F c 1) := Lib.hid (bes_no (by unfold nextTo; rw [eb, hh, Bool.and_false]))
            clear hh eb
            try clear hq
            go_wp2_with (first | ((with_reducible refine gate_dst (N := 15) rfl ?_); refine Kd.event_run (v := .int .i64 (-1)) (w1 := wr) rfl (by kernel_rfl) ?_; simp only [Act.put, List.setIfInBounds_toArray, List.set_cons_zero, List.set_cons_succ]) | (go_at_call 23; refine (has_any F _ ((c : Int) + (-1)) _ (HF.out.below HB.out hfl) HO.out).mono ?_; rintro e w' ⟨rfl, rfl⟩; rw [HX.out]))
            go_roundw
            case rel => exact ⟨2, by omega, by go_num, by rw [HN.out]; exact HR, HB⟩
            case measure => simp only [intOf]; omega
          · have HX := Lib.hid hh
            have HN : Hid (bes F c 2 = bes F c 1 ++ [((c : Int) + (-1))]) := Lib.hid (by rw [← eb]; exact bes_yes (by unfold nextTo; rw [eb, hh, Bool.and_true]; exact hfl2))
            clear hh eb
            try clear hq
            go_wp2_with (first
              | ((with_reducible refine gate_dst (N := 15) rfl ?_); refine Kd.event_run (v := .int .i64 (-1)) (w1 := wr) rfl (by kernel_rfl) ?_; simp only [Act.put, List.setIfInBounds_toArray, List.set_cons_zero, List.set_cons_succ])
              | (go_at_call 23; refine (has_any F _ ((c : Int) + (-1)) _ (HF.out.below HB.out hfl) HO.out).mono ?_; rintro e w' ⟨rfl, rfl⟩; rw [HX.out])
              | ((with_reducible refine gate_builtin (b := .append) (xs := #[.tmp 38, .tmp 42]) rfl ?_); at_builtin; refine Kd.R_append (Kd.int .i64) (w0 := w) w.heap.size rfl (.tmp 38) (.tmp 42) 28 2 (.int .i64 0) 8 rfl Try.underlying28 infoN_i64 rfl (by decide) (by omega) _ (bes F c 1) ((c : Int) + (-1)) [.int .i64 ((c : Int) + (-1))] (fun _ => True) (fun _ => False) rfl rfl ?aP (fun _ hk => hk.elim) ?aF ?aO ?aB ?aS ?aL ?_; (case aP => exact rfl); (case aF => exact (fun _ _ => trivial)); (case aO => exact (by (with_reducible repeat (first | apply Kd.R_alloc | apply Kd.R_drewN | apply Kd.R_drew)); exact HR.out)); (case aB => exact (by repeat (first | (with_reducible first | exact HB.out | apply below_alloc | apply pw_below_drewN | apply below_drew1) | exact HB.out))); (case aS => exact (below_size (by repeat (first | (with_reducible first | exact HB.out | apply below_alloc | apply pw_below_drewN | apply below_drew1) | exact HB.out)))); (case aL => have := HL.out; omega); intro v2 w2 ho hb hg hat; rw [← HN.out] at ho; have HR2 := Lib.hid ho; have HB2 := Lib.hid hb; clear ho hb hg hat))
            go_roundw
            case rel => exact ⟨2, by omega, by go_num, HR2, HB2⟩
            case measure => simp only [intOf]; omega
      · skip
        by_cases h0 : x = 9
        · have HN : Hid (bes F c 3 = bes F c 2) := Lib.hid (bes_no (by unfold nextTo flat; rw [← HX0.out, h0]; simp))
          rw [h0] at et em
          go_wp2_with (((with_reducible refine gate_dst (N := 15) rfl ?_); refine Kd.event_run (v := .int .i64 1) (w1 := wr) rfl (by kernel_rfl) ?_; simp only [Act.put, List.setIfInBounds_toArray, List.set_cons_zero, List.set_cons_succ]))
          go_roundw
          case rel => exact ⟨3, by omega, by go_num, by rw [HN.out]; exact HR, HB⟩
          case measure => simp only [intOf]; omega
        · have h0b : ((x : Int) == 9) = false := by rw [beq_eq_false_iff_ne]; omega
          have hfl2 : flat c 2 = true := by unfold flat; rw [← HX0.out]; simp [h0]
          have ew : wrap64 ((c : Int) + 1) = (c : Int) + 1 := by unfold wrap64; omega
          have eb : (c : Int) + offs 2 = ((c : Int) + 1) := rfl
          cases hh : F.has ((c : Int) + 1)
          · have HX := Lib.hid hh
            have HN : Hid (bes F c 3 = bes F c 2) := Lib.hid (bes_no (by unfold nextTo; rw [eb, hh, Bool.and_false]))
            clear hh eb
            try clear hq
            go_wp2_with (first | ((with_reducible refine gate_dst (N := 15) rfl ?_); refine Kd.event_run (v := .int .i64 1) (w1 := wr) rfl (by kernel_rfl) ?_; simp only [Act.put, List.setIfInBounds_toArray, List.set_cons_zero, List.set_cons_succ]) | (go_at_call 23; refine (has_any F _ ((c : Int) + 1) _ (HF.out.below HB.out hfl) HO.out).mono ?_; rintro e w' ⟨rfl, rfl⟩; rw [HX.out]))
            go_roundw
            case rel => exact ⟨3, by omega, by go_num, by rw [HN.out]; exact HR, HB⟩
            case measure => simp only [intOf]; omega
          · have HX := Lib.hid hh
            have HN : Hid (bes F c 3 = bes F c 2 ++ [((c : Int) + 1)]) := Lib.hid (by rw [← eb]; exact bes_yes (by unfold nextTo; rw [eb, hh, Bool.and_true]; exact hfl2))
            clear hh eb
            try clear hq
            go_wp2_with (first
              | ((with_reducible refine gate_dst (N := 15) rfl ?_); refine Kd.event_run (v := .int .i64 1) (w1 := wr) rfl (by kernel_rfl) ?_; simp only [Act.put, List.setIfInBounds_toArray, List.set_cons_zero, List.set_cons_succ])
              | (go_at_call 23; refine (has_any F _ ((c : Int) + 1) _ (HF.out.below HB.out hfl) HO.out).mono ?_; rintro e w' ⟨rfl, rfl⟩; rw [HX.out])
              | ((with_reducible refine gate_builtin (b := .append) (xs := #[.tmp 38, .tmp 42]) rfl ?_); at_builtin; refine Kd.R_append (Kd.int .i64) (w0 := w) w.heap.size rfl (.tmp 38) (.tmp 42) 28 2 (.int .i64 0) 8 rfl Try.underlying28 infoN_i64 rfl (by decide) (by omega) _ (bes F c 2) ((c : Int) + 1) [.int .i64 ((c : Int) + 1)] (fun _ => True) (fun _ => False) rfl rfl ?aP (fun _ hk => hk.elim) ?aF ?aO ?aB ?aS ?aL ?_; (case aP => exact rfl); (case aF => exact (fun _ _ => trivial)); (case aO => exact (by (with_reducible repeat (first | apply Kd.R_alloc | apply Kd.R_drewN | apply Kd.R_drew)); exact HR.out)); (case aB => exact (by repeat (first | (with_reducible first | exact HB.out | apply below_alloc | apply pw_below_drewN | apply below_drew1) | exact HB.out))); (case aS => exact (below_size (by repeat (first | (with_reducible first | exact HB.out | apply below_alloc | apply pw_below_drewN | apply below_drew1) | exact HB.out)))); (case aL => have := HL.out; omega); intro v2 w2 ho hb hg hat; rw [← HN.out] at ho; have HR2 := Lib.hid ho; have HB2 := Lib.hid hb; clear ho hb hg hat))
            go_roundw
            case rel => exact ⟨3, by omega, by go_num, HR2, HB2⟩
            case measure => simp only [intOf]; omega
      · skip
        have ew : wrap64 ((c : Int) + 10) = (c : Int) + 10 := by unfold wrap64; omega
        have eb : (c : Int) + offs 3 = ((c : Int) + 10) := rfl
        cases hh : F.has ((c : Int) + 10)
        · have HX := Lib.hid hh
          have HN : Hid (bes F c 4 = bes F c 3) := Lib.hid (bes_no (by unfold nextTo; rw [eb, hh, Bool.and_false]))
          clear hh eb
          try clear hq
          go_wp2_with (first | ((with_reducible refine gate_dst (N := 15) rfl ?_); refine Kd.event_run (v := .int .i64 10) (w1 := wr) rfl (by kernel_rfl) ?_; simp only [Act.put, List.setIfInBounds_toArray, List.set_cons_zero, List.set_cons_succ]) | (go_at_call 23; refine (has_any F _ ((c : Int) + 10) _ (HF.out.below HB.out hfl) HO.out).mono ?_; rintro e w' ⟨rfl, rfl⟩; rw [HX.out]))
          go_roundw
          case rel => exact ⟨4, by omega, by go_num, by rw [HN.out]; exact HR, HB⟩
          case measure => simp only [intOf]; omega
        · have HX := Lib.hid hh
          have HN : Hid (bes F c 4 = bes F c 3 ++ [((c : Int) + 10)]) := Lib.hid (by rw [← eb]; exact bes_yes (by unfold nextTo; rw [eb, hh, Bool.and_true]; rfl))
          clear hh eb
          try clear hq
          go_wp2_with (first
            | ((with_reducible refine gate_dst (N := 15) rfl ?_); refine Kd.event_run (v := .int .i64 10) (w1 := wr) rfl (by kernel_rfl) ?_; simp only [Act.put, List.setIfInBounds_toArray, List.set_cons_zero, List.set_cons_succ])
            | (go_at_call 23; refine (has_any F _ ((c : Int) + 10) _ (HF.out.below HB.out hfl) HO.out).mono ?_; rintro e w' ⟨rfl, rfl⟩; rw [HX.out])
            | ((with_reducible refine gate_builtin (b := .append) (xs := #[.tmp 38, .tmp 42]) rfl ?_); at_builtin; refine Kd.R_append (Kd.int .i64) (w0 := w) w.heap.size rfl (.tmp 38) (.tmp 42) 28 2 (.int .i64 0) 8 rfl Try.underlying28 infoN_i64 rfl (by decide) (by omega) _ (bes F c 3) ((c : Int) + 10) [.int .i64 ((c : Int) + 10)] (fun _ => True) (fun _ => False) rfl rfl ?aP (fun _ hk => hk.elim) ?aF ?aO ?aB ?aS ?aL ?_; (case aP => exact rfl); (case aF => exact (fun _ _ => trivial)); (case aO => exact (by (with_reducible repeat (first | apply Kd.R_alloc | apply Kd.R_drewN | apply Kd.R_drew)); exact HR.out)); (case aB => exact (by repeat (first | (with_reducible first | exact HB.out | apply below_alloc | apply pw_below_drewN | apply below_drew1) | exact HB.out))); (case aS => exact (below_size (by repeat (first | (with_reducible first | exact HB.out | apply below_alloc | apply pw_below_drewN | apply below_drew1) | exact HB.out)))); (case aL => have := HL.out; omega); intro v2 w2 ho hb hg hat; rw [← HN.out] at ho; have HR2 := Lib.hid ho; have HB2 := Lib.hid hb; clear ho hb hg hat))
          go_roundw
          case rel => exact ⟨4, by omega, by go_num, HR2, HB2⟩
          case measure => simp only [intOf]; omega
    · obtain rfl : i = 4 := by omega
      go_wp2
      go_ret
      exact ⟨_, rfl, HR.out, HB.out⟩

theorem zeroB4 (w : World) : (zeroValue 63).run Try.prog w = .ok (.agg (zrow .i64 4).toArray) w := (zero_of_info (by kernel_rfl : (Try.prog.info? 63).map (fun i => (i.zero, i.size)) = some (some (.agg (zrow .i64 4).toArray), 4))).1 w

set_option maxRecDepth 100000 in
set_option maxHeartbeats 4000000 in
theorem beside_any (F : Fld) (hF : F.Ok) {c : Nat} (hc : c < 100) (g : Nat) (w : World) (hf : IsF w g F) :
    Calls Try.prog 17 #[.pointer (some ⟨g, 0, none⟩), .int .i64 (c : Int)] w fun e w' => ∃ v : Value, e = .returned v ∧ Made w w' (bes F c 4) v ∧ Below w.heap.size w w' := by
  have HF := Lib.hid hf
  have HO := Lib.hid hF
  have HCC := Lib.hid hc
  have hfl := hf.lt
  clear hf hF
  have hz := zeroB4
  obtain ⟨V, hV⟩ : ∃ V, V = vrow .i64 [(c : Int) - 10, (c : Int) - 1, (c : Int) + 1, (c : Int) + 10] := ⟨_, rfl⟩
  have HV := Lib.hid hV
  clear hV
  have ew0 : wrap64 ((c : Int) - 10) = (c : Int) - 10 := by unfold wrap64; omega
  have ew1 : wrap64 ((c : Int) - 1) = (c : Int) - 1 := by unfold wrap64; omega
  have ew2 : wrap64 ((c : Int) + 1) = (c : Int) + 1 := by unfold wrap64; omega
  have ew3 : wrap64 ((c : Int) + 10) = (c : Int) + 10 := by unfold wrap64; omega
  go_enter Try.func17, Try.ntmps17
  go_upto_region 2 with (first
    | ((with_reducible refine gate_op (.store 63 (.tmp 5) (.tmp 16)) rfl ?_); refine wpList_store_all rfl 63 (.tmp 5) (.tmp 16) rfl _ (vrow .i64 [(c : Int) - 10, (c : Int) - 1, (c : Int) + 1, (c : Int) + 10]) (by kernel_rfl) (by kernel_rfl) (Blk.new' _ (zrow .i64 4) 63) rfl (by kernel_rfl) (vrow_one _ _) ?_; rw [← HV.out]; refine wpl_name (fun w' => Below w.heap.size w w' ∧ Blk w' w.heap.size V 63) ⟨below_setRow ((Below.refl _ _).alloc (Nat.le_refl _) _) (Nat.le_refl _) _, (Blk.new' _ _ _).row _⟩ ?_; rintro w4 ⟨hb, hK⟩; have HA4 := Lib.hid hK; have HB4 := Lib.hid hb; clear hb hK))
  go_wp2_with (first
    | ((with_reducible refine gate_dst (N := 17) rfl ?_); refine Kd.R_lit (Kd.int .i64) (w0 := w4) w4.heap.size 2 ?hg (N := 17) ?hd (xs := ([] : List Int)) (inner := []) (ok := fun _ => True) (okp := fun _ => True) ?hr ?hp (fun _ hk => hk) trivial (Below.refl _ _) (Nat.le_refl _) (by simp) ?_; (case hd => rfl); (case hg => rfl); (case hr => first | (go_simp; done) | (go_simp; rfl)); (case hp => exact (Reps.none _ _)); intro v1 w1 ho1 hb1 hg1 hn1; clear hg1 hn1; have HR1 := Lib.hid ho1; have HB1 := Lib.hid hb1; clear ho1 hb1))
  go_loopw [6, 7] (fun u v wr => ∃ i : Nat, i ≤ 4 ∧ v = .int .i64 i ∧ Hid (Made w4 wr (bes F c i) u) ∧ Hid (Below w4.heap.size w4 wr)) (fun _ v _ => 4 - (intOf v).toNat)
  case atStart => exact ⟨0, by omega, rfl, Lib.hid HR1.out, HB1⟩
  case round =>
    clear HR1 HB1
    obtain ⟨i, hi, rfl, HR, HB⟩ := hrel
    have HL : Hid ((bes F c i).length ≤ i) := Lib.hid (bes_len F c i)
    have HF4 := Lib.hid (HF.out.below (HB4.out.trans (HB.out.mono HB4.out.size)) hfl)
    by_cases hlt : i < 4
    · obtain rfl | rfl | rfl | rfl : i = 0 ∨ i = 1 ∨ i = 2 ∨ i = 3 := by omega
      · have cA : wr.cell? ⟨w.heap.size, 0, none⟩ = some (.int .i64 ((c : Int) - 10)) := (HA4.out.below HB.out HA4.out.lt).cell (by rw [HV.out]; rfl)
        have eb : (c : Int) + offs 0 = ((c : Int) - 10) := rfl
        cases hh : F.has ((c : Int) - 10)
        · have HX := Lib.hid hh
          have HN : Hid (bes F c 1 = bes F c 0) := Lib.hid (bes_no (by unfold nextTo; rw [eb, hh, Bool.and_false]))
          clear hh eb
          go_wp2_with ((go_at_call 15; refine (is_any F _ ((c : Int) - 10) _ HF4.out HO.out).mono ?_; rintro e w' ⟨rfl, rfl⟩; rw [HX.out]))
          go_roundw
          case rel => exact ⟨1, by omega, by go_num, by rw [HN.out]; exact HR, HB⟩
          case measure => simp only [intOf]; omega
        · have HX := Lib.hid hh
          have hs := square_beside ⟨c, HCC.out⟩ ⟨0, by omega⟩ (by show inB ((c : Int) + offs 0) 0 99 = true; rw [eb]; exact has_in hh)
          have hs2 : PAll.spec_l01Square.f (c : Int) ((c : Int) - 10) = some (if flat c 0 = true then 1 else 82) := hs
          clear hs
          cases hf2 : flat c 0
          · have HN : Hid (bes F c 1 = bes F c 0) := Lib.hid (bes_no (by unfold nextTo; rw [hf2, Bool.false_and]))
            have HS : Hid (PAll.spec_l01Square.f (c : Int) ((c : Int) - 10) = some 82) := Lib.hid (by rw [hs2, hf2]; rfl)
            clear hh eb hf2 hs2
            go_wp2_with (first
              | (go_at_call 15; refine (is_any F _ ((c : Int) - 10) _ HF4.out HO.out).mono ?_; rintro e w' ⟨rfl, rfl⟩; rw [HX.out])
              | (go_at_call 38; refine (PAll.spec_l01Square.calls (c : Int) ((c : Int) - 10) 82 _ HS.out).mono ?_; rintro e w5 ⟨rfl, hd⟩; have cA5 : w5.cell? ⟨w.heap.size, 0, none⟩ = some (.int .i64 ((c : Int) - 10)) := ((HA4.out.below HB.out HA4.out.lt).below hd.below (HA4.out.below HB.out HA4.out.lt).lt).cell (by rw [HV.out]; rfl); have HR5 := Lib.hid (Kd.R_below HR.out hd.below); have HB5 := Lib.hid (HB.out.trans (hd.below.mono HB.out.size)); clear hd))
            go_roundw
            case rel => exact ⟨1, by omega, by go_num, by rw [HN.out]; exact HR5, HB5⟩
            case measure => simp only [intOf]; omega
          · have HN : Hid (bes F c 1 = bes F c 0 ++ [((c : Int) - 10)]) := Lib.hid (by rw [← eb]; exact bes_yes (by unfold nextTo; rw [eb, hh, hf2]; rfl))
            have HS : Hid (PAll.spec_l01Square.f (c : Int) ((c : Int) - 10) = some 1) := Lib.hid (by rw [hs2, hf2]; rfl)
            clear hh eb hf2 hs2
            go_wp2_with (first
              | (go_at_call 15; refine (is_any F _ ((c : Int) - 10) _ HF4.out HO.out).mono ?_; rintro e w' ⟨rfl, rfl⟩; rw [HX.out])
              | (go_at_call 38; refine (PAll.spec_l01Square.calls (c : Int) ((c : Int) - 10) 1 _ HS.out).mono ?_; rintro e w5 ⟨rfl, hd⟩; have cA5 : w5.cell? ⟨w.heap.size, 0, none⟩ = some (.int .i64 ((c : Int) - 10)) := ((HA4.out.below HB.out HA4.out.lt).below hd.below (HA4.out.below HB.out HA4.out.lt).lt).cell (by rw [HV.out]; rfl); have HR5 := Lib.hid (Kd.R_below HR.out hd.below); have HB5 := Lib.hid (HB.out.trans (hd.below.mono HB.out.size)); clear hd)
              | ((with_reducible refine gate_builtin (b := .append) (xs := #[.tmp 35, .tmp 39]) rfl ?_); at_builtin; refine Kd.R_append (Kd.int .i64) (w0 := w4) w4.heap.size rfl (.tmp 35) (.tmp 39) 28 2 (.int .i64 0) 8 rfl Try.underlying28 infoN_i64 rfl (by decide) (by omega) _ (bes F c 0) ((c : Int) - 10) [.int .i64 ((c : Int) - 10)] (fun _ => True) (fun _ => False) rfl rfl ?aP (fun _ hk => hk.elim) ?aF ?aO ?aB ?aS ?aL ?_; (case aP => exact rfl); (case aF => exact (fun _ _ => trivial)); (case aO => exact (by (with_reducible repeat (first | apply Kd.R_alloc | apply Kd.R_drewN | apply Kd.R_drew)); exact HR5.out)); (case aB => exact (by repeat (first | (with_reducible first | exact HB5.out | apply below_alloc | apply pw_below_drewN | apply below_drew1) | exact HB5.out))); (case aS => exact (below_size (by repeat (first | (with_reducible first | exact HB5.out | apply below_alloc | apply pw_below_drewN | apply below_drew1) | exact HB5.out)))); (case aL => have := HL.out; omega); intro v2 w2 ho hb hg hat; rw [← HN.out] at ho; have HR2 := Lib.hid ho; have HB2 := Lib.hid hb; clear ho hb hg hat))
            go_roundw
            case rel => exact ⟨1, by omega, by go_num, HR2, HB2⟩
            case measure => simp only [intOf]; omega
      · have cA : wr.cell? ⟨w.heap.size, 1, none⟩ = some (.int .i64 ((c : Int) - 1)) := (HA4.out.below HB.out HA4.out.lt).cell (by rw [HV.out]; rfl)
        have eb : (c : Int) + offs 1 = ((c : Int) - 1) := rfl
        cases hh : F.has ((c : Int) - 1)
        · have HX := Lib.hid hh
          have HN : Hid (bes F c 2 = bes F c 1) := Lib.hid (bes_no (by unfold nextTo; rw [eb, hh, Bool.and_false]))
          clear hh eb
          go_wp2_with ((go_at_call 15; refine (is_any F _ ((c : Int) - 1) _ HF4.out HO.out).mono ?_; rintro e w' ⟨rfl, rfl⟩; rw [HX.out]))
          go_roundw
          case rel => exact ⟨2, by omega, by go_num, by rw [HN.out]; exact HR, HB⟩
          case measure => simp only [intOf]; omega
        · have HX := Lib.hid hh
          have hs := square_beside ⟨c, HCC.out⟩ ⟨1, by omega⟩ (by show inB ((c : Int) + offs 1) 0 99 = true; rw [eb]; exact has_in hh)
          have hs2 : PAll.spec_l01Square.f (c : Int) ((c : Int) - 1) = some (if flat c 1 = true then 1 else 82) := hs
          clear hs
          cases hf2 : flat c 1
          · have HN : Hid (bes F c 2 = bes F c 1) := Lib.hid (bes_no (by unfold nextTo; rw [hf2, Bool.false_and]))
            have HS : Hid (PAll.spec_l01Square.f (c : Int) ((c : Int) - 1) = some 82) := Lib.hid (by rw [hs2, hf2]; rfl)
            clear hh eb hf2 hs2
            go_wp2_with (first
              | (go_at_call 15; refine (is_any F _ ((c : Int) - 1) _ HF4.out HO.out).mono ?_; rintro e w' ⟨rfl, rfl⟩; rw [HX.out])
              | (go_at_call 38; refine (PAll.spec_l01Square.calls (c : Int) ((c : Int) - 1) 82 _ HS.out).mono ?_; rintro e w5 ⟨rfl, hd⟩; have cA5 : w5.cell? ⟨w.heap.size, 1, none⟩ = some (.int .i64 ((c : Int) - 1)) := ((HA4.out.below HB.out HA4.out.lt).below hd.below (HA4.out.below HB.out HA4.out.lt).lt).cell (by rw [HV.out]; rfl); have HR5 := Lib.hid (Kd.R_below HR.out hd.below); have HB5 := Lib.hid (HB.out.trans (hd.below.mono HB.out.size)); clear hd))
            go_roundw
            case rel => exact ⟨2, by omega, by go_num, by rw [HN.out]; exact HR5, HB5⟩
            case measure => simp only [intOf]; omega
          · have HN : Hid (bes F c 2 = bes F c 1 ++ [((c : Int) - 1)]) := Lib.hid (by rw [← eb]; exact bes_yes (by unfold nextTo; rw [eb, hh, hf2]; rfl))
            have HS : Hid (PAll.spec_l01Square.f (c : Int) ((c : Int) - 1) = some 1) := Lib.hid (by rw [hs2, hf2]; rfl)
            clear hh eb hf2 hs2
            go_wp2_with (first
              | (go_at_call 15; refine (is_any F _ ((c : Int) - 1) _ HF4.out HO.out).mono ?_; rintro e w' ⟨rfl, rfl⟩; rw [HX.out])
              | (go_at_call 38; refine (PAll.spec_l01Square.calls (c : Int) ((c : Int) - 1) 1 _ HS.out).mono ?_; rintro e w5 ⟨rfl, hd⟩; have cA5 : w5.cell? ⟨w.heap.size, 1, none⟩ = some (.int .i64 ((c : Int) - 1)) := ((HA4.out.below HB.out HA4.out.lt).below hd.below (HA4.out.below HB.out HA4.out.lt).lt).cell (by rw [HV.out]; rfl); have HR5 := Lib.hid (Kd.R_below HR.out hd.below); have HB5 := Lib.hid (HB.out.trans (hd.below.mono HB.out.size)); clear hd)
              | ((with_reducible refine gate_builtin (b := .append) (xs := #[.tmp 35, .tmp 39]) rfl ?_); at_builtin; refine Kd.R_append (Kd.int .i64) (w0 := w4) w4.heap.size rfl (.tmp 35) (.tmp 39) 28 2 (.int .i64 0) 8 rfl Try.underlying28 infoN_i64 rfl (by decide) (by omega) _ (bes F c 1) ((c : Int) - 1) [.int .i64 ((c : Int) - 1)] (fun _ => True) (fun _ => False) rfl rfl ?aP (fun _ hk => hk.elim) ?aF ?aO ?aB ?aS ?aL ?_; (case aP => exact rfl); (case aF => exact (fun _ _ => trivial)); (case aO => exact (by (with_reducible repeat (first | apply Kd.R_alloc | apply Kd.R_drewN | apply Kd.R_drew)); exact HR5.out)); (case aB => exact (by repeat (first | (with_reducible first | exact HB5.out | apply below_alloc | apply pw_below_drewN | apply below_drew1) | exact HB5.out))); (case aS => exact (below_size (by repeat (first | (with_reducible first | exact HB5.out | apply below_alloc | apply pw_below_drewN | apply below_drew1) | exact HB5.out)))); (case aL => have := HL.out; omega); intro v2 w2 ho hb hg hat; rw [← HN.out] at ho; have HR2 := Lib.hid ho; have HB2 := Lib.hid hb; clear ho hb hg hat))
            go_roundw
            case rel => exact ⟨2, by omega, by go_num, HR2, HB2⟩
            case measure => simp only [intOf]; omega
      · have cA : wr.cell? ⟨w.heap.size, 2, none⟩ = some (.int .i64 ((c : Int) + 1)) := (HA4.out.below HB.out HA4.out.lt).cell (by rw [HV.out]; rfl)
        have eb : (c : Int) + offs 2 = ((c : Int) + 1) := rfl
        cases hh : F.has ((c : Int) + 1)
        · have HX := Lib.hid hh
          have HN : Hid (bes F c 3 = bes F c 2) := Lib.hid (bes_no (by unfold nextTo; rw [eb, hh, Bool.and_false]))
          clear hh eb
          go_wp2_with ((go_at_call 15; refine (is_any F _ ((c : Int) + 1) _ HF4.out HO.out).mono ?_; rintro e w' ⟨rfl, rfl⟩; rw [HX.out]))
          go_roundw
          case rel => exact ⟨3, by omega, by go_num, by rw [HN.out]; exact HR, HB⟩
          case measure => simp only [intOf]; omega
        · have HX := Lib.hid hh
          have hs := square_beside ⟨c, HCC.out⟩ ⟨2, by omega⟩ (by show inB ((c : Int) + offs 2) 0 99 = true; rw [eb]; exact has_in hh)
          have hs2 : PAll.spec_l01Square.f (c : Int) ((c : Int) + 1) = some (if flat c 2 = true then 1 else 82) := hs
          clear hs
          cases hf2 : flat c 2
          · have HN : Hid (bes F c 3 = bes F c 2) := Lib.hid (bes_no (by unfold nextTo; rw [hf2, Bool.false_and]))
            have HS : Hid (PAll.spec_l01Square.f (c : Int) ((c : Int) + 1) = some 82) := Lib.hid (by rw [hs2, hf2]; rfl)
            clear hh eb hf2 hs2
            go_wp2_with (first
              | (go_at_call 15; refine (is_any F _ ((c : Int) + 1) _ HF4.out HO.out).mono ?_; rintro e w' ⟨rfl, rfl⟩; rw [HX.out])
              | (go_at_call 38; refine (PAll.spec_l01Square.calls (c : Int) ((c : Int) + 1) 82 _ HS.out).mono ?_; rintro e w5 ⟨rfl, hd⟩; have cA5 : w5.cell? ⟨w.heap.size, 2, none⟩ = some (.int .i64 ((c : Int) + 1)) := ((HA4.out.below HB.out HA4.out.lt).below hd.below (HA4.out.below HB.out HA4.out.lt).lt).cell (by rw [HV.out]; rfl); have HR5 := Lib.hid (Kd.R_below HR.out hd.below); have HB5 := Lib.hid (HB.out.trans (hd.below.mono HB.out.size)); clear hd))
            go_roundw
            case rel => exact ⟨3, by omega, by go_num, by rw [HN.out]; exact HR5, HB5⟩
            case measure => simp only [intOf]; omega
          · have HN : Hid (bes F c 3 = bes F c 2 ++ [((c : Int) + 1)]) := Lib.hid (by rw [← eb]; exact bes_yes (by unfold nextTo; rw [eb, hh, hf2]; rfl))
            have HS : Hid (PAll.spec_l01Square.f (c : Int) ((c : Int) + 1) = some 1) := Lib.hid (by rw [hs2, hf2]; rfl)
            clear hh eb hf2 hs2
            go_wp2_with (first
              | (go_at_call 15; refine (is_any F _ ((c : Int) + 1) _ HF4.out HO.out).mono ?_; rintro e w' ⟨rfl, rfl⟩; rw [HX.out])
              | (go_at_call 38; refine (PAll.spec_l01Square.calls (c : Int) ((c : Int) + 1) 1 _ HS.out).mono ?_; rintro e w5 ⟨rfl, hd⟩; have cA5 : w5.cell? ⟨w.heap.size, 2, none⟩ = some (.int .i64 ((c : Int) + 1)) := ((HA4.out.below HB.out HA4.out.lt).below hd.below (HA4.out.below HB.out HA4.out.lt).lt).cell (by rw [HV.out]; rfl); have HR5 := Lib.hid (Kd.R_below HR.out hd.below); have HB5 := Lib.hid (HB.out.trans (hd.below.mono HB.out.size)); clear hd)
              | ((with_reducible refine gate_builtin (b := .append) (xs := #[.tmp 35, .tmp 39]) rfl ?_); at_builtin; refine Kd.R_append (Kd.int .i64) (w0 := w4) w4.heap.size rfl (.tmp 35) (.tmp 39) 28 2 (.int .i64 0) 8 rfl Try.underlying28 infoN_i64 rfl (by decide) (by omega) _ (bes F c 2) ((c : Int) + 1) [.int .i64 ((c : Int) + 1)] (fun _ => True) (fun _ => False) rfl rfl ?aP (fun _ hk => hk.elim) ?aF ?aO ?aB ?aS ?aL ?_; (case aP => exact rfl); (case aF => exact (fun _ _ => trivial)); (case aO => exact (by (with_reducible repeat (first | apply Kd.R_alloc | apply Kd.R_drewN | apply Kd.R_drew)); exact HR5.out)); (case aB => exact (by repeat (first | (with_reducible first | exact HB5.out | apply below_alloc | apply pw_below_drewN | apply below_drew1) | exact HB5.out))); (case aS => exact (below_size (by repeat (first | (with_reducible first | exact HB5.out | apply below_alloc | apply pw_below_drewN | apply below_drew1) | exact HB5.out)))); (case aL => have := HL.out; omega); intro v2 w2 ho hb hg hat; rw [← HN.out] at ho; have HR2 := Lib.hid ho; have HB2 := Lib.hid hb; clear ho hb hg hat))
            go_roundw
            case rel => exact ⟨3, by omega, by go_num, HR2, HB2⟩
            case measure => simp only [intOf]; omega
      · have cA : wr.cell? ⟨w.heap.size, 3, none⟩ = some (.int .i64 ((c : Int) + 10)) := (HA4.out.below HB.out HA4.out.lt).cell (by rw [HV.out]; rfl)
        have eb : (c : Int) + offs 3 = ((c : Int) + 10) := rfl
        cases hh : F.has ((c : Int) + 10)
        · have HX := Lib.hid hh
          have HN : Hid (bes F c 4 = bes F c 3) := Lib.hid (bes_no (by unfold nextTo; rw [eb, hh, Bool.and_false]))
          clear hh eb
          go_wp2_with ((go_at_call 15; refine (is_any F _ ((c : Int) + 10) _ HF4.out HO.out).mono ?_; rintro e w' ⟨rfl, rfl⟩; rw [HX.out]))
          go_roundw
          case rel => exact ⟨4, by omega, by go_num, by rw [HN.out]; exact HR, HB⟩
          case measure => simp only [intOf]; omega
        · have HX := Lib.hid hh
          have hs := square_beside ⟨c, HCC.out⟩ ⟨3, by omega⟩ (by show inB ((c : Int) + offs 3) 0 99 = true; rw [eb]; exact has_in hh)
          have hs2 : PAll.spec_l01Square.f (c : Int) ((c : Int) + 10) = some (if flat c 3 = true then 1 else 82) := hs
          clear hs
          cases hf2 : flat c 3
          · have HN : Hid (bes F c 4 = bes F c 3) := Lib.hid (bes_no (by unfold nextTo; rw [hf2, Bool.false_and]))
            have HS : Hid (PAll.spec_l01Square.f (c : Int) ((c : Int) + 10) = some 82) := Lib.hid (by rw [hs2, hf2]; rfl)
            clear hh eb hf2 hs2
            go_wp2_with (first
              | (go_at_call 15; refine (is_any F _ ((c : Int) + 10) _ HF4.out HO.out).mono ?_; rintro e w' ⟨rfl, rfl⟩; rw [HX.out])
              | (go_at_call 38; refine (PAll.spec_l01Square.calls (c : Int) ((c : Int) + 10) 82 _ HS.out).mono ?_; rintro e w5 ⟨rfl, hd⟩; have cA5 : w5.cell? ⟨w.heap.size, 3, none⟩ = some (.int .i64 ((c : Int) + 10)) := ((HA4.out.below HB.out HA4.out.lt).below hd.below (HA4.out.below HB.out HA4.out.lt).lt).cell (by rw [HV.out]; rfl); have HR5 := Lib.hid (Kd.R_below HR.out hd.below); have HB5 := Lib.hid (HB.out.trans (hd.below.mono HB.out.size)); clear hd))
            go_roundw
            case rel => exact ⟨4, by omega, by go_num, by rw [HN.out]; exact HR5, HB5⟩
            case measure => simp only [intOf]; omega
          · have HN : Hid (bes F c 4 = bes F c 3 ++ [((c : Int) + 10)]) := Lib.hid (by rw [← eb]; exact bes_yes (by unfold nextTo; rw [eb, hh, hf2]; rfl))
            have HS : Hid (PAll.spec_l01Square.f (c : Int) ((c : Int) + 10) = some 1) := Lib.hid (by rw [hs2, hf2]; rfl)
            clear hh eb hf2 hs2
            go_wp2_with (first
              | (go_at_call 15; refine (is_any F _ ((c : Int) + 10) _ HF4.out HO.out).mono ?_; rintro e w' ⟨rfl, rfl⟩; rw [HX.out])
              | (go_at_call 38; refine (PAll.spec_l01Square.calls (c : Int) ((c : Int) + 10) 1 _ HS.out).mono ?_; rintro e w5 ⟨rfl, hd⟩; have cA5 : w5.cell? ⟨w.heap.size, 3, none⟩ = some (.int .i64 ((c : Int) + 10)) := ((HA4.out.below HB.out HA4.out.lt).below hd.below (HA4.out.below HB.out HA4.out.lt).lt).cell (by rw [HV.out]; rfl); have HR5 := Lib.hid (Kd.R_below HR.out hd.below); have HB5 := Lib.hid (HB.out.trans (hd.below.mono HB.out.size)); clear hd)
              | ((with_reducible refine gate_builtin (b := .append) (xs := #[.tmp 35, .tmp 39]) rfl ?_); at_builtin; refine Kd.R_append (Kd.int .i64) (w0 := w4) w4.heap.size rfl (.tmp 35) (.tmp 39) 28 2 (.int .i64 0) 8 rfl Try.underlying28 infoN_i64 rfl (by decide) (by omega) _ (bes F c 3) ((c : Int) + 10) [.int .i64 ((c : Int) + 10)] (fun _ => True) (fun _ => False) rfl rfl ?aP (fun _ hk => hk.elim) ?aF ?aO ?aB ?aS ?aL ?_; (case aP => exact rfl); (case aF => exact (fun _ _ => trivial)); (case aO => exact (by (with_reducible repeat (first | apply Kd.R_alloc | apply Kd.R_drewN | apply Kd.R_drew)); exact HR5.out)); (case aB => exact (by repeat (first | (with_reducible first | exact HB5.out | apply below_alloc | apply pw_below_drewN | apply below_drew1) | exact HB5.out))); (case aS => exact (below_size (by repeat (first | (with_reducible first | exact HB5.out | apply below_alloc | apply pw_below_drewN | apply below_drew1) | exact HB5.out)))); (case aL => have := HL.out; omega); intro v2 w2 ho hb hg hat; rw [← HN.out] at ho; have HR2 := Lib.hid ho; have HB2 := Lib.hid hb; clear ho hb hg hat))
            go_roundw
            case rel => exact ⟨4, by omega, by go_num, HR2, HB2⟩
            case measure => simp only [intOf]; omega
    · obtain rfl : i = 4 := by omega
      go_wp2
      go_ret
      exact ⟨_, rfl, Kd.R_lower HR.out HB4.out.size, HB4.out.trans (HB.out.mono HB4.out.size)⟩

end Go.Proofs.Ytinpmhmagcmamaa
