/- The way between two cells, by the reference. No condition but that the numbers are within their kinds. -/
import Derived.Test.YtinpmhmagcmamaaWQ
import Derived.Test.YtinpmhmagcmamaaPAllx1
namespace Go.Proofs.Ytinpmhmagcmamaa
open Go.RowKit Go.Proofs.YtinpmhmagcmamaaW.PrintWords Go.Proofs.YtinpmhmagcmamaaW.PrintLast Go.Proofs.YtinpmhmagcmamaaW.PrintMore
set_option linter.unusedSimpArgs false
set_option linter.unusedVariables false

set_option maxHeartbeats 1000000 in
theorem asked_any (F : Fld) (hF : F.Ok) (b : Nat) (c : Int) (q : Bool) (w : World) (hf : IsF w b F) :
    Calls Try.prog 14 #[.pointer (some ⟨b, 0, none⟩), .int .i64 c, .bool q] w fun e w' => e = .returned (.int .i64 (codeF F (F.has c && q))) ∧ Below w.heap.size w w' := by
  have HF := Lib.hid hf
  have HO := Lib.hid hF
  clear hf hF
  cases hv : F.valid
  · have HV := Lib.hid hv
    have HR := Lib.hid (codeF_1 hv (F.has c && q))
    clear hv
    go_enter Try.func14, Try.ntmps14
    go_wp2_with (go_at_call 36; refine (l01Ok_any F HO.out _ _ HF.out).mono ?_; rintro e w' ⟨rfl, rfl⟩; rw [HV.out])
    go_ret
    exact ⟨ret_i64 HR.out.symm, Below.refl _ _⟩
  · have HV := Lib.hid hv
    cases hh : F.has c
    · have HX := Lib.hid hh
      have HR := Lib.hid (codeF_2 hv)
      clear hv hh
      go_enter Try.func14, Try.ntmps14
      go_wp2_with (first
        | (go_at_call 36; refine (l01Ok_any F HO.out _ _ HF.out).mono ?_; rintro e w' ⟨rfl, rfl⟩; rw [HV.out])
        | (go_at_call 15; refine (is_any F _ _ _ HF.out HO.out).mono ?_; rintro e w' ⟨rfl, rfl⟩; rw [HX.out]))
      go_ret
      exact ⟨ret_i64 (by rw [Bool.false_and]; exact HR.out.symm), Below.refl _ _⟩
    · have HX := Lib.hid hh
      have HR0 := Lib.hid (codeF_0 hv)
      have HR2 := Lib.hid (codeF_2 hv)
      clear hv hh
      cases q
      all_goals
        go_enter Try.func14, Try.ntmps14
        go_wp2_with (first
          | (go_at_call 36; refine (l01Ok_any F HO.out _ _ HF.out).mono ?_; rintro e w' ⟨rfl, rfl⟩; rw [HV.out])
          | (go_at_call 15; refine (is_any F _ _ _ HF.out HO.out).mono ?_; rintro e w' ⟨rfl, rfl⟩; rw [HX.out]))
        go_ret
        first
        | exact ⟨ret_i64 HR0.out.symm, Below.refl _ _⟩
        | exact ⟨ret_i64 HR2.out.symm, Below.refl _ _⟩
theorem zeroD (w : World) : (zeroValue 42).run Try.prog w = .ok (.agg (icells fun _ => 0).toArray) w := (zero_of_info (by kernel_rfl : (Try.prog.info? 42).map (fun i => (i.zero, i.size)) = some (some (.agg (icells fun _ => 0).toArray), 100))).1 w
/-- The least of the nearer cells so far. -/
def mnTo (D : Nat → Int) (c : Nat) (L : List Int) : Nat → Int
  | 0 => 100
  | j + 1 => if WY.nearer D c (rd L (j : Int)) = true then min (mnTo D c L j) (rd L (j : Int)) else mnTo D c L j
theorem mnTo_before {D : Nat → Int} {c : Nat} {L : List Int} {i : Nat} (hno : ∀ j, j < i → WY.nearer D c (rd L (j : Int)) = false) : ∀ j, j ≤ i → mnTo D c L j = 100
  | 0, _ => rfl
  | j + 1, h => by simp only [mnTo]; rw [hno j (by omega), if_neg (by decide)]; exact mnTo_before hno j (by omega)
theorem mnTo_first {D : Nat → Int} {c : Nat} {L : List Int} {i : Nat} (hp : WY.nearer D c (rd L (i : Int)) = true) (hno : ∀ j, j < i → WY.nearer D c (rd L (j : Int)) = false) (hup : ∀ a b, a < b → b < L.length → rd L (a : Int) < rd L (b : Int)) (h99 : rd L (i : Int) ≤ 99) : ∀ d, i + 1 + d ≤ L.length → mnTo D c L (i + 1 + d) = rd L (i : Int)
  | 0, _ => by simp only [mnTo, Nat.add_zero]; rw [hp, if_pos rfl, mnTo_before hno i (Nat.le_refl _)]; omega
  | d + 1, h => by
    have ih := mnTo_first hp hno hup h99 d (by omega)
    show mnTo D c L (i + 1 + d + 1) = _
    simp only [mnTo]
    rw [ih]
    have hu := hup i (i + 1 + d) (by omega) (by omega)
    split
    · omega
    · rfl
theorem mnTo_bd {D : Nat → Int} {c : Nat} {L : List Int} (h : ∀ j, j < L.length → 0 ≤ rd L (j : Int) ∧ rd L (j : Int) ≤ 99) : ∀ j, j ≤ L.length → 0 ≤ mnTo D c L j ∧ mnTo D c L j ≤ 100
  | 0, _ => by simp [mnTo]
  | j + 1, hj => by
    have ih := mnTo_bd (D := D) (c := c) h j (by omega)
    have := h j (by omega)
    simp only [mnTo]
    split <;> omega
theorem grown_any {w w' : World} (h : w.grownBy w' none) (row : Option Nat) : w.grownBy w' row := ⟨h.os, h.tape, h.output, h.size, fun k hk _ => h.block k hk (by simp)⟩
/-- The state of a search in memory: a queue of one's own, a table in block g. -/
structure BfS (g : Nat) (w3 wr : World) (u : Value) (S : WY.BS) : Prop where
  q : Kd.R kI 2 wr g (fun k => k ≠ g) u S.1
  d : Blk wr g (icells S.2) 42
  b : Below g w3 wr
theorem BfS.below {g : Nat} {w3 wr w' : World} {u : Value} {S : WY.BS} (h : BfS g w3 wr u S) (hb : Below wr.heap.size wr w') : BfS g w3 w' u S :=
  ⟨Kd.R_below h.q hb, h.d.below hb h.d.lt, below_then h.b (Nat.le_of_lt h.d.lt) hb⟩
theorem BfS.store {g n : Nat} {w3 wr : World} {u : Value} {S : WY.BS} (h : BfS g w3 wr u S) (hn : n < 100) (v : Int) : BfS g w3 (wr.setCell ⟨g, n, none⟩ (.int .i64 v)) u (S.1, WY.upd S.2 n v) :=
  ⟨Kd.R_far h.q (p := ⟨g, n, none⟩) (fun _ hk => hk) _, by rw [← icells_set _ hn]; exact h.d.set _ _, below_setCell h.b (Nat.le_refl _) _ _⟩
theorem BfS.app {g : Nat} {w3 wr w1 : World} {u v1 : Value} {S : WY.BS} {Q : List Int} (h : BfS g w3 wr u S) (h1 : Kd.R kI 2 w1 g (fun k => k ≠ g) v1 Q) (hb : Below g w3 w1) (hg : wr.grownBy w1 u.ownBlock) : BfS g w3 w1 v1 (Q, S.2) := by
  have hne : some g ≠ u.ownBlock := Kd.R_away h.q (fun _ hk => hk)
  exact ⟨h1, (hg.block g h.d.lt hne).trans h.d, hb⟩
theorem BfS.field {g b : Nat} {w3 wr : World} {u : Value} {S : WY.BS} {cs : List Value} {T : TypeId} (h : BfS g w3 wr u S) (hf : Blk w3 b cs T) (hg : g = w3.heap.size) : Blk wr b cs T := by
  have hb := h.b
  rw [hg] at hb
  exact hf.below hb hf.lt
theorem BfS.far {g n : Nat} {w3 wr : World} {u : Value} {S : WY.BS} (h : BfS g w3 wr u S) (hn : n < 100) : wr.cell? ⟨g, n, none⟩ = some (.int .i64 (S.2 n)) ∧ wr.frozen? ⟨g, n, none⟩ = false := ⟨h.d.cell (icells_get _ hn), h.d.free _⟩
theorem BfS.at {g n c : Nat} {w3 wr : World} {A : Option Addr} {S : WY.BS} (h : BfS g w3 wr (.slice A n c) S) {i : Nat} (hi : i < S.1.length) : n = S.1.length ∧ ∃ ad, A = some ad ∧ wr.cell? (ad.add i) = some (.int .i64 (rd S.1 (i : Int))) := by
  obtain ⟨hn, _, hC⟩ := Kd.R_reads' h.q
  obtain ⟨ad, h1, h2⟩ := Kd.at_int hC (i : Int) (by omega) (by omega)
  exact ⟨hn, ad, h1, by simpa using h2⟩
theorem BfS.slice {g : Nat} {w3 wr : World} {u : Value} {S : WY.BS} (h : BfS g w3 wr u S) : ∃ A c, u = .slice A S.1.length c := Kd.R_slice h.q
/-- Beside it a list of one's own, in a block of its own. -/
structure BfL (g B : Nat) (w3 : World) (lv : Value) (L : List Int) (wr : World) (u : Value) (S : WY.BS) : Prop where
  s : BfS g w3 wr u S
  l : Kd.R kI 2 wr B (fun k => k ≠ g ∧ some k ≠ u.ownBlock) lv L
theorem BfS.lst {g : Nat} {w3 wr w' : World} {u v : Value} {S : WY.BS} {L : List Int} (h : BfS g w3 wr u S) (hm : Made wr w' L v) (hb : Below wr.heap.size wr w') : BfL g wr.heap.size w3 v L w' u S :=
  ⟨h.below hb, Kd.R_mono (Kd.R_bound (Kd.R_newR hm h.q)) (fun k hk => ⟨by have := hk.2.1; have := h.d.lt; omega, hk.1.2⟩)⟩
section
variable {g B n : Nat} {w3 wr w1 w' : World} {lv u v1 : Value} {L : List Int} {S : WY.BS} {Q : List Int}
theorem BfL.below (h : BfL g B w3 lv L wr u S) (hb : Below wr.heap.size wr w') : BfL g B w3 lv L w' u S := ⟨h.s.below hb, Kd.R_below h.l hb⟩
theorem BfL.drewN (h : BfL g B w3 lv L wr u S) (m : Nat) : BfL g B w3 lv L (wr.drewN m) u S := h.below (pw_below_drewN (Below.refl _ _) m)
theorem BfL.store (h : BfL g B w3 lv L wr u S) (hn : n < 100) (v : Int) : BfL g B w3 lv L (wr.setCell ⟨g, n, none⟩ (.int .i64 v)) u (S.1, WY.upd S.2 n v) := ⟨h.s.store hn v, Kd.R_far h.l (p := ⟨g, n, none⟩) (fun _ hk => hk.1) _⟩
theorem BfL.app (h : BfL g B w3 lv L wr u S) (h1 : Kd.R kI 2 w1 g (fun k => k ≠ g) v1 Q) (hb : Below g w3 w1) (hg : wr.grownBy w1 u.ownBlock) (hat : v1.ownBlock = u.ownBlock ∨ ∃ b, v1.ownBlock = some b ∧ wr.heap.size ≤ b) : BfL g B w3 lv L w1 v1 (Q, S.2) := ⟨h.s.app h1 hb hg, Kd.R_after h.l hg hat⟩
theorem BfL.at {A : Option Addr} {m c : Nat} (h : BfL g B w3 (.slice A m c) L wr u S) {i : Nat} (hi : i < L.length) : m = L.length ∧ ∃ ad, A = some ad ∧ wr.cell? (ad.add i) = some (.int .i64 (rd L (i : Int))) := by
  obtain ⟨hn, _, hC⟩ := Kd.R_reads' h.l
  obtain ⟨ad, h1, h2⟩ := Kd.at_int hC (i : Int) (by omega) (by omega)
  exact ⟨hn, ad, h1, by simpa using h2⟩
end
theorem bes_nat {F : Fld} {c j : Nat} (h : j < (bes F c 4).length) : ∃ n : Nat, n < 100 ∧ rd (bes F c 4) (j : Int) = (n : Int) := by
  have := inB_iff.1 (has_in (bes_in F c 4 j h))
  exact ⟨(rd (bes F c 4) (j : Int)).toNat, by omega, by omega⟩
theorem addr_blockW (a : Addr) (i : Nat) : (a.add i).block = a.block := by unfold Addr.add; split <;> rfl
/-- What is known of a world, and its name alone. -/
theorem name_of {α : Type} {f : α → Prop} {x : α} (K : α → Prop) (h1 : K x) (h : ∀ x', K x' → f x') : f x := h x h1
theorem minW_any (x y : Int) (w : World) : Calls Try.prog 18 #[.int .i64 x, .int .i64 y] w fun e w' => e = .returned (.int .i64 (min x y)) ∧ Below w.heap.size w w' :=
  (PAll.spec_l00Min.calls x y (min x y) w (by
    unfold PAll.spec_l00Min.f
    split
    · congr 1; omega
    · congr 1; omega)).mono fun e w' h => ⟨h.1, h.2.below⟩

set_option maxRecDepth 100000 in
set_option maxHeartbeats 8000000 in
theorem sWay_any (F : Fld) (hF : F.Ok) (s t : Int) (w : World) :
    Calls Try.prog 5 #[.agg F.vals.toArray, .int .i64 s, .int .i64 t] w fun e w' => ∃ v : Value, e = .returned (.tuple #[v, .int .i64 (wyRes F s t).2]) ∧ Made w w' (wyRes F s t).1 v ∧ Below w.heap.size w w' := by
  have HO := Lib.hid hF
  have hz := zeroD
  clear hF
  by_cases hq : codeF F (F.has s && F.has t) = 0
  case neg =>
    have HR := Lib.hid (wy_code hq)
    have hq' : (codeF F (F.has s && F.has t) != 0) = true := by simpa using hq
    go_enter Try.func5, Try.ntmps5
    go_upto_region 1 with (fail)
    have HC := Lib.hid (boxed1 w F.vals 31)
    generalize w.alloc (.cells F.vals.toArray 31) = W at *
    go_wp2_with (first
      | (go_at_call 15; refine (is_any F _ _ _ (HC.out.blk (w.heap.size, F.vals, 31) (by simp)) HO.out).mono ?_; rintro e w' ⟨rfl, rfl⟩)
      | (go_at_call 14; refine (asked_any F HO.out _ _ _ _ (HC.out.blk (w.heap.size, F.vals, 31) (by simp))).mono ?_; rintro e w3 ⟨rfl, hb⟩;  have HC3 := Lib.hid (HC.out.step hb); clear hb)
      | ((with_reducible refine gate_dst (N := 25) rfl ?_); refine Kd.R_lit kI (w0 := w) w.heap.size 2 ?hg (N := 25) ?hd (xs := ([] : List Int)) (inner := []) (ok := fun _ => True) (okp := fun _ => False) ?hr ?hp (fun _ hk => hk.elim) trivial ?hB ?hS (by simp) ?_; (case hd => rfl); (case hg => rfl); (case hr => first | (go_simp; done) | (go_simp; rfl)); (case hp => exact (Reps.none _ _)); (case hB => exact HC3.out.below); (case hS => exact below_size (HC3.out.below)); intro v1 w1 ho1 hb1 hg1 hn1; have HR9 := Lib.hid ho1; have HB9 := Lib.hid hb1; clear ho1 hb1 hg1 hn1))
    go_ret2
    exact ⟨v1, by rw [HR.out]; rfl, by rw [HR.out]; exact HR9.out, HB9.out⟩
  case pos =>
  have HQ := Lib.hid hq
  obtain ⟨hva, hin⟩ := codeF_in hq
  rw [Bool.and_eq_true] at hin
  have hsb := inB_iff.1 (has_in hin.1)
  have htb := inB_iff.1 (has_in hin.2)
  obtain ⟨a, rfl⟩ : ∃ a : Nat, s = (a : Int) := ⟨s.toNat, by omega⟩
  obtain ⟨b, rfl⟩ : ∃ b : Nat, t = (b : Int) := ⟨t.toNat, by omega⟩
  have ha : a < 100 := by omega
  have hb100 : b < 100 := by omega
  have HTB := Lib.hid hin.2
  clear hq hva hin hsb htb
  cases hw : (F.way (a : Int) && F.way (b : Int))
  · have HR := Lib.hid (wy_state HQ.out hw)
    have HWW := Lib.hid hw
    clear hw
    go_enter Try.func5, Try.ntmps5
    go_upto_region 1 with (fail)
    have HC := Lib.hid (boxed1 w F.vals 31)
    generalize w.alloc (.cells F.vals.toArray 31) = W at *
    have hww : F.way (a : Int) = false ∨ (F.way (a : Int) = true ∧ F.way (b : Int) = false) := by
      have := HWW.out
      cases h1 : F.way (a : Int)
      · exact .inl rfl
      · rw [h1, Bool.true_and] at this
        exact .inr ⟨rfl, this⟩
    rcases hww with h1 | ⟨h1, h2⟩
    · have H1 := Lib.hid h1
      clear h1
      go_wp2_with (first
        | (go_at_call 15; refine (is_any F _ _ _ (HC.out.blk (w.heap.size, F.vals, 31) (by simp)) HO.out).mono ?_; rintro e w' ⟨rfl, rfl⟩)
        | (go_at_call 14; refine (asked_any F HO.out _ _ _ _ (HC.out.blk (w.heap.size, F.vals, 31) (by simp))).mono ?_; rintro e w3 ⟨rfl, hb⟩; rw [HQ.out]; have HC3 := Lib.hid (HC.out.step hb); clear hb)
        | (go_at_call 16; refine (walk_any F HO.out _ _ _ (HC3.out.blk (w.heap.size, F.vals, 31) (by simp))).mono ?_; rintro e w' ⟨rfl, rfl⟩; rw [H1.out])
        | ((with_reducible refine gate_dst (N := 35) rfl ?_); refine Kd.R_lit kI (w0 := w) w.heap.size 2 ?hg (N := 35) ?hd (xs := ([] : List Int)) (inner := []) (ok := fun _ => True) (okp := fun _ => False) ?hr ?hp (fun _ hk => hk.elim) trivial ?hB ?hS (by simp) ?_; (case hd => rfl); (case hg => rfl); (case hr => first | (go_simp; done) | (go_simp; rfl)); (case hp => exact (Reps.none _ _)); (case hB => exact HC3.out.below); (case hS => exact below_size (HC3.out.below)); intro v1 w1 ho1 hb1 hg1 hn1; have HR9 := Lib.hid ho1; have HB9 := Lib.hid hb1; clear ho1 hb1 hg1 hn1))
      go_ret2
      exact ⟨v1, by rw [HR.out]; rfl, by rw [HR.out]; exact HR9.out, HB9.out⟩
    · have H1 := Lib.hid h1
      have H2 := Lib.hid h2
      clear h1 h2
      go_wp2_with (first
        | (go_at_call 15; refine (is_any F _ _ _ (HC.out.blk (w.heap.size, F.vals, 31) (by simp)) HO.out).mono ?_; rintro e w' ⟨rfl, rfl⟩)
        | (go_at_call 14; refine (asked_any F HO.out _ _ _ _ (HC.out.blk (w.heap.size, F.vals, 31) (by simp))).mono ?_; rintro e w3 ⟨rfl, hb⟩; rw [HQ.out]; have HC3 := Lib.hid (HC.out.step hb); clear hb)
        | (go_at_call_of 16 (Value.int .i64 (a : Int)); refine (walk_any F HO.out _ (a : Int) _ (HC3.out.blk (w.heap.size, F.vals, 31) (by simp))).mono ?_; rintro e w' ⟨rfl, rfl⟩; rw [H1.out])
        | (go_at_call 16; refine (walk_any F HO.out _ (b : Int) _ (HC3.out.blk (w.heap.size, F.vals, 31) (by simp))).mono ?_; rintro e w' ⟨rfl, rfl⟩; rw [H2.out])
        | ((with_reducible refine gate_dst (N := 35) rfl ?_); refine Kd.R_lit kI (w0 := w) w.heap.size 2 ?hg (N := 35) ?hd (xs := ([] : List Int)) (inner := []) (ok := fun _ => True) (okp := fun _ => False) ?hr ?hp (fun _ hk => hk.elim) trivial ?hB ?hS (by simp) ?_; (case hd => rfl); (case hg => rfl); (case hr => first | (go_simp; done) | (go_simp; rfl)); (case hp => exact (Reps.none _ _)); (case hB => exact HC3.out.below); (case hS => exact below_size (HC3.out.below)); intro v1 w1 ho1 hb1 hg1 hn1; have HR9 := Lib.hid ho1; have HB9 := Lib.hid hb1; clear ho1 hb1 hg1 hn1))
      go_ret2
      exact ⟨v1, by rw [HR.out]; rfl, by rw [HR.out]; exact HR9.out, HB9.out⟩
  · have hww : F.way (a : Int) = true ∧ F.way (b : Int) = true := by rw [Bool.and_eq_true] at hw; exact hw
    have H1 := Lib.hid hww.1
    have H2 := Lib.hid hww.2
    have HWW := Lib.hid hw
    clear hw hww
    go_enter Try.func5, Try.ntmps5
    go_upto_region 1 with (fail)
    have HC := Lib.hid (boxed1 w F.vals 31)
    generalize w.alloc (.cells F.vals.toArray 31) = W at *
    go_upto_region 7 with (first
      | (go_at_call 15; refine (is_any F _ _ _ (HC.out.blk (w.heap.size, F.vals, 31) (by simp)) HO.out).mono ?_; rintro e w' ⟨rfl, rfl⟩)
      | (go_at_call 14; refine (asked_any F HO.out _ _ _ _ (HC.out.blk (w.heap.size, F.vals, 31) (by simp))).mono ?_; rintro e w3 ⟨rfl, hb⟩; rw [HQ.out]; have HC3 := Lib.hid (HC.out.step hb); clear hb)
      | (go_at_call_of 16 (Value.int .i64 (a : Int)); refine (walk_any F HO.out _ (a : Int) _ (HC3.out.blk (w.heap.size, F.vals, 31) (by simp))).mono ?_; rintro e w' ⟨rfl, rfl⟩; rw [H1.out])
      | (go_at_call 16; refine (walk_any F HO.out _ (b : Int) _ (HC3.out.blk (w.heap.size, F.vals, 31) (by simp))).mono ?_; rintro e w' ⟨rfl, rfl⟩; rw [H2.out])
      | ((with_reducible refine gate_op (.store 42 (.tmp 9) (.tmp 36)) rfl ?_); refine wpList_store_all rfl 42 (.tmp 9) (.tmp 36) rfl _ (icells fun _ => 0) (by kernel_rfl) (by kernel_rfl) (Blk.new' _ (icells fun _ => 0) 42) rfl (by kernel_rfl) (icells_one _) ?_; refine wpl_name (fun w' => Below w3.heap.size w3 w' ∧ Blk w' w3.heap.size (icells fun _ => 0) 42) ⟨below_setRow ((Below.refl _ _).alloc (Nat.le_refl _) _) (Nat.le_refl _) _, (Blk.new' _ _ _).row _⟩ ?_; rintro w7 ⟨hb, hK⟩; have HA7 := Lib.hid hK; have HB7 := Lib.hid hb; clear hb hK))
    have hg3 : w.heap.size < w3.heap.size := HC3.out.lt (w.heap.size, F.vals, 31) (by simp)
    have HGS : Hid (w3.heap.size = w3.heap.size) := Lib.hid rfl
    obtain ⟨g, hg⟩ : ∃ g, g = w3.heap.size := ⟨_, rfl⟩
    rw [← hg] at HA7 HB7 ⊢
    have HG := Lib.hid hg
    clear hg HGS
    have cb : w7.cell? ⟨g, b, none⟩ = some (.int .i64 0) := HA7.out.cell (icells_get _ hb100)
    have fb : w7.frozen? ⟨g, b, none⟩ = false := HA7.out.free _
    go_upto_region 8 with (fail)
    have HS8 : Hid (BfS g w3 (w7.setCell ⟨g, b, none⟩ (.int .i64 1)) (.slice none 0 0) ([], WY.upd (fun _ => 0) b 1)) := Lib.hid (BfS.store (S := ([], fun _ => 0)) ⟨Kd.R_nil _ _ _ _ _, HA7.out, HB7.out⟩ hb100 1)
    generalize w7.setCell ⟨g, b, none⟩ (.int .i64 1) = w8 at *
    clear cb fb HA7 HB7
    have hg8 : g < w8.heap.size := HS8.out.d.lt
    go_wp2_with (first
      | ((with_reducible refine gate_dst (N := 40) rfl ?_); refine Kd.R_lit kI (w0 := w3) g 2 ?hg (N := 40) ?hd (xs := [(b : Int)]) (inner := [.int .i64 (b : Int)]) (ok := fun k => k ≠ g) (okp := fun _ => False) ?hr ?hp (fun _ hk => hk.elim) ?hF ?hB ?hS (by simp) ?_; (case hd => rfl); (case hg => rfl); (case hr => first | (go_simp; done) | (go_simp; rfl)); (case hp => exact Kd.reps_scalar _); (case hF => exact (Nat.ne_of_gt hg8)); (case hB => exact HS8.out.b); (case hS => exact (by omega)); intro v1 w1 ho1 hb1 hg1 hn1; have HS9 := Lib.hid (HS8.out.app ho1 hb1 (grown_any hg1 _)); clear ho1 hb1 hg1 hn1))
    go_loopw [10, 11, 12, 13] (fun u v s q wr => ∃ i : Nat, i ≤ 100 ∧ v = .int .i64 i ∧ Hid (BfS g w3 wr u (WY.bfs F b i))) (fun _ v _ _ _ => 100 - (intOf v).toNat)
    case atStart => exact ⟨0, by omega, rfl, HS9⟩
    case round =>
      clear HS9 HS8
      obtain ⟨i, hi, rfl, HS⟩ := hrel
      have HI := Lib.hid (WY.BInv.bfs (F := F) hb100 HTB.out i)
      obtain ⟨A, c, rfl⟩ := HS.out.slice
      by_cases hlt : i < (WY.bfs F b i).1.length
      · obtain ⟨q, hq100, hq, hq0⟩ := HI.out.q i hlt
        obtain ⟨-, ad, rfl, cq⟩ := HS.out.at hlt
        rw [hq] at cq
        have HN : Hid (WY.bfs F b (i + 1) = WY.visTo F q (WY.bfs F b i) (bes F q 4).length) := Lib.hid (by show WY.rnd F i (WY.bfs F b i) = _; unfold WY.rnd; rw [if_pos hlt, hq, Int.toNat_natCast])
        have HQR := Lib.hid hq
        have hlen := HI.out.len
        generalize WY.bfs F b i = S0 at *
        clear hq
        go_wp2_with (go_at_call 17; refine (beside_any F HO.out hq100 _ _ (HS.out.field (HC3.out.blk (w.heap.size, F.vals, 31) (by simp)) HG.out)).mono ?_; rintro e w10 ⟨v10, rfl, hm, hb⟩; have HS10 := Lib.hid (HS.out.lst hm hb); clear hb hm)
        obtain ⟨A10, c10, rfl⟩ := Kd.R_slice HS10.out.l
        have HMX := bes_len F q 4
        clear cq
        obtain ⟨B0, hB0⟩ : ∃ B0, B0 = wr.heap.size := ⟨_, rfl⟩
        rw [← hB0] at HS10
        clear hB0
        go_loopw [10, 13] (fun u v wr2 => ∃ j : Nat, j ≤ (bes F q 4).length ∧ v = .int .i64 j ∧ Hid (BfL g B0 w3 (.slice A10 (bes F q 4).length c10) (bes F q 4) wr2 u (WY.visTo F q S0 j))) (fun _ v _ => (bes F q 4).length - (intOf v).toNat)
        case atStart => exact ⟨0, by omega, rfl, HS10⟩
        case round =>
          clear HS10
          obtain ⟨j, hj, rfl, HS2⟩ := hrel
          obtain ⟨HI2, hq2⟩ := WY.BInv.visTo HI.out hq0 j hj
          have HIJ := Lib.hid HI2
          have HLQ := Lib.hid HI2.len
          clear HI2
          obtain ⟨A2, c2, rfl⟩ := HS2.out.s.slice
          by_cases hlt2 : j < (bes F q 4).length
          · obtain ⟨n, hn100, hn⟩ := bes_nat hlt2
            obtain ⟨-, ad10, rfl, cl⟩ := HS2.out.at hlt2
            have hiq : i < (WY.visTo F q S0 j).1.length := Nat.lt_of_lt_of_le hlt (WY.visTo_len S0 j)
            obtain ⟨-, ad2, rfl, cq⟩ := HS2.out.s.at hiq
            rw [WY.visTo_rd S0 hlt, HQR.out] at cq
            rw [hn] at cl
            have HN2 : Hid (WY.visTo F q S0 (j + 1) = WY.visit F q n (WY.visTo F q S0 j)) := Lib.hid (by simp only [WY.visTo]; rw [hn, Int.toNat_natCast])
            obtain ⟨cn, fn⟩ := HS2.out.s.far hn100
            have cqq := (HS2.out.s.far hq100).1
            generalize WY.visTo F q S0 j = S at *
            have HNR := Lib.hid hn
            clear hn
            have HFB := Lib.hid (HS2.out.s.field (HC3.out.blk (w.heap.size, F.vals, 31) (by simp)) HG.out)
            cases hwn : F.way (n : Int)
            · have HX := Lib.hid hwn
              have HV : Hid (WY.visit F q n S = S) := Lib.hid (by unfold WY.visit; rw [hwn, Bool.false_and, if_neg (by decide)])
              clear hwn
              go_wp2_with (go_at_call 16; refine (walk_any F HO.out _ _ _ HFB.out).mono ?_; rintro e w' ⟨rfl, rfl⟩; rw [HX.out])
              go_roundw
              case rel => exact ⟨j + 1, by omega, by go_num, by rw [HN2.out, HV.out]; exact HS2⟩
              case measure => simp only [intOf]; omega
            · have HX := Lib.hid hwn
              by_cases h0 : S.2 n = 0
              · have HV : Hid (WY.visit F q n S = (S.1 ++ [(n : Int)], WY.upd S.2 n (S.2 q + 1))) := Lib.hid (by unfold WY.visit; rw [hwn, h0, if_pos (by decide)])
                rw [h0] at cn
                have hqhi := HIJ.out.hi q
                have hqlo := HIJ.out.lo q
                have hLQ := HLQ.out
                obtain ⟨dq, hdq⟩ : ∃ d, d = S.2 q := ⟨_, rfl⟩
                rw [← hdq] at cqq hqhi hqlo HV
                have hs1 : IntKind.i64.wrap (dq + 1) = dq + 1 := by rw [IntKind.wrap_i64]; omega
                clear hwn h0
                have HSa := Lib.hid (HS2.out.store hn100 (dq + 1))
                go_upto_region 17 with (go_at_call 16; refine (walk_any F HO.out _ _ _ HFB.out).mono ?_; rintro e w' ⟨rfl, rfl⟩; rw [HX.out])
                clear hdq
                have HSb := Lib.hid (HSa.out.drewN 1)
                have HSc := Lib.hid ((HS2.out.drewN 1).store hn100 (dq + 1))
                go_region
                all_goals
                  refine name_of (fun w' => BfL g B0 w3 (.slice (some ad10) (bes F q 4).length c10) (bes F q 4) w' (.slice (some ad2) S.1.length c2) (S.1, WY.upd S.2 n (dq + 1))) (by first | exact HSa.out | exact HSa.out.drewN 1 | exact HSc.out) ?_
                  intro wz hz2
                  have HSz := Lib.hid hz2
                  clear cl hz2
                  obtain ⟨-, ad', hA', cl⟩ := HSz.out.at hlt2
                  injection hA' with hA'
                  subst hA'
                  rw [HNR.out] at cl
                  go_wp2_with (first
                    | ((with_reducible refine gate_builtin (b := .append) (xs := #[.tmp 84, .tmp 89]) rfl ?_); at_builtin; (refine Kd.R_append kI (w0 := w3) g rfl (.tmp 84) (.tmp 89) 28 2 (.int .i64 0) 8 rfl Try.underlying28 infoQ_i64 rfl (by decide) (by omega) _ (S.1) ((n : Int)) [.int .i64 ((n : Int))] (fun k => k ≠ g) (fun _ => False) rfl rfl ?aP (fun _ hk => hk.elim) ?aF ?aO ?aB ?aS ?aL ?_; (case aP => exact rfl); (case aO => exact HSz.out.s.q); (case aB => exact HSz.out.s.b); (case aF => intro k hk; have := HSz.out.s.d.lt; exact Nat.ne_of_gt (Nat.lt_of_lt_of_le this hk)); (case aS => exact Nat.le_of_lt HSz.out.s.d.lt); (case aL => have := HLQ.out; omega); intro v1 w1 ho1 hb1 hg1 hat1; have HS3 := Lib.hid (HSz.out.app ho1 hb1 hg1 hat1); clear ho1 hb1 hg1 hat1)))
                  go_roundw
                  case rel => exact ⟨j + 1, by omega, by go_num, by rw [HN2.out, HV.out]; exact HS3⟩
                  case measure => simp only [intOf]; omega
              · have HV : Hid (WY.visit F q n S = S) := Lib.hid (by unfold WY.visit; rw [decide_eq_false h0, Bool.and_false, if_neg (by decide)])
                clear hwn
                go_wp2_with (go_at_call 16; refine (walk_any F HO.out _ _ _ HFB.out).mono ?_; rintro e w' ⟨rfl, rfl⟩; rw [HX.out])
                go_roundw
                case rel => exact ⟨j + 1, by omega, by go_num, by rw [HN2.out, HV.out]; exact HS2⟩
                case measure => simp only [intOf]; omega
          · obtain rfl : j = (bes F q 4).length := by omega
            go_wp2
            go_roundw
            case rel => exact ⟨i + 1, by omega, by go_num, by rw [HN.out]; exact Lib.hid HS2.out.s⟩
            case measure => simp only [intOf]; omega
      · have HE : Hid (WY.bfs F b i = WY.bfs F b 100) := Lib.hid (WY.bfs_end hi hlt)
        rw [HE.out] at HS hlt ⊢
        have HI2 := Lib.hid (WY.BInv.bfs (F := F) hb100 HTB.out 100)
        have HRN := Lib.hid (wy_none HQ.out HWW.out)
        have HRW := Lib.hid (wy_way HQ.out HWW.out)
        clear HE HI
        generalize WY.bfs F b 100 = S at *
        obtain ⟨wx, hwx⟩ : ∃ x, x = wr := ⟨_, rfl⟩
        rw [← hwx] at HS ⊢
        clear hwx
        have HCx : Hid (Cls w [(w.heap.size, F.vals, 31)] wx) := Lib.hid (HC3.out.step (by have h := HS.out.b; rw [HG.out] at h; exact h))
        have ca := (HS.out.far ha).1
        by_cases h0 : S.2 a = 0
        · have HR := Lib.hid (HRN.out h0)
          rw [h0] at ca
          clear HRN HRW h0
          go_wp2_with (first
            | ((with_reducible refine gate_dst (N := 95) rfl ?_); refine Kd.R_lit kI (w0 := wx) wx.heap.size 2 ?hg (N := 95) ?hd (xs := ([] : List Int)) (inner := []) (ok := fun _ => True) (okp := fun _ => False) ?hr ?hp (fun _ hk => hk.elim) trivial (Below.refl _ _) (Nat.le_refl _) (by simp) ?_; (case hd => rfl); (case hg => rfl); (case hr => first | (go_simp; done) | (go_simp; rfl)); (case hp => exact (Reps.none _ _)); intro v1 w1 ho1 hb1 hg1 hn1; have HR9 := Lib.hid ho1; have HB9 := Lib.hid hb1; clear ho1 hb1 hg1 hn1))
          go_ret2
          exact ⟨v1, by rw [HR.out]; rfl, by rw [HR.out]; exact Kd.R_lower HR9.out HCx.out.below.size, HCx.out.below.trans (HB9.out.mono HCx.out.below.size)⟩
        · have HR := Lib.hid (HRW.out h0)
          have hlo := HI2.out.lo a
          have hdn : ¬ ((S.2 a == 0) = true) := by simpa using h0
          have hdd : decide (S.2 a = 0) = false := decide_eq_false h0
          have HP := Lib.hid (HI2.out.path (s := a) (by omega))
          have HML : Hid ((S.2 a).toNat ≤ 100) := Lib.hid (by have h1 := HI2.out.hi a; have h2 := HI2.out.len; omega)
          obtain ⟨m, hm⟩ : ∃ m : Nat, S.2 a = (m : Int) + 1 := ⟨(S.2 a - 1).toNat, by omega⟩
          have HMM := Lib.hid hm
          have hm100 : m ≤ 100 := by have := HML.out; omega
          rw [hm] at ca
          clear HRN HRW h0 hlo hdn hdd hm HML
          have hm0 : ¬ ((m : Int) + 1 = 0) := by omega
          go_wp2_with (first
            | ((with_reducible refine gate_dst (N := 97) rfl ?_); refine Kd.R_lit kI (w0 := wx) wx.heap.size 2 ?hg (N := 97) ?hd (xs := [(a : Int)]) (inner := [.int .i64 (a : Int)]) (ok := fun _ => True) (okp := fun _ => False) ?hr ?hp (fun _ hk => hk.elim) trivial (Below.refl _ _) (Nat.le_refl _) (by simp) ?_; (case hd => rfl); (case hg => rfl); (case hr => first | (go_simp; done) | (go_simp; rfl)); (case hp => exact (Kd.reps_scalar _)); intro v1 w1 ho1 hb1 hg1 hn1; have HR9 := Lib.hid ho1; have HB9 := Lib.hid hb1; clear ho1 hb1 hg1 hn1))
          go_loopw [14, 15, 16, 17, 18] (fun o v s1 s2 s3 wr => ∃ k : Nat, k ≤ m ∧ v = .int .i64 (WY.pathC F S.2 a k : Nat) ∧ Hid (Kd.R kI 2 wr wx.heap.size (fun _ => True) o (WY.pathL F S.2 a k)) ∧ Hid (Below wx.heap.size wx wr)) (fun _ v _ _ _ _ => (S.2 (intOf v).toNat).toNat)
          case atStart => exact ⟨0, by omega, rfl, HR9, HB9⟩
          case round =>
            clear HR9 HB9
            obtain ⟨k, hk, rfl, HRo, HBo⟩ := hrel
            have hpk := HP.out k (by have := HMM.out; omega)
            have HN : Hid (WY.pathL F S.2 a (k + 1) = WY.pathL F S.2 a k ++ [(WY.pathC F S.2 a (k + 1) : Int)]) := Lib.hid rfl
            have HN2 : Hid (WY.pathC F S.2 a (k + 1) = (WY.nx F S.2 (WY.pathC F S.2 a k)).toNat) := Lib.hid rfl
            have HLQ := Lib.hid (WY.pathL_len F S.2 a k)
            have hqk := hpk.2
            rw [HMM.out] at hqk
            have hq0 := hpk.1
            clear hpk
            by_cases hlt2 : k < m
            · generalize WY.pathC F S.2 a k = q at *
              have hqb : q ≠ b := fun e => by have := HI2.out.tt; rw [← e] at this; omega
              obtain ⟨x, n, hx, hpx, hnox, hxn, hnx, hn100, hn0, hnd⟩ := HI2.out.next hq0 hqb
              have hq100 := (HI2.out.p q hq0).1
              have HMX := bes_len F q 4
              have HMN : Hid (mnTo S.2 q (bes F q 4) (bes F q 4).length = (n : Int)) := Lib.hid (by
                have h := mnTo_first (L := bes F q 4) hpx hnox (WY.bes_up 4 (Nat.le_refl _)) (by rw [hxn]; omega) ((bes F q 4).length - (x + 1)) (by omega)
                rw [show x + 1 + ((bes F q 4).length - (x + 1)) = (bes F q 4).length by omega, hxn] at h
                exact h)
              have HN3 : Hid (WY.pathC F S.2 a (k + 1) = n) := Lib.hid (by rw [HN2.out, hnx, Int.toNat_natCast])
              have HND := Lib.hid hnd
              clear hx hpx hnox hxn hnx HN2 hnd hn0
              have hqbd : decide ((q : Int) = (b : Int)) = false := decide_eq_false (by omega)
              have hqbz : ¬ ((q : Int) = (b : Int)) := by omega
              have HFx := HCx.out.step HBo.out
              go_wp2_with (go_at_call 17; refine (beside_any F HO.out hq100 _ _ (HFx.blk (w.heap.size, F.vals, 31) (by simp))).mono ?_; rintro e w10 ⟨v10, rfl, hm, hb⟩; have HRo10 := Lib.hid (Kd.R_below HRo.out hb); have HB10 := Lib.hid (below_then HBo.out HBo.out.size hb); obtain ⟨A10, c10, rfl, hm2⟩ := made_cells hm; have HM := Lib.hid hm2; clear hb hm hm2)
              go_loopw [17, 18] (fun u v wr2 => ∃ j : Nat, j ≤ (bes F q 4).length ∧ v = .int .i64 j ∧ u = .int .i64 (mnTo S.2 q (bes F q 4) j) ∧ Hid (Below w10.heap.size w10 wr2)) (fun _ v _ => (bes F q 4).length - (intOf v).toNat)
              case atStart => exact ⟨0, by omega, rfl, rfl, Lib.hid (Below.refl _ _)⟩
              case round =>
                obtain ⟨j, hj, rfl, rfl, HBj⟩ := hrel
                by_cases hlt3 : j < (bes F q 4).length
                · obtain ⟨ad, hA, h1, h2, cl⟩ := HM.out j hlt3
                  subst hA
                  obtain ⟨n2, hn2, hn2r⟩ := bes_nat hlt3
                  rw [hn2r] at cl
                  have cl := (HBj.out.cell (p := ad.add j) (by rw [addr_blockW]; exact h2)).trans cl
                  have HSj := Lib.hid ((HS.out.below HB10.out).below HBj.out)
                  have cn2 := (HSj.out.far hn2).1
                  have cqq := (HSj.out.far hq100).1
                  have HN4 : Hid (mnTo S.2 q (bes F q 4) (j + 1) = if (decide (0 < S.2 n2) && decide (S.2 n2 = S.2 q - 1)) = true then min (mnTo S.2 q (bes F q 4) j) (n2 : Int) else mnTo S.2 q (bes F q 4) j) := Lib.hid (by simp only [mnTo]; unfold WY.nearer; rw [hn2r, Int.toNat_natCast])
                  generalize mnTo S.2 q (bes F q 4) j = M at *
                  obtain ⟨dq, hdq⟩ : ∃ d, d = S.2 q := ⟨_, rfl⟩
                  obtain ⟨dn, hdn⟩ : ∃ d, d = S.2 n2 := ⟨_, rfl⟩
                  rw [← hdq] at cqq HN4
                  rw [← hdn] at cn2 HN4
                  have hs1 : IntKind.i64.wrap (dq - 1) = dq - 1 := by rw [IntKind.wrap_i64]; omega
                  clear hdq hdn hn2r h1 h2
                  by_cases hc1 : dn = dq - 1
                  · by_cases hc2 : 0 < dn
                    · have HN5 := Lib.hid (HN4.out.trans (if_pos (by rw [decide_eq_true hc1, decide_eq_true hc2]; rfl)))
                      have hd1 : decide (dn = dq - 1) = true := decide_eq_true hc1
                      have he1 : (dn == dq - 1) = true := by simpa using hc1
                      have hzn : (n2 : Int) < 100 := by omega
                      have hd2 : decide (dn > 0) = true := decide_eq_true hc2
                      clear HN4
                      go_wp2
                      go_region
                      all_goals
                        refine name_of (fun w' => Below w10.heap.size w10 w' ∧ w'.cell? (ad.add j) = some (.int .i64 (n2 : Int))) ⟨by first | exact HBj.out | exact pw_below_drewN HBj.out 1 | exact HBj.out.drew, by exact cl⟩ ?_
                        rintro wz ⟨hb, clz⟩
                        have HBz := Lib.hid hb
                        clear cl hb
                        go_wp2_with (go_at_call 18; refine (minW_any _ _ _).mono ?_; rintro e w11 ⟨rfl, hb⟩; have HB11 := Lib.hid (below_then HBz.out HBz.out.size hb); clear hb)
                        go_roundw
                        case rel => exact ⟨j + 1, by omega, by go_num, by rw [HN5.out], HB11⟩
                        case measure => simp only [intOf]; omega
                    · have HN5 := Lib.hid (HN4.out.trans (if_neg (by rw [decide_eq_false hc2, Bool.false_and]; decide)))
                      have hd1 : decide (dn = dq - 1) = true := decide_eq_true hc1
                      have he1 : (dn == dq - 1) = true := by simpa using hc1
                      have hzn : (n2 : Int) < 100 := by omega
                      have hd2 : decide (dn > 0) = false := decide_eq_false hc2
                      clear HN4
                      go_wp2
                      go_region
                      all_goals
                        refine name_of (fun w' => Below w10.heap.size w10 w') (by first | exact HBj.out | exact pw_below_drewN HBj.out 1 | exact HBj.out.drew) ?_
                        intro wz hb
                        have HBz := Lib.hid hb
                        clear cl hb
                        go_wp2
                        go_roundw
                        case rel => exact ⟨j + 1, by omega, by go_num, by rw [HN5.out], HBz⟩
                        case measure => simp only [intOf]; omega
                  · have HN5 := Lib.hid (HN4.out.trans (if_neg (by rw [decide_eq_false hc1, Bool.and_false]; decide)))
                    have hd1 : decide (dn = dq - 1) = false := decide_eq_false hc1
                    have he1 : (dn == dq - 1) = false := by simpa using hc1
                    have hzn : (n2 : Int) < 100 := by omega
                    clear HN4
                    go_wp2
                    go_region
                    all_goals
                      refine name_of (fun w' => Below w10.heap.size w10 w') (by first | exact HBj.out | exact pw_below_drewN HBj.out 1 | exact HBj.out.drew) ?_
                      intro wz hb
                      have HBz := Lib.hid hb
                      clear cl hb
                      go_wp2
                      go_roundw
                      case rel => exact ⟨j + 1, by omega, by go_num, by rw [HN5.out], HBz⟩
                      case measure => simp only [intOf]; omega
                · obtain rfl : j = (bes F q 4).length := by omega
                  rw [HMN.out]
                  have HRz := Lib.hid (Kd.R_below HRo10.out HBj.out)
                  have HBz := Lib.hid (below_then HB10.out HB10.out.size HBj.out)
                  have HL2 : Hid ((WY.pathL F S.2 a k).length ≤ 100) := Lib.hid (by rw [HLQ.out]; omega)
                  clear HRo10 HB10 HBj
                  go_wp2_with (first
                    | ((with_reducible refine gate_builtin (b := .append) (xs := #[.tmp 137, .tmp 139]) rfl ?_); at_builtin; (refine Kd.R_append kI (w0 := wx) wx.heap.size rfl (.tmp 137) (.tmp 139) 28 2 (.int .i64 0) 8 rfl Try.underlying28 infoQ_i64 rfl (by decide) (by omega) _ (WY.pathL F S.2 a k) ((n : Int)) [.int .i64 ((n : Int))] (fun _ => True) (fun _ => False) rfl rfl ?aP (fun _ hk => hk.elim) ?aF ?aO ?aB ?aS ?aL ?_; (case aP => exact rfl); (case aO => exact HRz.out); (case aB => exact HBz.out); (case aF => exact fun _ _ => trivial); (case aS => exact below_size HBz.out); (case aL => have := HL2.out; omega); intro v1 w1 ho1 hb1 hg1 hat1; have HR9 := Lib.hid ho1; have HB9 := Lib.hid hb1; clear ho1 hb1 hg1 hat1)))
                  go_roundw
                  case rel => exact ⟨k + 1, by omega, by rw [HN3.out], by rw [HN.out, HN3.out]; exact HR9, HB9⟩
                  case measure => simp only [intOf, Int.toNat_natCast]; rw [HND.out]; omega
            · obtain rfl : k = m := by omega
              have hqq : S.2 (WY.pathC F S.2 a k) = 1 := by omega
              have hqb := HI2.out.one _ hqq
              rw [hqb]
              have HR2 : Hid (wyRes F (a : Int) (b : Int) = (WY.pathL F S.2 a k, 0)) := Lib.hid (by rw [HR.out, HMM.out, show (((k : Int) + 1 - 1).toNat) = k by omega])
              go_wp2
              go_ret2
              exact ⟨_, by rw [HR2.out]; rfl, by rw [HR2.out]; exact Kd.R_lower HRo.out HCx.out.below.size, HCx.out.below.trans (HBo.out.mono HCx.out.below.size)⟩

end Go.Proofs.Ytinpmhmagcmamaa
