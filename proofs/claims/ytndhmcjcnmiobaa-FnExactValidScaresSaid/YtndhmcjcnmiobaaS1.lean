/- Scarecrows: what is told of them; a list held against a cell by the program. No condition but that the numbers are within their kinds. -/
import Derived.Test.YtndhmcjcnmiobaaPAllx1
import Derived.Test.YtndhmcjcnmiobaaGC
import Derived.Test.YtndhmcjcnmiobaaGB
namespace Go.Proofs.Ytndhmcjcnmiobaa
open Go.RowKit Go.Proofs.YtndhmcjcnmiobaaW.PrintWords Go.Proofs.YtndhmcjcnmiobaaW.PrintLast Go.Proofs.YtndhmcjcnmiobaaW.PrintMore Go.Proofs.Ytndhmcjcnmiobaa.PAll
set_option linter.unusedSimpArgs false
set_option linter.unusedVariables false

theorem w64_id {z : Int} (h0 : -32768 ≤ z) (h1 : z ≤ 32767) : wrap64 z = z := by
  unfold wrap64
  omega
theorem within_f (a b c : Int) : impl_within.f a b c = some (inB a b c) := by
  unfold impl_within.f inB
  by_cases h : b ≤ a
  · simp [h]
  · simp [h]
theorem l00In_f (a b c : Int) : spec_l00In.f a b c = some (inB a b c) := by
  unfold spec_l00In.f inB
  by_cases h : b ≤ a
  · simp [h]
  · simp [h]
def scVals (x : S61) : List Value := [.int .i16 x.f0, .int .i16 x.f1, .int .i8 x.f2]
structure ScOk (x : S61) : Prop where
  a0 : -32768 ≤ x.f0
  a1 : x.f0 ≤ 32767
  b0 : -32768 ≤ x.f1
  b1 : x.f1 ≤ 32767
  c0 : -128 ≤ x.f2
  c1 : x.f2 ≤ 127
def ScsOk (xs : List S61) : Prop := ∀ i : Nat, i < xs.length → ScOk (rd_T61 xs (i : Int))
def scPlain (x : S61) : Bool := inB x.f0 0 99 && (inB x.f1 1 1000 && inB x.f2 0 30)
theorem scPlain_any (x : S61) (hx : ScOk x) (w : World) : Calls Try.prog 56 #[.agg (scVals x).toArray] w fun e w' => e = .returned (.bool (scPlain x)) ∧ Below w.heap.size w w' := by
  refine (impl_Scarecrow_isPlain.calls x.f0 x.f1 x.f2 (scPlain x) w ?_).mono ?_
  · unfold impl_Scarecrow_isPlain.f impl_isPower.f scPlain
    have e2 : wrap64 x.f2 = x.f2 := w64_id (by have := hx.c0; omega) (by have := hx.c1; omega)
    simp only [within_f, w64_id hx.a0 hx.a1, w64_id hx.b0 hx.b1, e2, Option.bind_some]
    cases inB x.f0 0 99 <;> cases inB x.f1 1 1000 <;> cases inB x.f2 0 30 <;> rfl
  · rintro e w1 h
    exact h
theorem shape_any (x : S61) (hx : ScOk x) (w : World) : Calls Try.prog 52 #[.agg (scVals x).toArray] w fun e w' => e = .returned (.bool (scPlain x)) ∧ Below w.heap.size w w' := by
  refine (spec_l03Shape.calls x.f0 x.f1 x.f2 (scPlain x) w ?_).mono ?_
  · unfold spec_l03Shape.f scPlain
    have e2 : wrap64 x.f2 = x.f2 := w64_id (by have := hx.c0; omega) (by have := hx.c1; omega)
    simp only [l00In_f, w64_id hx.a0 hx.a1, w64_id hx.b0 hx.b1, e2, Option.bind_some]
    cases inB x.f0 0 99 <;> cases inB x.f1 1 1000 <;> cases inB x.f2 0 30 <;> rfl
  · rintro e w1 h
    exact h

/-- A cell that is no tree. -/
def Fld.place (F : Fld) (c : Int) : Bool := F.has c && !(F.kind c.toNat == 3)
theorem isPlace_any (F : Fld) (hF : F.Ok) (c : Int) (g : Nat) (w : World) (hf : IsF w g F) :
    Calls Try.prog 57 #[.pointer (some ⟨g, 0, none⟩), .int .i64 c] w fun e w' => e = .returned (.bool (F.place c)) ∧ Below w.heap.size w w' := by
  cases hh : F.has c
  · have HH := Lib.hid hh
    have HP : Hid (F.place c = false) := Lib.hid (by unfold Fld.place; rw [hh]; rfl)
    have HF := Lib.hid hf
    have HO := Lib.hid hF
    clear hh hf hF
    go_enter Try.func57, Try.ntmps57
    go_wp2_with (go_at_call 55; refine (has_any F g c w HF.out HO.out).mono ?_; rintro e w' ⟨rfl, rfl⟩; rw [HH.out])
    go_ret
    exact ⟨ret_bool HP.out.symm, Below.refl _ _⟩
  · obtain ⟨k, rfl, hk⟩ := has_nat hh
    have ck := hf.ck hF hk
    obtain ⟨b0, b1⟩ := hF.kb k
    have HH := Lib.hid hh
    have HF := Lib.hid hf
    have HO := Lib.hid hF
    have HP : Hid (F.place (k : Int) = !(F.kind k == 3)) := Lib.hid (by unfold Fld.place; rw [hh, Int.toNat_natCast]; rfl)
    clear hh hf hF
    cases h3 : (F.kind k == 3)
    all_goals
      have H3 := Lib.hid h3
      go_enter Try.func57, Try.ntmps57
      go_wp2_with (go_at_call 55; refine (has_any F g _ w HF.out HO.out).mono ?_; rintro e w' ⟨rfl, rfl⟩; rw [HH.out])
      go_ret
      exact ⟨ret_bool (by rw [HP.out, bne, H3.out]), Below.refl _ _⟩

/-- Whether something holds of one at least of the first n. -/
def anyTo (p : Nat → Bool) (n : Nat) : Bool := (List.range n).any p
theorem any_yes {p : Nat → Bool} {n : Nat} (i : Nat) (hi : i < n) (h : p i = true) : anyTo p n = true := List.any_eq_true.2 ⟨i, List.mem_range.2 hi, h⟩
theorem any_no {p : Nat → Bool} {n : Nat} (h : ∀ i, i < n → p i = false) : anyTo p n = false := by
  rw [Bool.eq_false_iff]
  intro e
  obtain ⟨i, hi, h1⟩ := List.any_eq_true.1 e
  rw [h i (List.mem_range.1 hi)] at h1
  cases h1

set_option maxHeartbeats 2000000 in
theorem scIndex_any (xs : List S61) (p : Nat → Bool) (A : Option Addr) (c : Nat) (f : FuncId) (caps : Array Value) (w : World) (hA : Kd.C k61 w A xs.length xs)
    (eg : ∀ args w, (callFunc f args).run Try.prog w = .ok (.enter f args) w)
    (hc : ∀ (i : Nat) w1, i < xs.length → Below w.heap.size w w1 → Calls Try.prog f (#[.agg (scVals (rd_T61 xs (i : Int))).toArray] ++ caps) w1 fun e w' => e = .returned (.bool (p i)) ∧ Below w1.heap.size w1 w') :
    Calls Try.prog 78 #[.slice A xs.length c, .func (.func f) #[] caps] w fun e w' => (∃ z : Int, e = .returned (.int .i64 z) ∧ -1 ≤ z ∧ z ≤ xs.length ∧ decide (0 ≤ z) = anyTo p xs.length) ∧ Below w.heap.size w w' := by
  have HA := Lib.hid hA
  have HC := Lib.hid hc
  have hlen := hA.2.1
  clear hA hc
  go_enter Try.func78, Try.ntmps78
  go_wp2
  go_loopw [8] (fun v wr => ∃ i : Nat, i ≤ xs.length ∧ v = .int .i64 i ∧ Hid (∀ j, j < i → p j = false) ∧ Hid (Below w.heap.size w wr)) (fun v _ => xs.length - (intOf v).toNat)
  case atStart => exact ⟨0, by omega, rfl, Lib.hid (fun j hj => by omega), Lib.hid (Below.refl _ _)⟩
  case round =>
    obtain ⟨i, hi, rfl, HR, HB⟩ := hrel
    by_cases hlt : i < xs.length
    · obtain ⟨ad, hA, x0, x1, x2⟩ := at_T61 (Kd.C_below HA.out HB.out) (i : Int) (by omega) (by omega)
      subst hA
      rw [Int.toNat_natCast] at x0 x1 x2
      have HCi := Lib.hid (HC.out i wr hlt HB.out)
      generalize rd_T61 xs (i : Int) = x at *
      cases hp : p i
      · have HP := Lib.hid hp
        clear hp
        go_wp2_with (go_at_fn f; refine HCi.out.mono ?_; rintro e w5 ⟨rfl, hb⟩; rw [HP.out]; have HB5 : Hid (Below w.heap.size w w5) := Lib.hid (HB.out.trans (hb.mono HB.out.size)); clear hb)
        go_roundw
        case rel => exact ⟨i + 1, by omega, by go_num, Lib.hid (fun j hj => by
          rcases Nat.lt_or_ge j i with h | h
          · exact HR.out j h
          · have e : j = i := by omega
            rw [e]; exact HP.out), HB5⟩
        case measure => simp only [intOf]; omega
      · have HP := Lib.hid hp
        clear hp
        go_wp2_with (go_at_fn f; refine HCi.out.mono ?_; rintro e w5 ⟨rfl, hb⟩; rw [HP.out]; have HB5 : Hid (Below w.heap.size w w5) := Lib.hid (HB.out.trans (hb.mono HB.out.size)); clear hb)
        go_ret
        exact ⟨⟨(i : Int), rfl, by omega, by omega, by rw [any_yes i hlt HP.out]; simp⟩, HB5.out⟩
    · obtain rfl : i = xs.length := by omega
      go_wp2
      go_ret
      exact ⟨⟨-1, rfl, by omega, by omega, by rw [any_no HR.out]; rfl⟩, HB.out⟩

theorem scHas_any (xs : List S61) (p : Nat → Bool) (A : Option Addr) (c : Nat) (f : FuncId) (caps : Array Value) (w : World) (hA : Kd.C k61 w A xs.length xs)
    (eg : ∀ args w, (callFunc f args).run Try.prog w = .ok (.enter f args) w)
    (hc : ∀ (i : Nat) w1, i < xs.length → Below w.heap.size w w1 → Calls Try.prog f (#[.agg (scVals (rd_T61 xs (i : Int))).toArray] ++ caps) w1 fun e w' => e = .returned (.bool (p i)) ∧ Below w1.heap.size w1 w') :
    Calls Try.prog 75 #[.slice A xs.length c, .func (.func f) #[] caps] w fun e w' => e = .returned (.bool (anyTo p xs.length)) ∧ Below w.heap.size w w' := by
  have HA := Lib.hid hA
  have HC := Lib.hid hc
  have hlen := hA.2.1
  clear hA hc
  go_enter Try.func75, Try.ntmps75
  go_wp2_with (go_at_call 78; refine (scIndex_any xs p A c f caps _ HA.out eg HC.out).mono ?_; rintro e w5 ⟨⟨z, rfl, hz0, hz1, hz2⟩, hb⟩; have HZ := Lib.hid hz2; have HB := Lib.hid hb; clear hz2 hb)
  go_ret
  exact ⟨ret_bool HZ.out, HB.out⟩

theorem standsClo_any (x : S61) (hx : ScOk x) (k : Int) (d : Nat) (w : World) (hd : Blk w d [.int .i64 k] 2) :
    Calls Try.prog 76 #[.agg (scVals x).toArray, .pointer (some ⟨d, 0, none⟩)] w fun e w' => e = .returned (.bool (x.f0 == k)) ∧ Below w.heap.size w w' := by
  have HD := Lib.hid hd
  obtain ⟨a0, a1, b0, b1, c0, c2⟩ := hx
  clear hd
  go_enter Try.func76, Try.ntmps76
  go_upto_region 1 with (fail)
  obtain ⟨W, hW⟩ : ∃ W, W = w.alloc (.cells (scVals x).toArray 61) := ⟨_, rfl⟩
  have HC := Lib.hid (boxed1 w (scVals x) 61)
  have c1 : W.cell? ⟨d, 0, none⟩ = some (.int .i64 k) := (by rw [hW]; exact (HD.out.alloc _).cell rfl)
  rw [← hW] at HC ⊢
  clear hW
  have c0 : W.cell? ⟨w.heap.size, 0, none⟩ = some (.int .i16 x.f0) := (HC.out.blk (w.heap.size, scVals x, 61) (by simp)).cell rfl
  go_wp2
  go_ret
  exact ⟨ret_bool (by simp), HC.out.below⟩
/-- Whether one stands in a cell. -/
def standB (xs : List S61) (k : Int) : Bool := anyTo (fun i => (rd_T61 xs (i : Int)).f0 == k) xs.length
theorem stands_any (xs : List S61) (hx : ScsOk xs) (k : Int) (A : Option Addr) (c : Nat) (w : World) (hA : Kd.C k61 w A xs.length xs) :
    Calls Try.prog 58 #[.slice A xs.length c, .int .i64 k] w fun e w' => e = .returned (.bool (standB xs k)) ∧ Below w.heap.size w w' := by
  have HA := Lib.hid hA
  have HX := Lib.hid hx
  clear hA hx
  have hmf : ∀ (fn : Fn) (first cap : Array Value) (w : World), (Instr.makeFunc fn first cap).run Try.prog w = .ok (.func fn first cap) w := fun _ _ _ _ => rfl
  go_enter Try.func58, Try.ntmps58
  go_upto_region 1 with (fail)
  obtain ⟨W, hW⟩ : ∃ W, W = w.alloc (.cells [Value.int .i64 k].toArray 2) := ⟨_, rfl⟩
  have HC := Lib.hid (boxed1 w [.int .i64 k] 2)
  rw [← hW] at HC ⊢
  clear hW
  go_wp2_with (go_at_call 75; refine (scHas_any xs (fun i => (rd_T61 xs (i : Int)).f0 == k) A c 76 _ _ (Kd.C_below HA.out HC.out.below) (enters_of Try.func76 (by kernel_rfl) rfl) (fun i w1 hi hb => by rw [app1]; exact standsClo_any _ (HX.out i hi) k _ w1 ((HC.out.step hb).blk (w.heap.size, [.int .i64 k], 2) (by simp)))).mono ?_; rintro e w2 ⟨rfl, hb⟩; have HC2 := Lib.hid (HC.out.step hb); clear hb)
  go_ret
  exact ⟨rfl, HC2.out.below⟩
end Go.Proofs.Ytndhmcjcnmiobaa
