/- Flocks: whether their numbers are as told, by the reference; and who is hungry. No condition but that the numbers are within their kinds. -/
import Derived.Test.YtlhiaofanejcoaaK2
namespace Go.Proofs.Ytlhiaofanejcoaa
open Go.RowKit Go.Proofs.YtlhiaofanejcoaaW.PrintWords Go.Proofs.YtlhiaofanejcoaaW.PrintLast Go.Proofs.YtlhiaofanejcoaaW.PrintMore Go.Proofs.Ytlhiaofanejcoaa.PAll
set_option linter.unusedSimpArgs false
set_option linter.unusedVariables false

/-- A flock's cells lie here. -/
structure FlkAt (w : World) (p : Addr) (x : S39) : Prop where
  c0 : w.cell? p = some (.int .i16 x.f0)
  c1 : w.cell? ⟨p.block, p.off + 1, none⟩ = some (.int .i16 x.f1)
  c2 : w.cell? ⟨p.block, p.off + 2, none⟩ = some (.int .i16 x.f2)
  c3 : w.cell? ⟨p.block, p.off + 3, none⟩ = some (.int .i16 x.f3)
  c4 : w.cell? ⟨p.block, p.off + 4, none⟩ = some (.int .i16 x.f4)
  c5 : w.cell? ⟨p.block, p.off + 5, none⟩ = some (.int .i8 x.f5)
theorem FlkAt.blk {w : World} {g : Nat} {x : S39} (h : Blk w g (flkVals x) 39) : FlkAt w ⟨g, 0, none⟩ x :=
  ⟨h.cell (i := 0) rfl, h.cell (i := 1) rfl, h.cell (i := 2) rfl, h.cell (i := 3) rfl, h.cell (i := 4) rfl, h.cell (i := 5) rfl⟩
def spPlain (x : S39) : Bool := inB x.f1 0 200 && (inB x.f2 0 20 && (inB x.f3 0 1000 && (inB x.f4 0 200 && (inB x.f5 0 2))))
theorem allB_iff6 {p : Nat → Bool} : (allB 6 p = true) = (p 0 = true ∧ p 1 = true ∧ p 2 = true ∧ p 3 = true ∧ p 4 = true ∧ p 5 = true) := by
  simp [allB, List.range_succ]
theorem spPlain_same (x : S39) : flkPlain x = (inB x.f0 0 99 && spPlain x) := by
  rw [Bool.eq_iff_iff]
  unfold flkPlain spPlain
  rw [allB_iff6]
  simp only [Bool.and_eq_true]
  rfl
theorem flkOn_same (F : Fld) (x : S39) : flkOn F x = (spPlain x && (F.has x.f0 && (F.kind x.f0.toNat == 3))) := by
  unfold flkOn
  rw [spPlain_same]
  cases hh : F.has x.f0
  · cases inB x.f0 0 99 <;> cases spPlain x <;> rfl
  · have : inB x.f0 0 99 = true := by unfold Fld.has at hh; rw [Bool.and_eq_true] at hh; exact hh.1
    rw [this]; rfl

set_option maxHeartbeats 2000000 in
theorem l02Plain_any (x : S39) (hx : FlkOk x) (p : Addr) (w : World) (hB : FlkAt w p x) :
    Calls Try.prog 91 #[.pointer (some p)] w fun e w' => e = .returned (.bool (spPlain x)) ∧ w = w' := by
  obtain ⟨a0, a1, b0, b1, c0, c1, d0, d1, e0, e1, g0, g1⟩ := hx
  obtain ⟨k0, k1, k2, k3, k4, k5⟩ := hB
  unfold spPlain
  cases h0 : inB x.f1 0 200
  · skip
    have H0 := Lib.hid h0
    clear h0
    go_enter Try.func91, Try.ntmps91
    go_wp2_with (go_at_call 74; refine (in_any _ _ _ _).mono ?_; rintro e w' ⟨rfl, rfl⟩; (first | rw [H0.out]))
    go_ret
    exact ⟨rfl, rfl⟩
  cases h1 : inB x.f2 0 20
  · skip
    have H0 := Lib.hid h0
    have H1 := Lib.hid h1
    clear h0 h1
    go_enter Try.func91, Try.ntmps91
    go_wp2_with (go_at_call 74; refine (in_any _ _ _ _).mono ?_; rintro e w' ⟨rfl, rfl⟩; (first | rw [H0.out] | rw [H1.out]))
    go_ret
    exact ⟨rfl, rfl⟩
  cases h2 : inB x.f3 0 1000
  · skip
    have H0 := Lib.hid h0
    have H1 := Lib.hid h1
    have H2 := Lib.hid h2
    clear h0 h1 h2
    go_enter Try.func91, Try.ntmps91
    go_wp2_with (go_at_call 74; refine (in_any _ _ _ _).mono ?_; rintro e w' ⟨rfl, rfl⟩; (first | rw [H0.out] | rw [H1.out] | rw [H2.out]))
    go_ret
    exact ⟨rfl, rfl⟩
  cases h3 : inB x.f4 0 200
  · skip
    have H0 := Lib.hid h0
    have H1 := Lib.hid h1
    have H2 := Lib.hid h2
    have H3 := Lib.hid h3
    clear h0 h1 h2 h3
    go_enter Try.func91, Try.ntmps91
    go_wp2_with (go_at_call 74; refine (in_any _ _ _ _).mono ?_; rintro e w' ⟨rfl, rfl⟩; (first | rw [H0.out] | rw [H1.out] | rw [H2.out] | rw [H3.out]))
    go_ret
    exact ⟨rfl, rfl⟩
  cases h4 : inB x.f5 0 2
  · skip
    have H0 := Lib.hid h0
    have H1 := Lib.hid h1
    have H2 := Lib.hid h2
    have H3 := Lib.hid h3
    have H4 := Lib.hid h4
    clear h0 h1 h2 h3 h4
    go_enter Try.func91, Try.ntmps91
    go_wp2_with (go_at_call 74; refine (in_any _ _ _ _).mono ?_; rintro e w' ⟨rfl, rfl⟩; (first | rw [H0.out] | rw [H1.out] | rw [H2.out] | rw [H3.out] | rw [H4.out]))
    go_ret
    exact ⟨rfl, rfl⟩
  have H0 := Lib.hid h0
  have H1 := Lib.hid h1
  have H2 := Lib.hid h2
  have H3 := Lib.hid h3
  have H4 := Lib.hid h4
  clear h0 h1 h2 h3 h4
  go_enter Try.func91, Try.ntmps91
  go_wp2_with (go_at_call 74; refine (in_any _ _ _ _).mono ?_; rintro e w' ⟨rfl, rfl⟩; (first | rw [H0.out] | rw [H1.out] | rw [H2.out] | rw [H3.out] | rw [H4.out]))
  go_ret
  exact ⟨rfl, rfl⟩

set_option maxHeartbeats 1000000 in
theorem l02Tree_any (F : Fld) (hF : F.Ok) (b : Nat) (c : Int) (w : World) (hf : IsF w b F) : Calls Try.prog 92 #[.pointer (some ⟨b, 0, none⟩), .int .i64 c] w fun e w' => e = .returned (.bool (F.has c && (F.kind c.toNat == 3))) ∧ w = w' := by
  have HF := Lib.hid hf
  have HO := Lib.hid hF
  have hck := fun (k : Nat) (hk : k < 100) => hf.ck hF hk
  clear hf hF
  cases hx : F.has c
  · have HX := Lib.hid hx
    clear hx hck
    go_enter Try.func92, Try.ntmps92
    go_wp2_with (go_at_call 88; refine (is_any F _ _ _ HF.out HO.out).mono ?_; rintro e w' ⟨rfl, rfl⟩; rw [HX.out])
    go_ret
    exact ⟨by simp, rfl⟩
  · obtain ⟨k, rfl, hk⟩ := has_nat hx
    have HX := Lib.hid hx
    have c1 := hck k hk
    rw [Int.toNat_natCast]
    clear hx hck
    cases h3 : (F.kind k == 3)
    all_goals
      go_enter Try.func92, Try.ntmps92
      go_wp2_with (go_at_call 88; refine (is_any F _ _ _ HF.out HO.out).mono ?_; rintro e w' ⟨rfl, rfl⟩; rw [HX.out])
      go_ret
      exact ⟨by simp, rfl⟩

set_option maxHeartbeats 1000000 in
theorem l02Flock_any (F : Fld) (hF : F.Ok) (x : S39) (hx : FlkOk x) (b : Nat) (p : Addr) (w : World) (hf : IsF w b F) (hB : FlkAt w p x) :
    Calls Try.prog 61 #[.pointer (some ⟨b, 0, none⟩), .pointer (some p)] w fun e w' => e = .returned (.bool (flkOn F x)) ∧ w = w' := by
  have HF := Lib.hid hf
  have HO := Lib.hid hF
  have HX := Lib.hid hx
  have HB := Lib.hid hB
  have k0 := hB.c0
  have hb0 := hx.a0
  have hb1 := hx.a1
  rw [flkOn_same]
  clear hf hF hx hB
  cases h1 : spPlain x
  · have H1 := Lib.hid h1
    clear h1
    go_enter Try.func61, Try.ntmps61
    go_wp2_with (go_at_call 91; refine (l02Plain_any x HX.out _ _ HB.out).mono ?_; rintro e w' ⟨rfl, rfl⟩; rw [H1.out])
    go_ret
    exact ⟨rfl, rfl⟩
  · have H1 := Lib.hid h1
    clear h1
    cases h2 : (F.has x.f0 && (F.kind x.f0.toNat == 3))
    all_goals
      have H2 := Lib.hid h2
      clear h2
      go_enter Try.func61, Try.ntmps61
      go_wp2_with (first
        | (go_at_call 91; refine (l02Plain_any x HX.out _ _ HB.out).mono ?_; rintro e w' ⟨rfl, rfl⟩; rw [H1.out])
        | (go_at_call 92; refine (l02Tree_any F HO.out _ _ _ HF.out).mono ?_; rintro e w' ⟨rfl, rfl⟩; rw [H2.out]))
      go_ret
      exact ⟨rfl, rfl⟩

set_option maxHeartbeats 2000000 in
theorem l02Ok_any (F : Fld) (hF : F.Ok) (xs : List S39) (hx : FlksOk xs) (g : Nat) (A : Option Addr) (c : Nat) (w : World) (hf : IsF w g F) (hA : Kd.C k39 w A xs.length xs) :
    Calls Try.prog 77 #[.pointer (some ⟨g, 0, none⟩), .slice A xs.length c] w fun e w' => e = .returned (.bool (F.valid && flksOn F xs)) ∧ w = w' := by
  have HF := Lib.hid hf
  have HO := Lib.hid hF
  have HX := Lib.hid hx
  have HA := Lib.hid hA
  have hlen := hA.2.1
  clear hf hF hx hA
  cases hv : F.valid
  · have HV := Lib.hid hv
    clear hv
    go_enter Try.func77, Try.ntmps77
    go_wp2_with (go_at_call 60; (with_reducible refine (l01Ok_any F HO.out _ _ HF.out).mono ?_); rintro e w1 ⟨rfl, rfl⟩; rw [HV.out])
    go_ret
    exact ⟨rfl, rfl⟩
  · have HV := Lib.hid hv
    clear hv
    go_enter Try.func77, Try.ntmps77
    go_wp2_with (go_at_call 60; (with_reducible refine (l01Ok_any F HO.out _ _ HF.out).mono ?_); rintro e w1 ⟨rfl, rfl⟩; rw [HV.out])
    go_loop [5] (fun v => ∃ i : Nat, i ≤ xs.length ∧ v = .int .i64 i ∧ Hid (∀ j, j < i → flkOn F (rd_T39 xs (j : Int)) = true)) (fun v => xs.length - (intOf v).toNat)
    case atStart => exact ⟨0, by omega, rfl, Lib.hid (fun j hj => by omega)⟩
    case round =>
      obtain ⟨i, hi, rfl, HR⟩ := hrel
      by_cases hlt : i < xs.length
      · obtain ⟨ad, hA, x0, x1, x2, x3, x4, x5⟩ := at_T39 HA.out (i : Int) (by omega) (by omega)
        subst hA
        rw [Int.toNat_natCast] at x0 x1 x2 x3 x4 x5
        have HXi := Lib.hid (HX.out i hlt)
        have HNo : Hid (flkOn F (rd_T39 xs (i : Int)) = false → flksOn F xs = false) := Lib.hid (fun h => by unfold flksOn; rw [allB_no i hlt h]; rfl)
        obtain ⟨x, hxe⟩ : ∃ x, x = rd_T39 xs (i : Int) := ⟨_, rfl⟩
        rw [← hxe] at x0 x1 x2 x3 x4 x5 HXi HNo
        have HXE := Lib.hid hxe.symm
        clear hxe
        have HB := Lib.hid (show FlkAt w (ad.add (i * 6)) x from ⟨x0, x1, x2, x3, x4, x5⟩)
        clear x0 x1 x2 x3 x4 x5
        cases hp : flkOn F x
        · have HP := Lib.hid hp
          have HN := Lib.hid (HNo.out hp)
          clear hp
          go_wp2_with (go_at_call 61; refine (l02Flock_any F HO.out x HXi.out _ _ _ HF.out HB.out).mono ?_; rintro e w' ⟨rfl, rfl⟩; rw [HP.out])
          go_ret
          exact ⟨ret_bool (by rw [HN.out]; rfl), rfl⟩
        · have HP := Lib.hid hp
          clear hp
          go_wp2_with (go_at_call 61; refine (l02Flock_any F HO.out x HXi.out _ _ _ HF.out HB.out).mono ?_; rintro e w' ⟨rfl, rfl⟩; rw [HP.out])
          go_round
          case rel => exact ⟨i + 1, by omega, by go_num, Lib.hid (fun j hj => by
            rcases Nat.lt_or_ge j i with h | h
            · exact HR.out j h
            · have e : j = i := by omega
              rw [e, HXE.out]; exact HP.out)⟩
          case measure => simp only [intOf]; omega
      · have HE : Hid (flksOn F xs = decide (xs.length ≤ 12)) := Lib.hid (by unfold flksOn; rw [allB_yes fun j hj => HR.out j (by omega)]; rfl)
        by_cases h12 : xs.length ≤ 12
        · have HN : Hid (flksOn F xs = true) := Lib.hid (by rw [HE.out, decide_eq_true h12])
          go_wp2
          go_ret
          exact ⟨ret_bool (by rw [HN.out]; simp; omega), rfl⟩
        · have HN : Hid (flksOn F xs = false) := Lib.hid (by rw [HE.out, decide_eq_false h12])
          go_wp2
          go_ret
          exact ⟨ret_bool (by rw [HN.out]; simp; omega), rfl⟩

set_option maxHeartbeats 1000000 in
theorem iValidFlocks_any (F : Fld) (hF : F.Ok) (xs : List S39) (hx : FlksOk xs) (A : Option Addr) (c : Nat) (w : World) (hA : Kd.C k39 w A xs.length xs) :
    Calls Try.prog 37 #[.agg F.vals.toArray, .slice A xs.length c] w fun e w' => e = .returned (.bool (F.valid && flksOn F xs)) ∧ Below w.heap.size w w' := by
  have HO := Lib.hid hF
  have HX := Lib.hid hx
  have HA := Lib.hid hA
  clear hF hx hA
  go_enter Try.func37, Try.ntmps37
  go_upto_region 1 with (fail)
  obtain ⟨W, hW⟩ : ∃ W, W = w.alloc (.cells F.vals.toArray 30) := ⟨_, rfl⟩
  have HC := Lib.hid (boxed1 w F.vals 30)
  rw [← hW] at HC ⊢
  clear hW
  cases hv : F.valid
  · have HV := Lib.hid hv
    clear hv
    go_wp2_with (first
      | (with_reducible refine wpList_load_blk rfl 30 (.tmp 2) rfl _ 0 rfl F.vals _ (HC.out.blk (w.heap.size, F.vals, 30) (by simp)) (by rw [List.drop_zero, List.take_length]) Try.underlying30 rfl (by rw [HO.out.len]; kernel_rfl) ?_)
      | (go_at_call 58; (with_reducible refine (validField_any F HO.out _).mono ?_); rintro e w1 ⟨rfl, hb⟩; rw [HV.out]; have HC1 := Lib.hid (HC.out.step hb); clear hb))
    go_ret
    exact ⟨ret_bool (by rw [HV.out]; rfl), HC1.out.below⟩
  · have HV := Lib.hid hv
    clear hv
    cases hn : flksOn F xs
    all_goals
      have HN := Lib.hid hn
      clear hn
      go_wp2_with (first
        | (with_reducible refine wpList_load_blk rfl 30 (.tmp 2) rfl _ 0 rfl F.vals _ (HC.out.blk (w.heap.size, F.vals, 30) (by simp)) (by rw [List.drop_zero, List.take_length]) Try.underlying30 rfl (by rw [HO.out.len]; kernel_rfl) ?_)
        | (go_at_call 58; (with_reducible refine (validField_any F HO.out _).mono ?_); rintro e w1 ⟨rfl, hb⟩; rw [HV.out]; have HC1 := Lib.hid (HC.out.step hb); clear hb)
        | (go_at_call 78; refine (areFlocks_any F HO.out xs HX.out _ A _ _ (HC1.out.blk (w.heap.size, F.vals, 30) (by simp)) (Kd.C_below HA.out HC1.out.below)).mono ?_; rintro e w2 ⟨rfl, hb⟩; rw [HN.out]; have HC2 := Lib.hid (HC1.out.step hb); clear hb))
      go_ret
      exact ⟨ret_bool (by rw [HV.out, HN.out]; rfl), HC2.out.below⟩

theorem sValidFlocks_any (F : Fld) (hF : F.Ok) (xs : List S39) (hx : FlksOk xs) (A : Option Addr) (c : Nat) (w : World) (hA : Kd.C k39 w A xs.length xs) :
    Calls Try.prog 35 #[.agg F.vals.toArray, .slice A xs.length c] w fun e w' => e = .returned (.bool (F.valid && flksOn F xs)) ∧ Below w.heap.size w w' := by
  have HO := Lib.hid hF
  have HX := Lib.hid hx
  have HA := Lib.hid hA
  clear hF hx hA
  go_enter Try.func35, Try.ntmps35
  go_upto_region 1 with (fail)
  obtain ⟨W, hW⟩ : ∃ W, W = w.alloc (.cells F.vals.toArray 30) := ⟨_, rfl⟩
  have HC := Lib.hid (boxed1 w F.vals 30)
  rw [← hW] at HC ⊢
  clear hW
  go_wp2_with (go_at_call 77; refine (l02Ok_any F HO.out xs HX.out _ A _ _ (HC.out.blk (w.heap.size, F.vals, 30) (by simp)) (Kd.C_below HA.out HC.out.below)).mono ?_; rintro e w' ⟨rfl, rfl⟩)
  go_ret
  exact ⟨rfl, HC.out.below⟩
end Go.Proofs.Ytlhiaofanejcoaa

