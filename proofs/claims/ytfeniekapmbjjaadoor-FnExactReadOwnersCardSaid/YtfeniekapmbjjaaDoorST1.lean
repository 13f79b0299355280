/- Texts of fields and owners, by the reference. No condition but those that each theorem names. -/
import Derived.Test.YtfeniekapmbjjaaDoorPAllx1
import Derived.Test.YtfeniekapmbjjaaDoorSBd
import Derived.Test.YtfeniekapmbjjaaDoorGB
namespace Go.Proofs.YtfeniekapmbjjaaDoor
open Go.RowKit Go.Proofs.YtfeniekapmbjjaaDoorW.PrintWords Go.Proofs.YtfeniekapmbjjaaDoorW.PrintLast Go.Proofs.YtfeniekapmbjjaaDoorW.PrintMore Go.Proofs.YtfeniekapmbjjaaDoor.PAll
set_option linter.unusedSimpArgs false
set_option linter.unusedVariables false

theorem dec_small (i : Int) (h : i < 10) : dec i = ⟨#[UInt8.ofNat (48 + i.toNat)]⟩ := by
  unfold dec
  rw [Lib.decDigits, dif_pos (by omega)]
theorem dec_big (i : Int) (h : ¬ i < 10) : dec i = dec (i / 10) ++ ⟨#[UInt8.ofNat (48 + (i % 10).toNat)]⟩ := by
  refine ba_eq ?_
  unfold dec
  rw [Lib.decDigits, dif_neg (by omega)]
  have e1 : i.toNat / 10 = (i / 10).toNat := by omega
  have e2 : i.toNat % 10 = (i % 10).toNat := by omega
  rw [e1, e2]
  simp
theorem nums_one (n : Int) (h0 : 0 ≤ n) (h1 : n < 10) : strOfNums [(wrap64 (48 + n)) % 256] = ⟨#[UInt8.ofNat (48 + n.toNat)]⟩ := by
  have e : (wrap64 (48 + n)) % 256 = 48 + n := by unfold wrap64; omega
  rw [e]
  refine ba_eq ?_
  unfold strOfNums
  have e2 : (48 + n).toNat = 48 + n.toNat := by omega
  simp [e2]
theorem Decimal_ev : ∀ (d : Nat) (i : Int), 0 ≤ i → i ≤ 9999 → i < 10 ^ (d + 1) → Ev (fun k => spec_Decimal.f k i) (dec i)
  | d, i, h0, h1, hd => by
    by_cases h : i < 10
    · refine Ev.step (f := fun _ => some (dec i)) (fun k => ?_) (Ev.now _)
      simp only [spec_Decimal.f]
      rw [if_pos h, Int.tmod_eq_emod_of_nonneg h0, Int.emod_eq_of_lt h0 h, nums_one i h0 h, dec_small i h]
    · match d, hd with
      | 0, hd => exact absurd hd h
      | d + 1, hd =>
        have e1 : wrap64 (Int.tdiv i 10) = i / 10 := by rw [Int.tdiv_eq_ediv_of_nonneg h0]; unfold wrap64; omega
        have e2 : Int.tmod i 10 = i % 10 := Int.tmod_eq_emod_of_nonneg h0
        have hs := dec_four (i / 10) (by omega)
        have hp : i / 10 < 10 ^ (d + 1) := by
          rw [Int.pow_succ] at hd
          omega
        refine Ev.step (f := fun k => (spec_Decimal.f k (i / 10)).bind fun t104 => if t104.size + 1 ≤ 9223372036854775807 then some (t104 ++ ⟨#[UInt8.ofNat (48 + (i % 10).toNat)]⟩) else none) (fun k => ?_) (Ev.bind (Decimal_ev d (i / 10) (by omega) (by omega) hp) ⟨0, fun k _ => ?_⟩)
        · simp only [spec_Decimal.f]
          rw [if_neg h, e1, e2]
          simp only [Option.bind_some]
          rw [nums_one (i % 10) (by omega) (by omega)]
          rfl
        · rw [if_pos (by omega), ← dec_big i h]
theorem Decimal_any (i : Int) (h0 : 0 ≤ i) (h1 : i ≤ 1000) (w : World) : Calls Tryd.prog 35 #[.int .i64 i] w fun e w' => e = .returned (.string (dec i)) ∧ Below w.heap.size w w' := by
  obtain ⟨k, hk⟩ := Decimal_ev 3 i h0 (by omega) (Int.lt_of_le_of_lt h1 (by decide))
  exact spec_Decimal.calls k i (dec i) w (hk k (Nat.le_refl _))

/-- A cell's word. -/
def Fld.word (F : Fld) (i : Nat) : ByteArray := if F.kind i = 0 then dec (F.seed i) else if F.kind i = 1 then ⟨#[104]⟩ else if F.kind i = 2 then ⟨#[112]⟩ else ⟨#[116]⟩
theorem Fld.word_size (F : Fld) (h : ∀ i, F.seed i ≤ 9999) (i : Nat) : (F.word i).size ≤ 4 := by
  unfold Fld.word
  split
  · exact dec_four _ (h i)
  · split
    · decide
    · split <;> decide
def fldText (F : Fld) : ByteArray := gridB F.word F.wide.toNat F.high.toNat
theorem add_str {a b : ByteArray} (h : a.size + b.size ≤ 9223372036854775807) : (a.size + b.size ≤ 9223372036854775807) = True := eq_true h
theorem wrap_few {z : Int} (h0 : 0 ≤ z) (h1 : z ≤ 1000) : wrap64 z = z := by unfold wrap64; omega
theorem str_fits {p t : ByteArray} (hp : p.size ≤ 560) (ht : t.size ≤ 4) : p.size + 1 + t.size ≤ 9223372036854775807 ∧ p.size + t.size ≤ 9223372036854775807 := by omega
theorem str_fits2 {p : ByteArray} (hp : p.size ≤ 560) : p.size + 1 + 1 ≤ 9223372036854775807 ∧ p.size + 1 ≤ 9223372036854775807 := by omega
theorem kind_four {z : Int} (h0 : 0 ≤ z) (h3 : z ≤ 3) : z = 0 ∨ z = 1 ∨ z = 2 ∨ z = 3 := by omega
theorem side_lt {y H : Nat} (h : y < H) (hH : H ≤ 10) : decide ((y : Int) < wrap64 (H : Int)) = true := decide_eq_true (by unfold wrap64; omega)
theorem side_end {H : Nat} (hH : H ≤ 10) : decide ((H : Int) < wrap64 (H : Int)) = false := decide_eq_false (by unfold wrap64; omega)
theorem grid_idx {x y : Nat} (hx : x ≤ 100) (hy : y ≤ 100) : wrap64 ((x : Int) + wrap64 (10 * (y : Int))) = ((x + 10 * y : Nat) : Int) := by unfold wrap64; omega
/-- The words of the kinds. -/
def kindWords : List Value := [.string ⟨#[]⟩, .string ⟨#[104]⟩, .string ⟨#[112]⟩, .string ⟨#[116]⟩]
set_option maxHeartbeats 4000000 in
theorem l01Text_any (F : Fld) (ho : F.Ok) (hv : F.Valid) (b : Nat) (w : World) (hf : IsF w b F) :
    Calls Tryd.prog 36 #[.pointer (some ⟨b, 0, none⟩)] w fun e w' => e = .returned (.string (fldText F)) ∧ Below w.heap.size w w' := by
  have HF := Lib.hid hf
  have HO := Lib.hid ho
  have hfl := hf.lt
  obtain ⟨W, hW⟩ : ∃ W : Nat, F.wide = (W : Int) := ⟨F.wide.toNat, by have := inB_iff.1 hv.w; omega⟩
  obtain ⟨H, hH⟩ : ∃ H : Nat, F.high = (H : Int) := ⟨F.high.toNat, by have := inB_iff.1 hv.h; omega⟩
  have hW1 : 1 ≤ W ∧ W ≤ 10 := by have := inB_iff.1 hv.w; omega
  have hH1 : 1 ≤ H ∧ H ≤ 10 := by have := inB_iff.1 hv.h; omega
  have et : fldText F = gridB F.word W H := by unfold fldText; rw [hW, hH]; simp
  have hws : ∀ i, (F.word i).size ≤ 4 := F.word_size (fun i => by
    rcases Nat.lt_or_ge i 100 with h | h
    · have := (hv.c i h).s1; omega
    · unfold Fld.seed; rw [List.getD_eq_getElem?_getD, List.getElem?_eq_none (by rw [ho.sl]; exact h)]; decide)
  have HC := Lib.hid hv.c
  have HW := Lib.hid hW1
  have HH := Lib.hid hH1
  have HS := Lib.hid hws
  have c0 := hf.c0
  have c1 := hf.c1
  rw [hW] at c0
  rw [hH] at c1
  rw [et]
  clear hf ho hv hW hH hW1 hH1 et hws
  go_enter Tryd.func36, Tryd.ntmps36
  go_wp2
  go_loopw [3, 5] (fun u v wr => ∃ y : Nat, y ≤ H ∧ u = .string (gridB F.word W y) ∧ v = .int .i64 y ∧ Hid (Blk wr w.heap.size kindWords 9) ∧ Hid (Below w.heap.size w wr)) (fun _ v _ => H - (intOf v).toNat)
  case atStart => exact ⟨0, by omega, rfl, rfl, Lib.hid (Blk.new' w kindWords 9), Lib.hid ((Below.refl _ _).alloc (Nat.le_refl _) _)⟩
  case round =>
    obtain ⟨y, hy, rfl, rfl, HK, HB⟩ := hrel
    have d1 := pw_cell_below HB.out c1
    by_cases hlt : y < H
    · have tH := side_lt hlt HH.out.2
      go_wp2
      go_loopw [3, 6] (fun u v wr => ∃ x : Nat, x ≤ W ∧ u = .string (partB F.word W y x) ∧ v = .int .i64 x ∧ Hid (Blk wr w.heap.size kindWords 9) ∧ Hid (Below w.heap.size w wr)) (fun _ v _ => W - (intOf v).toNat)
      case atStart => exact ⟨0, by omega, by rw [partB_zero], rfl, HK, HB⟩
      case round =>
        obtain ⟨x, hx, rfl, rfl, HK2, HB2⟩ := hrel
        have d0 := pw_cell_below HB2.out c0
        have hW := HW.out
        have hH := HH.out
        have hp : (partB F.word W y x).size ≤ 560 := partB_small HS.out (by omega) (by omega) (by omega)
        by_cases hxl : x < W
        · have tW := side_lt hxl HW.out.2
          have hk100 : x + 10 * y < 100 := by omega
          have hF := HF.out.below' HB2.out
          have ck := hF.ck HO.out hk100
          have cs := hF.cs HO.out hk100
          have HZ := Lib.hid (HS.out (x + 10 * y))
          have hkk : F.kind (x + 10 * y) = 0 ∨ F.kind (x + 10 * y) = 1 ∨ F.kind (x + 10 * y) = 2 ∨ F.kind (x + 10 * y) = 3 := kind_four (HC.out _ hk100).k0 (HC.out _ hk100).k3
          clear hF
          by_cases hx0 : x = 0
          · have HN : Hid (partB F.word W y (x + 1) = partB F.word W y x ++ F.word (x + 10 * y)) := Lib.hid (by rw [hx0]; exact partB_one F.word W y)
            have dx : decide ((0 : Int) < (x : Int)) = false := by rw [hx0]; rfl
            have dx1 : (0 < x) = False := eq_false (by rw [hx0]; decide)
            have dx2 : decide (0 < x) = false := decide_eq_false (by rw [hx0]; decide)
            clear hx0
            generalize partB F.word W y x = p at *
            rcases hkk with h | h | h | h
            · rw [h] at ck
              have hwd : F.word (x + 10 * y) = dec (F.seed (x + 10 * y)) := by unfold Fld.word; rw [h]; rfl
              rw [hwd] at HN HZ
              have hcc := (HC.out _ hk100)
              have s0 := hcc.s0
              have s1 := hcc.s1
              have ew : wrap64 (F.seed (x + 10 * y)) = F.seed (x + 10 * y) := wrap_few s0 s1
              have HQ := Lib.hid (fun w1 => Decimal_any (F.seed (x + 10 * y)) s0 s1 w1)
              have hz1 := HZ.out
              have f3 : (p.size + 1 + (dec (F.seed (x + 10 * y))).size ≤ 9223372036854775807) = True := eq_true (str_fits (by exact hp) hz1).1
              have f4 : (p.size + (dec (F.seed (x + 10 * y))).size ≤ 9223372036854775807) = True := eq_true (str_fits (by exact hp) hz1).2
              have f5 : (9223372036854775807 < p.size + 1 + (dec (F.seed (x + 10 * y))).size) = False := eq_false (Nat.not_lt.2 (str_fits (by exact hp) hz1).1)
              have f6 : (9223372036854775807 < p.size + (dec (F.seed (x + 10 * y))).size) = False := eq_false (Nat.not_lt.2 (str_fits (by exact hp) hz1).2)
              clear hcc s0 s1 hwd h
              go_wp2_with (go_at_call 35; refine (HQ.out _).mono ?_; rintro e w5 ⟨rfl, hb⟩; have HB3 := Lib.hid (HB2.out.trans (hb.mono HB2.out.size)); have HK3 := Lib.hid (HK2.out.below hb HK2.out.lt); clear hb)
              go_roundw
              case rel => exact ⟨x + 1, hxl, by first | (rw [HN.out]; done) | (rw [HN.out]; rfl), by go_num, HK3, HB3⟩
              case measure => simp only [intOf]; omega
            · rw [h] at ck
              have hwd : F.word (x + 10 * y) = ⟨#[104]⟩ := by unfold Fld.word; rw [h]; rfl
              rw [hwd] at HN HZ
              have cw := HK2.out.cell (i := 1) (v := .string ⟨#[104]⟩) rfl
              have f3 : (p.size + 1 + 1 ≤ 9223372036854775807) = True := eq_true (str_fits2 (by exact hp)).1
              have f4 : (p.size + 1 ≤ 9223372036854775807) = True := eq_true (str_fits2 (by exact hp)).2
              clear hwd h
              go_wp2
              go_roundw
              case rel => exact ⟨x + 1, hxl, by first | (rw [HN.out]; done) | (rw [HN.out]; rfl), by go_num, HK2, HB2⟩
              case measure => simp only [intOf]; omega
            · rw [h] at ck
              have hwd : F.word (x + 10 * y) = ⟨#[112]⟩ := by unfold Fld.word; rw [h]; rfl
              rw [hwd] at HN HZ
              have cw := HK2.out.cell (i := 2) (v := .string ⟨#[112]⟩) rfl
              have f3 : (p.size + 1 + 1 ≤ 9223372036854775807) = True := eq_true (str_fits2 (by exact hp)).1
              have f4 : (p.size + 1 ≤ 9223372036854775807) = True := eq_true (str_fits2 (by exact hp)).2
              clear hwd h
              go_wp2
              go_roundw
              case rel => exact ⟨x + 1, hxl, by first | (rw [HN.out]; done) | (rw [HN.out]; rfl), by go_num, HK2, HB2⟩
              case measure => simp only [intOf]; omega
            · rw [h] at ck
              have hwd : F.word (x + 10 * y) = ⟨#[116]⟩ := by unfold Fld.word; rw [h]; rfl
              rw [hwd] at HN HZ
              have cw := HK2.out.cell (i := 3) (v := .string ⟨#[116]⟩) rfl
              have f3 : (p.size + 1 + 1 ≤ 9223372036854775807) = True := eq_true (str_fits2 (by exact hp)).1
              have f4 : (p.size + 1 ≤ 9223372036854775807) = True := eq_true (str_fits2 (by exact hp)).2
              clear hwd h
              go_wp2
              go_roundw
              case rel => exact ⟨x + 1, hxl, by first | (rw [HN.out]; done) | (rw [HN.out]; rfl), by go_num, HK2, HB2⟩
              case measure => simp only [intOf]; omega
          · have HN := Lib.hid (partB_succ F.word W y (x := x) (Nat.pos_of_ne_zero hx0))
            have dx : decide ((0 : Int) < (x : Int)) = true := decide_eq_true (Int.natCast_pos.2 (Nat.pos_of_ne_zero hx0))
            have dx2 : 0 < x := Nat.pos_of_ne_zero hx0
            clear hx0
            generalize partB F.word W y x = p at *
            rcases hkk with h | h | h | h
            · rw [h] at ck
              have hwd : F.word (x + 10 * y) = dec (F.seed (x + 10 * y)) := by unfold Fld.word; rw [h]; rfl
              rw [hwd] at HN HZ
              have hcc := (HC.out _ hk100)
              have s0 := hcc.s0
              have s1 := hcc.s1
              have ew : wrap64 (F.seed (x + 10 * y)) = F.seed (x + 10 * y) := wrap_few s0 s1
              have HQ := Lib.hid (fun w1 => Decimal_any (F.seed (x + 10 * y)) s0 s1 w1)
              have hz1 := HZ.out
              have f3 : (p.size + 1 + (dec (F.seed (x + 10 * y))).size ≤ 9223372036854775807) = True := eq_true (str_fits (by exact hp) hz1).1
              have f4 : (p.size + (dec (F.seed (x + 10 * y))).size ≤ 9223372036854775807) = True := eq_true (str_fits (by exact hp) hz1).2
              have f5 : (9223372036854775807 < p.size + 1 + (dec (F.seed (x + 10 * y))).size) = False := eq_false (Nat.not_lt.2 (str_fits (by exact hp) hz1).1)
              have f6 : (9223372036854775807 < p.size + (dec (F.seed (x + 10 * y))).size) = False := eq_false (Nat.not_lt.2 (str_fits (by exact hp) hz1).2)
              clear hcc s0 s1 hwd h
              go_wp2_with (go_at_call 35; refine (HQ.out _).mono ?_; rintro e w5 ⟨rfl, hb⟩; have HB3 := Lib.hid (HB2.out.trans (hb.mono HB2.out.size)); have HK3 := Lib.hid (HK2.out.below hb HK2.out.lt); clear hb)
              go_roundw
              case rel => exact ⟨x + 1, hxl, by first | (rw [HN.out]; done) | (rw [HN.out]; rfl), by go_num, HK3, HB3⟩
              case measure => simp only [intOf]; omega
            · rw [h] at ck
              have hwd : F.word (x + 10 * y) = ⟨#[104]⟩ := by unfold Fld.word; rw [h]; rfl
              rw [hwd] at HN HZ
              have cw := HK2.out.cell (i := 1) (v := .string ⟨#[104]⟩) rfl
              have f3 : (p.size + 1 + 1 ≤ 9223372036854775807) = True := eq_true (str_fits2 (by exact hp)).1
              have f4 : (p.size + 1 ≤ 9223372036854775807) = True := eq_true (str_fits2 (by exact hp)).2
              clear hwd h
              go_wp2
              go_roundw
              case rel => exact ⟨x + 1, hxl, by first | (rw [HN.out]; done) | (rw [HN.out]; rfl), by go_num, HK2, HB2⟩
              case measure => simp only [intOf]; omega
            · rw [h] at ck
              have hwd : F.word (x + 10 * y) = ⟨#[112]⟩ := by unfold Fld.word; rw [h]; rfl
              rw [hwd] at HN HZ
              have cw := HK2.out.cell (i := 2) (v := .string ⟨#[112]⟩) rfl
              have f3 : (p.size + 1 + 1 ≤ 9223372036854775807) = True := eq_true (str_fits2 (by exact hp)).1
              have f4 : (p.size + 1 ≤ 9223372036854775807) = True := eq_true (str_fits2 (by exact hp)).2
              clear hwd h
              go_wp2
              go_roundw
              case rel => exact ⟨x + 1, hxl, by first | (rw [HN.out]; done) | (rw [HN.out]; rfl), by go_num, HK2, HB2⟩
              case measure => simp only [intOf]; omega
            · rw [h] at ck
              have hwd : F.word (x + 10 * y) = ⟨#[116]⟩ := by unfold Fld.word; rw [h]; rfl
              rw [hwd] at HN HZ
              have cw := HK2.out.cell (i := 3) (v := .string ⟨#[116]⟩) rfl
              have f3 : (p.size + 1 + 1 ≤ 9223372036854775807) = True := eq_true (str_fits2 (by exact hp)).1
              have f4 : (p.size + 1 ≤ 9223372036854775807) = True := eq_true (str_fits2 (by exact hp)).2
              clear hwd h
              go_wp2
              go_roundw
              case rel => exact ⟨x + 1, hxl, by first | (rw [HN.out]; done) | (rw [HN.out]; rfl), by go_num, HK2, HB2⟩
              case measure => simp only [intOf]; omega
        · obtain rfl : x = W := by omega
          have tW := side_end HW.out.2
          have HN := Lib.hid (partB_full F.word x y)
          generalize partB F.word x y x = p at *
          have f2 : (p.size + 1 ≤ 9223372036854775807) = True := eq_true (str_fits2 hp).2
          go_wp2
          go_roundw
          case rel => exact ⟨y + 1, by omega, by rw [← HN.out]; rfl, by go_num, HK2, HB2⟩
          case measure => simp only [intOf]; omega
    · obtain rfl : y = H := by omega
      have tH := side_end HH.out.2
      go_wp2
      go_ret
      exact ⟨rfl, HB.out⟩
/-- An owner's word. -/
def ownW (os : List Int) (i : Nat) : ByteArray := dec (nth os i)
structure OwnOk (F : Fld) (os : List Int) : Prop where
  b : ∀ x y : Nat, (x : Int) < F.wide → (y : Int) < F.high → 0 ≤ nth os (x + 10 * y) ∧ nth os (x + 10 * y) ≤ 9
def ownText (F : Fld) (os : List Int) : ByteArray := gridB (ownW os) F.wide.toNat F.high.toNat
def ownersText (F : Fld) (os : List Int) : ByteArray := (ownText F os ++ lineB) ++ fldText F
theorem ownW_size {os : List Int} (h : OsOk os) (i : Nat) : (ownW os i).size ≤ 4 := by
  refine dec_four _ ?_
  unfold nth
  rcases Nat.lt_or_ge i os.length with hi | hi
  · rw [List.getD_eq_getElem?_getD, List.getElem?_eq_getElem hi]
    have := h.b _ (List.getElem_mem hi)
    show os[i] ≤ 9999
    omega
  · rw [List.getD_eq_getElem?_getD, List.getElem?_eq_none hi]; decide
theorem wrap_nine {z : Int} (h0 : 0 ≤ z) (h1 : z ≤ 9) : wrap64 z = z := by unfold wrap64; omega
theorem le_thousand {z : Int} (h1 : z ≤ 9) : z ≤ 1000 := by omega
theorem gf_size (F : Fld) (ho : F.Ok) (hv : F.Valid) (i : Nat) : (F.word i).size ≤ 4 := F.word_size (fun i => by
    rcases Nat.lt_or_ge i 100 with h | h
    · have := (hv.c i h).s1; omega
    · unfold Fld.seed; rw [List.getD_eq_getElem?_getD, List.getElem?_eq_none (by rw [ho.sl]; exact h)]; decide) i
theorem sides {F : Fld} (hv : F.Valid) : ∃ W H : Nat, F.wide = (W : Int) ∧ F.high = (H : Int) ∧ (1 ≤ W ∧ W ≤ 10) ∧ (1 ≤ H ∧ H ≤ 10) := by
  have h1 := inB_iff.1 hv.w
  have h2 := inB_iff.1 hv.h
  exact ⟨F.wide.toNat, F.high.toNat, by omega, by omega, by omega, by omega⟩
theorem fldText_size (F : Fld) (ho : F.Ok) (hv : F.Valid) : (fldText F).size ≤ 510 := by
  obtain ⟨W, H, hW, hH, hW1, hH1⟩ := sides hv
  unfold fldText
  rw [hW, hH]
  exact gridB_small (gf_size F ho hv) (by simp; omega) (by simp; omega)
theorem str_fits3 {p q : ByteArray} (hp : p.size ≤ 560) (hq : q.size ≤ 560) : p.size + 1 + q.size ≤ 9223372036854775807 ∧ p.size + 1 ≤ 9223372036854775807 := by omega
set_option maxHeartbeats 4000000 in
theorem l06Text_any (F : Fld) (ho : F.Ok) (hv : F.Valid) (os : List Int) (hs : OsOk os) (hoo : OwnOk F os) (b c : Nat) (w : World) (hf : IsF w b F) (hc : Blk w c (vrow .i8 os) 32) :
    Calls Tryd.prog 14 #[.pointer (some ⟨b, 0, none⟩), .pointer (some ⟨c, 0, none⟩)] w fun e w' => e = .returned (.string (ownersText F os)) ∧ Below w.heap.size w w' := by
  have HF := Lib.hid hf
  have HO := Lib.hid ho
  have HC := Lib.hid hc
  have hfl := hf.lt
  have hcl := hc.lt
  obtain ⟨W, H, hW, hH, hW1, hH1⟩ := sides hv
  have et : ownersText F os = (gridB (ownW os) W H ++ lineB) ++ fldText F := by unfold ownersText ownText; rw [hW, hH]; simp
  have HW := Lib.hid hW1
  have HH := Lib.hid hH1
  have HS := Lib.hid (ownW_size hs)
  have HL := Lib.hid hs.len
  have HOO : Hid (∀ x y : Nat, x < W → y < H → 0 ≤ nth os (x + 10 * y) ∧ nth os (x + 10 * y) ≤ 9) := Lib.hid (fun x y h1 h2 => hoo.b x y (by rw [hW]; exact Int.ofNat_lt.2 h1) (by rw [hH]; exact Int.ofNat_lt.2 h2))
  have HT := Lib.hid (fun w1 (h : IsF w1 b F) => l01Text_any F ho hv b w1 h)
  have HZ2 := Lib.hid (fldText_size F ho hv)
  have c0 := hf.c0
  have c1 := hf.c1
  rw [hW] at c0
  rw [hH] at c1
  rw [et]
  generalize fldText F = ft at *
  clear hf ho hv hW hH hW1 hH1 et hs hoo hc
  go_enter Tryd.func14, Tryd.ntmps14
  go_wp2
  go_loopw [5, 6] (fun u v wr => ∃ y : Nat, y ≤ H ∧ u = .string (gridB (ownW os) W y) ∧ v = .int .i64 y ∧ Hid (Below w.heap.size w wr)) (fun _ v _ => H - (intOf v).toNat)
  case atStart => exact ⟨0, by omega, rfl, rfl, Lib.hid (Below.refl _ _)⟩
  case round =>
    obtain ⟨y, hy, rfl, rfl, HB⟩ := hrel
    have d1 := pw_cell_below HB.out c1
    by_cases hlt : y < H
    · have tH := side_lt hlt HH.out.2
      go_wp2
      go_loopw [5, 7] (fun u v wr => ∃ x : Nat, x ≤ W ∧ u = .string (partB (ownW os) W y x) ∧ v = .int .i64 x ∧ Hid (Below w.heap.size w wr)) (fun _ v _ => W - (intOf v).toNat)
      case atStart => exact ⟨0, by omega, by rw [partB_zero], rfl, HB⟩
      case round =>
        obtain ⟨x, hx, rfl, rfl, HB2⟩ := hrel
        have d0 := pw_cell_below HB2.out c0
        have hW := HW.out
        have hH := HH.out
        have hp : (partB (ownW os) W y x).size ≤ 560 := partB_small HS.out (by omega) (by omega) (by omega)
        by_cases hxl : x < W
        · have tW := side_lt hxl HW.out.2
          have hk100 : x + 10 * y < 100 := by omega
          have ck := (HC.out.below HB2.out hcl).cell (vrow_get (k := .i8) (zs := os) (i := x + 10 * y) (by rw [HL.out]; exact hk100))
          have hz1 := HS.out (x + 10 * y)
          have hb9 := HOO.out x y hxl hlt
          have ew := wrap_nine hb9.1 hb9.2
          have HQ := Lib.hid (fun w1 => Decimal_any (nth os (x + 10 * y)) hb9.1 (le_thousand hb9.2) w1)
          have f3 : (((partB (ownW os) W y x)).size + 1 + (dec (nth os (x + 10 * y))).size ≤ 9223372036854775807) = True := eq_true (str_fits hp hz1).1
          have f4 : (((partB (ownW os) W y x)).size + (dec (nth os (x + 10 * y))).size ≤ 9223372036854775807) = True := eq_true (str_fits hp hz1).2
          have f5 : (9223372036854775807 < ((partB (ownW os) W y x)).size + 1 + (dec (nth os (x + 10 * y))).size) = False := eq_false (Nat.not_lt.2 (str_fits hp hz1).1)
          have f6 : (9223372036854775807 < ((partB (ownW os) W y x)).size + (dec (nth os (x + 10 * y))).size) = False := eq_false (Nat.not_lt.2 (str_fits hp hz1).2)
          have f7 : (((partB (ownW os) W y x)).size + 1 ≤ 9223372036854775807) = True := eq_true (str_fits2 hp).2
          clear hb9
          by_cases hx0 : x = 0
          · have HN : Hid (partB (ownW os) W y (x + 1) = partB (ownW os) W y x ++ dec (nth os (x + 10 * y))) := Lib.hid (by rw [hx0]; exact partB_one (ownW os) W y)
            have dx : decide ((0 : Int) < (x : Int)) = false := by rw [hx0]; rfl
            have dx1 : (0 < x) = False := eq_false (by rw [hx0]; decide)
            have dx2 : decide (0 < x) = false := decide_eq_false (by rw [hx0]; decide)
            clear hx0
            generalize partB (ownW os) W y x = p at *
            go_wp2_with (go_at_call 35; refine (HQ.out _).mono ?_; rintro e w5 ⟨rfl, hb⟩; have HB3 := Lib.hid (HB2.out.trans (hb.mono HB2.out.size)); clear hb)
            go_roundw
            case rel => exact ⟨x + 1, hxl, by first | (rw [HN.out]; done) | (rw [HN.out]; rfl), by go_num, HB3⟩
            case measure => simp only [intOf]; omega
          · have HN : Hid (partB (ownW os) W y (x + 1) = (partB (ownW os) W y x ++ blankB) ++ dec (nth os (x + 10 * y))) := Lib.hid (partB_succ (ownW os) W y (x := x) (Nat.pos_of_ne_zero hx0))
            have dx : decide ((0 : Int) < (x : Int)) = true := decide_eq_true (Int.natCast_pos.2 (Nat.pos_of_ne_zero hx0))
            have dx2 : 0 < x := Nat.pos_of_ne_zero hx0
            clear hx0
            generalize partB (ownW os) W y x = p at *
            go_wp2_with (go_at_call 35; refine (HQ.out _).mono ?_; rintro e w5 ⟨rfl, hb⟩; have HB3 := Lib.hid (HB2.out.trans (hb.mono HB2.out.size)); clear hb)
            go_roundw
            case rel => exact ⟨x + 1, hxl, by first | (rw [HN.out]; done) | (rw [HN.out]; rfl), by go_num, HB3⟩
            case measure => simp only [intOf]; omega
        · obtain rfl : x = W := by omega
          have tW := side_end HW.out.2
          have HN := Lib.hid (partB_full (ownW os) x y)
          generalize partB (ownW os) x y x = p at *
          have f2 : (p.size + 1 ≤ 9223372036854775807) = True := eq_true (str_fits2 hp).2
          go_wp2
          go_roundw
          case rel => exact ⟨y + 1, by omega, by rw [← HN.out]; rfl, by go_num, HB2⟩
          case measure => simp only [intOf]; omega
    · obtain rfl : y = H := by omega
      have tH := side_end HH.out.2
      have hg : (gridB (ownW os) W y).size ≤ 560 := Nat.le_trans (gridB_small HS.out HW.out.2 HH.out.2) (by decide)
      have hz2 := HZ2.out
      have g1 := str_fits3 (p := gridB (ownW os) W y) (q := ft) hg (Nat.le_trans hz2 (by decide))
      have f2 : ((gridB (ownW os) W y).size + 1 ≤ 9223372036854775807) = True := eq_true g1.2
      have f3 : ((gridB (ownW os) W y).size + 1 + ft.size ≤ 9223372036854775807) = True := eq_true g1.1
      have f5 : (9223372036854775807 < (gridB (ownW os) W y).size + 1 + ft.size) = False := eq_false (Nat.not_lt.2 g1.1)
      clear g1
      go_wp2_with (go_at_call 36; refine (HT.out _ (HF.out.below' HB.out)).mono ?_; rintro e w5 ⟨rfl, hb⟩; have HB3 := Lib.hid (HB.out.trans (hb.mono HB.out.size)); clear hb)
      go_ret
      exact ⟨rfl, HB3.out⟩
theorem own_all {F : Fld} {os : List Int} (h : ownAll F os = true) {i : Nat} (hi : i < 100) : ownB (F.has (i : Int)) (nth os i) = true := by
  unfold ownAll allB at h
  exact List.all_eq_true.1 h i (List.mem_range.2 hi)
theorem has_in {F : Fld} {W H x y : Nat} (hW : F.wide = (W : Int)) (hH : F.high = (H : Int)) (h1 : W ≤ 10) (h2 : H ≤ 10) (hx : x < W) (hy : y < H) : F.has ((x + 10 * y : Nat) : Int) = true := by
  unfold Fld.has inB
  rw [hW, hH]
  have e1 : ((x + 10 * y : Nat) : Int) % 10 = x := by omega
  have e2 : ((x + 10 * y : Nat) : Int) / 10 = y := by omega
  rw [e1, e2, decide_eq_true (by omega), decide_eq_true (by omega), decide_eq_true (by omega), decide_eq_true (by omega)]
  rfl
/-- Two arguments of a field and owners, by the reference. -/
theorem sOwnersText_any (F : Fld) (ho : F.Ok) (os : List Int) (hs : OsOk os) (w : World) :
    Calls Tryd.prog 5 #[.agg F.vals.toArray, .agg (vrow .i8 os).toArray] w fun e w' => e = .returned (.string (if (F.valid && ownAll F os) = true then ownersText F os else emptyB)) ∧ Below w.heap.size w w' := by
  have HO := Lib.hid ho
  have HS := Lib.hid hs
  cases hv : (F.valid && ownAll F os) with
  | false =>
    have HV := Lib.hid hv
    clear hv ho hs
    go_enter Tryd.func5, Tryd.ntmps5
    have HC := Lib.hid (boxed2 w F.vals (vrow .i8 os) 30 32)
    go_wp2_with (go_at_call 13; refine (l06Owners_any F HO.out os HS.out _ _ _ (HC.out.blk (w.heap.size, F.vals, 30) (by simp)) (HC.out.blk (w.heap.size + 1, vrow .i8 os, 32) (by simp))).mono ?_; rintro e w' ⟨rfl, rfl⟩; rw [HV.out])
    go_ret
    exact ⟨rfl, HC.out.below⟩
  | true =>
    have hv2 : F.valid = true ∧ ownAll F os = true := by simpa using hv
    have HVa := Lib.hid (Fld.valid_iff.1 hv2.1)
    have hoo : OwnOk F os := ⟨fun x y hx hy => by
      have hva := Fld.valid_iff.1 hv2.1
      obtain ⟨W, H, hW, hH, hW1, hH1⟩ := sides hva
      rw [hW] at hx
      rw [hH] at hy
      have hk : x + 10 * y < 100 := by omega
      have hall := own_all hv2.2 hk
      have hhas := has_in hW hH hW1.2 hH1.2 (x := x) (y := y) (by omega) (by omega)
      unfold ownB at hall
      rw [hhas] at hall
      have : inB (nth os (x + 10 * y)) 0 9 = true := by simpa using hall
      exact inB_iff.1 this⟩
    have HOO := Lib.hid hoo
    have HV := Lib.hid hv
    clear hv ho hs hv2 hoo
    go_enter Tryd.func5, Tryd.ntmps5
    have HC := Lib.hid (boxed2 w F.vals (vrow .i8 os) 30 32)
    go_wp2_with (first
      | (go_at_call 13; refine (l06Owners_any F HO.out os HS.out _ _ _ (HC.out.blk (w.heap.size, F.vals, 30) (by simp)) (HC.out.blk (w.heap.size + 1, vrow .i8 os, 32) (by simp))).mono ?_; rintro e w' ⟨rfl, rfl⟩; rw [HV.out])
      | (go_at_call 14; refine (l06Text_any F HO.out HVa.out os HS.out HOO.out _ _ _ (HC.out.blk (w.heap.size, F.vals, 30) (by simp)) (HC.out.blk (w.heap.size + 1, vrow .i8 os, 32) (by simp))).mono ?_; rintro e w' ⟨rfl, hb⟩; have HB := Lib.hid (HC.out.step hb); clear hb))
    go_ret
    exact ⟨rfl, HB.out.below⟩
end Go.Proofs.YtfeniekapmbjjaaDoor
