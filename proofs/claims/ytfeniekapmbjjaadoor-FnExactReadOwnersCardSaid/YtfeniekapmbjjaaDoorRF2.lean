/- Fields read, by the reference. No condition but those that each theorem names. -/
import Derived.Test.YtfeniekapmbjjaaDoorRF1
namespace Go.Proofs.YtfeniekapmbjjaaDoor
open Go.RowKit Go.Proofs.YtfeniekapmbjjaaDoorW.PrintWords Go.Proofs.YtfeniekapmbjjaaDoorW.PrintLast Go.Proofs.YtfeniekapmbjjaaDoorW.PrintMore Go.Proofs.YtfeniekapmbjjaaDoor.PAll
set_option linter.unusedSimpArgs false
set_option linter.unusedVariables false

def readOut : Option Fld → Value
  | some F => .tuple #[.agg F.vals.toArray, .int .i64 0]
  | none => .tuple #[.agg zfld.vals.toArray, .int .i64 5]
theorem zero_field (w : World) : (zeroValue 30).run Tryd.prog w = .ok (.agg zfld.vals.toArray) w := (zero_of_info (by kernel_rfl : (Tryd.prog.info? 30).map (fun i => (i.zero, i.size)) = some (some (.agg zfld.vals.toArray), 202))).1 w
theorem run_storeCells_blk {P : Program} {w : World} {g : Nat} {cs vs : List Value} {T : TypeId} (hB : Blk w g cs T) (hl : vs.length = cs.length) (h1 : ∀ v ∈ vs, v.oneCell' = true) :
    Sem.run P (storeCells ⟨g, 0, none⟩ vs) w = .ok () (w.setRow g vs.toArray) := by
  have := run_storeCells_at (P := P) g 0 T vs 0 cs.toArray w hB (show 0 + 0 + vs.length ≤ cs.toArray.size by rw [List.size_toArray]; omega) h1
  rw [this]
  have e : List.drop (0 + 0 + vs.length) cs.toArray.toList = [] := List.drop_eq_nil_iff.2 (show cs.length ≤ 0 + 0 + vs.length by omega)
  rw [e, List.append_nil]
  rfl

set_option maxHeartbeats 1000000 in
theorem empty_of {a : ByteArray} (h : a.toList.isEmpty = true) : a = emptyB := by
  have h1 : a.toList = [] := List.isEmpty_iff.1 h
  have h2 : (a == emptyB) = true := by
    rw [beq_toListBytes, h1]
    have : (emptyB).toList = [] := list_nil
    rw [this]
    rfl
  exact ba_beq h2
theorem word_eq {s : ByteArray} {b : UInt8} (h : s = ⟨#[b]⟩) : (s.toList == [b]) = true := by rw [h, ByteArray.toList_eq]; simp
theorem word_ne {s : ByteArray} {b : UInt8} (h : s ≠ ⟨#[b]⟩) : (s.toList == [b]) = false := by
  cases hq : (s.toList == [b]) with
  | false => rfl
  | true =>
    have h1 : s.toList = [b] := by simpa using hq
    exact absurd (ba_eq (by rw [← ByteArray.toList_eq, h1])) h
theorem tall_ok {n : Nat} (h : n ≤ 10) : (Fld.tall n).Ok := ⟨by show (-128 : Int) ≤ 0; decide, by show (0 : Int) ≤ 127; decide, by show -128 ≤ (n : Int); omega, by show (n : Int) ≤ 127; omega, zfld_ok.kl, zfld_ok.sl, zfld_ok.k, zfld_ok.s⟩
theorem tall_row (w : World) (n : Nat) : IsF ((w.alloc (.cells zfld.vals.toArray 30)).setRow w.heap.size (zfld.vals.set 1 (.int .i8 (n : Int))).toArray) w.heap.size (Fld.tall n) :=
  (Blk.new' w zfld.vals 30).row (zfld.vals.set 1 (.int .i8 (n : Int)))
theorem box_after {w w1 : World} {cs : List Value} {T : TypeId} (hb : Below (w.alloc (.cells cs.toArray T)).heap.size (w.alloc (.cells cs.toArray T)) w1) : Hid (Below w.heap.size w w1) ∧ Hid (Blk w1 w.heap.size cs T) := by
  have h := (Below.refl w.heap.size w).alloc (Nat.le_refl _) (.cells cs.toArray T)
  exact ⟨Lib.hid (h.trans (hb.mono h.size)), Lib.hid ((Blk.new' w cs T).below hb (Blk.new' w cs T).lt)⟩
theorem tall_one (n : Nat) : ∀ v ∈ zfld.vals.set 1 (.int .i8 (n : Int)), v.oneCell' = true := (Fld.tall n).one
set_option maxRecDepth 100000 in
set_option maxHeartbeats 8000000 in
theorem sReadField_any (t : ByteArray) (hs : t.size ≤ 1048576) (w : World) :
    Calls Tryd.prog 24 #[.string t] w fun e w' => e = .returned (readOut (sRead t)) ∧ Below w.heap.size w w' := by
  have hz := zero_field
  have HQ := Lib.hid (fun w1 => sSplit_any t 10 hs w1)
  obtain ⟨L, hL⟩ : ∃ L, L = cutS 10 t := ⟨_, rfl⟩
  have h1 : 0 < L.length := by rw [hL]; exact cutS_pos 10 t
  have h2 : L.length ≤ 1048577 := by rw [hL]; exact Nat.le_trans (cutS_len 10 t) (by omega)
  have h3 : ∀ p ∈ L, p.size ≤ 1048576 := fun p hp => by rw [hL] at hp; exact Nat.le_trans (cutS_mem 10 t hp) hs
  have eR : sRead t = if L.getD (L.length - 1) emptyB ≠ emptyB ∨ L.length - 1 < 1 ∨ 10 < L.length - 1 then none else linesF true (Fld.tall (L.length - 1)) 0 (L.take (L.length - 1)) := by rw [hL]; rfl
  rw [← hL] at HQ
  rw [eR]
  clear hL eR
  obtain ⟨n, hn⟩ : ∃ n, L.length = n + 1 := ⟨L.length - 1, by omega⟩
  have hn1 : L.length - 1 = n := by omega
  rw [hn1]
  have eg : L.getD n emptyB = L[n] := by rw [List.getD_eq_getElem?_getD, List.getElem?_eq_getElem (by omega)]; rfl
  rw [eg]
  have e1 : wrap64 ((n : Int) + 1 - 1) = (n : Int) := by unfold wrap64; omega
  have hE0 : L[n] = emptyB → L[n].toList.isEmpty = true := fun h => by rw [h]; exact List.isEmpty_iff.2 list_nil
  have hE1 : L[n] ≠ emptyB → L[n].toList.isEmpty = false := fun h => by
    cases hq : L[n].toList.isEmpty with
    | false => rfl
    | true => exact absurd (empty_of hq) h
  by_cases c1 : L[n] ≠ emptyB
  · rw [if_pos (.inl c1)]
    have f1 := hE1 c1
    clear hE0 hE1 c1
    go_enter Tryd.func24, Tryd.ntmps24
    go_wp2_with (first
      | (go_at_call 23; refine (HQ.out _).mono ?_; rintro e w1 ⟨ad, c, rfl, hc, hst, hge, hb⟩; rw [hn]; obtain ⟨HB, HZ⟩ := box_after hb; have hcl := hst.c n (by omega); have hsto := run_storeCells_blk (P := Tryd.prog) HZ.out (vs := zfld.vals) rfl zfld.one; clear hst hb))
    exact post_blk2 (p := 2) (q := 3) (T := 30) rfl rfl rfl rfl (HZ.out.row _) Tryd.underlying30 rfl (by rw [zfld_ok.len]; kernel_rfl) ⟨rfl, below_setRow HB.out (Nat.le_refl _) _⟩
  have c1 : L[n] = emptyB := Decidable.of_not_not c1
  have f1 := hE0 c1
  have C1 := Lib.hid c1
  clear c1
  by_cases c2 : n < 1
  · rw [if_pos (.inr (.inl c2))]
    have f2 : decide ((n : Int) < 1) = true := decide_eq_true (by omega)
    go_enter Tryd.func24, Tryd.ntmps24
    go_wp2_with (first
      | (go_at_call 23; refine (HQ.out _).mono ?_; rintro e w1 ⟨ad, c, rfl, hc, hst, hge, hb⟩; rw [hn]; obtain ⟨HB, HZ⟩ := box_after hb; have hcl := hst.c n (by omega); have hsto := run_storeCells_blk (P := Tryd.prog) HZ.out (vs := zfld.vals) rfl zfld.one; clear hst hb))
    exact post_blk2 (p := 2) (q := 3) (T := 30) rfl rfl rfl rfl (HZ.out.row _) Tryd.underlying30 rfl (by rw [zfld_ok.len]; kernel_rfl) ⟨rfl, below_setRow HB.out (Nat.le_refl _) _⟩
  have f2 : decide ((n : Int) < 1) = false := decide_eq_false (by omega)
  by_cases c3 : 10 < n
  · rw [if_pos (.inr (.inr c3))]
    have f3 : decide (10 < (n : Int)) = true := decide_eq_true (by omega)
    go_enter Tryd.func24, Tryd.ntmps24
    go_wp2_with (first
      | (go_at_call 23; refine (HQ.out _).mono ?_; rintro e w1 ⟨ad, c, rfl, hc, hst, hge, hb⟩; rw [hn]; obtain ⟨HB, HZ⟩ := box_after hb; have hcl := hst.c n (by omega); have hsto := run_storeCells_blk (P := Tryd.prog) HZ.out (vs := zfld.vals) rfl zfld.one; clear hst hb))
    exact post_blk2 (p := 2) (q := 3) (T := 30) rfl rfl rfl rfl (HZ.out.row _) Tryd.underlying30 rfl (by rw [zfld_ok.len]; kernel_rfl) ⟨rfl, below_setRow HB.out (Nat.le_refl _) _⟩
  have f3 : decide (10 < (n : Int)) = false := decide_eq_false (by omega)
  rw [if_neg (by rintro (h | h | h); exact h C1.out; exact c2 h; exact c3 h)]
  have hR : linesF true (Fld.tall n) 0 ((L.take n).drop 0) = linesF true (Fld.tall n) 0 (L.take n) := rfl
  generalize linesF true (Fld.tall n) 0 (L.take n) = R at *
  go_enter Tryd.func24, Tryd.ntmps24
  go_wp2_with (first
    | (go_at_call 23; refine (HQ.out _).mono ?_; rintro e w1 ⟨ad, c, rfl, hc, hst, hge, hb⟩; rw [hn]; have ST := Lib.hid hst; obtain ⟨HB, HZ⟩ := box_after hb; have hsto := run_storeCells_blk (P := Tryd.prog) (Blk.new' w1 zfld.vals 30) (vs := zfld.vals.set 1 (.int .i8 (n : Int))) rfl (tall_one n); have hcl := hst.c n (by omega); clear hst hb))
  have hn10 : n ≤ 10 := by omega
  have ho0 : (Fld.tall n).Ok := tall_ok hn10
  have hlt0 : w.heap.size < w1.heap.size := HZ.out.lt
  clear hsto hcl hE0 hE1 c2 c3 f1 f2 f3 hge
  go_loopw [7] (fun v wr => ∃ (y : Nat) (F : Fld), y ≤ n ∧ v = .int .i64 y ∧ F.Ok ∧ linesF true F y ((L.take n).drop y) = R ∧ Hid (IsF wr w1.heap.size F) ∧ Hid (Below w1.heap.size w1 wr)) (fun v _ => n - (intOf v).toNat)
  case atStart => exact ⟨0, Fld.tall n, by omega, rfl, ho0, hR, Lib.hid (tall_row w1 n), Lib.hid (below_setRow ((Below.refl _ _).alloc (Nat.le_refl _) _) (Nat.le_refl _) _)⟩
  case round =>
    clear hR ho0
    obtain ⟨y, F, hy, rfl, ho, hR, HF, HBr⟩ := hrel
    by_cases hlt : y < n
    · have hly := (ST.out.below HBr.out).c y (by omega)
      have hlist : (L.take n).drop y = L[y] :: (L.take n).drop (y + 1) := by rw [List.drop_eq_getElem_cons (by rw [List.length_take]; omega)]; simp
      rw [hlist] at hR
      simp only [linesF] at hR
      have HQ2 := Lib.hid (fun w1 => sSplit_any L[y] 32 (h3 _ (List.getElem_mem _)) w1)
      have hw1 := cutS_pos 32 L[y]
      have hw2 : (cutS 32 L[y]).length ≤ 1048577 := Nat.le_trans (cutS_len 32 L[y]) (by have := h3 _ (List.getElem_mem (l := L) (n := y) (by omega)); omega)
      generalize hrest : (L.take n).drop (y + 1) = rest at hR
      clear hlist
      generalize cutS 32 L[y] = ws at *
      generalize L[y] = ln at *
      obtain ⟨m, hm⟩ : ∃ m, ws.length = m := ⟨_, rfl⟩
      rw [hm] at hR hw1 hw2
      have cw := HF.out.c0
      have hww : wrap64 F.wide = F.wide := by have := ho.w0; have := ho.w1; unfold wrap64; omega
      by_cases d1 : 10 < m
      · rw [if_pos (.inl d1)] at hR
        subst hR
        have f1 : decide (10 < (m : Int)) = true := decide_eq_true (by omega)
        go_wp2_with (first
          | (go_at_call 23; refine (HQ2.out _).mono ?_; rintro e w5 ⟨ad2, c2, rfl, hc2, hst2, hge2, hb2⟩; rw [hm]; have HB5 := Lib.hid (HBr.out.trans (hb2.mono HBr.out.size)); have HZ5 := Lib.hid (HZ.out.below HB5.out hlt0); have hsto := run_storeCells_blk (P := Tryd.prog) HZ5.out (vs := zfld.vals) rfl zfld.one; have cw5 := pw_cell_below hb2 cw; clear hst2 hb2))
        exact post_blk2 (p := 2) (q := 3) (T := 30) rfl rfl rfl rfl (HZ5.out.row _) Tryd.underlying30 rfl (by rw [zfld_ok.len]; kernel_rfl) ⟨rfl, below_setRow (HB.out.trans (HB5.out.mono HB.out.size)) (Nat.le_refl _) _⟩
      have f1 : decide (10 < (m : Int)) = false := decide_eq_false (by omega)
      by_cases d2 : 0 < y ∧ (m : Int) ≠ F.wide
      · rw [if_pos (.inr ⟨trivial, d2⟩)] at hR
        subst hR
        obtain ⟨d2, d3⟩ := d2
        have f2 : decide (0 < (y : Int)) = true := decide_eq_true (by omega)
        have f3 : ((m : Int) != F.wide) = true := by simpa using d3
        go_wp2_with (first
          | (go_at_call 23; refine (HQ2.out _).mono ?_; rintro e w5 ⟨ad2, c2, rfl, hc2, hst2, hge2, hb2⟩; rw [hm]; have HB5 := Lib.hid (HBr.out.trans (hb2.mono HBr.out.size)); have HZ5 := Lib.hid (HZ.out.below HB5.out hlt0); have hsto := run_storeCells_blk (P := Tryd.prog) HZ5.out (vs := zfld.vals) rfl zfld.one; have cw5 := pw_cell_below hb2 cw; clear hst2 hb2))
        exact post_blk2 (p := 2) (q := 3) (T := 30) rfl rfl rfl rfl (HZ5.out.row _) Tryd.underlying30 rfl (by rw [zfld_ok.len]; kernel_rfl) ⟨rfl, below_setRow (HB.out.trans (HB5.out.mono HB.out.size)) (Nat.le_refl _) _⟩
      rw [if_neg (by rintro (h | h); exact d1 h; exact d2 h.2)] at hR
      by_cases d3 : 0 < y
      · have f2 : decide (0 < (y : Int)) = true := decide_eq_true (by omega)
        have f5 : (m : Int) = F.wide := Decidable.of_not_not fun h => d2 ⟨d3, h⟩
        have f3 : ((m : Int) = F.wide) = True := eq_true f5
        have f4 : ((m : Int) != F.wide) = false := by rw [f5]; simp
        clear d2 f5
        go_wp2_with (first
          | (go_at_call 23; refine (HQ2.out _).mono ?_; rintro e w5 ⟨ad2, c2, rfl, hc2, hst2, hge2, hb2⟩; rw [hm]; have HB5 := Lib.hid (HBr.out.trans (hb2.mono HBr.out.size)); have HF5 := Lib.hid (HF.out.below' hb2); have HW5 := Lib.hid hst2; have fz := HF5.out.free 0; have cw5 := pw_cell_below hb2 cw; clear hst2 hb2))
        have hne : ad2.block ≠ w1.heap.size := by have := HF.out.lt; omega
        clear cw cw5 fz hge2
        go_loopw [9] (fun v wr2 => ∃ (x : Nat) (G : Fld), x ≤ m ∧ v = .int .i64 x ∧ G.Ok ∧ ((rowF y G x (ws.drop x)).bind fun F => linesF true F (y + 1) rest) = R ∧ Hid (IsF wr2 w1.heap.size G) ∧ Hid (Strs wr2 ad2 ws) ∧ Hid (Below w1.heap.size w1 wr2)) (fun v _ => m - (intOf v).toNat)
        case atStart => exact ⟨0, F.setW m, by omega, rfl, ho.setW (by omega) (by omega), hR, Lib.hid (isF_setW HF5.out m), Lib.hid (HW5.out.set hne _ _), Lib.hid (below_setCell HB5.out (Nat.le_refl _) _ _)⟩
        case round =>
          clear hR HF HBr HF5 HW5 HB5 ho hww
          obtain ⟨x, G, hx, rfl, ho2, hR, HF2, HW2, HB2⟩ := hrel
          by_cases hxl : x < m
          · have hwx := HW2.out.c x (by omega)
            have hdrop : ws.drop x = ws[x] :: ws.drop (x + 1) := List.drop_eq_getElem_cons (by omega)
            rw [hdrop] at hR
            simp only [rowF] at hR
            have HN := Lib.hid (sNumber_any ws[x] 1000 (by decide))
            have hk100 : x + 10 * y < 100 := by omega
            clear hdrop
            generalize ws[x] = s at *
            by_cases e1 : s = hB
            · have q1 : (s.toList == [104]) = true := word_eq e1
              have ec : cellF G (x + 10 * y) s = some (G.setK (x + 10 * y) 1) := by unfold cellF; rw [if_pos e1]
              rw [ec] at hR
              simp only [Option.bind_some] at hR
              clear ec e1
              obtain ⟨r, hnum, -⟩ := HN.out
              clear HN
              go_wp2_with (first | (go_at_call 25; refine (hnum _).mono ?_; rintro e w6 ⟨rfl, hb⟩; have HF6 := Lib.hid (HF2.out.below' hb); have HW6 := Lib.hid (HW2.out.below hb); have HB6 := Lib.hid (HB2.out.trans (hb.mono HB2.out.size)); have hwx6 := pw_cell_below hb hwx; have fz := HF6.out.free (2 + (x + 10 * y)); have cx := HF6.out.ck ho2 hk100; clear hb))
              go_roundw
              case rel => exact ⟨x + 1, G.setK (x + 10 * y) 1, hxl, by go_num, ho2.setK _ (by decide) (by decide), hR, Lib.hid (isF_setK HF6.out ho2 hk100 1), Lib.hid (HW6.out.set hne _ _), Lib.hid (below_setCell HB6.out (Nat.le_refl _) _ _)⟩
              case measure => simp only [intOf]; omega
            have q1 : (s.toList == [104]) = false := word_ne e1
            by_cases e2 : s = pB
            · have q2 : (s.toList == [112]) = true := word_eq e2
              have ec : cellF G (x + 10 * y) s = some (G.setK (x + 10 * y) 2) := by unfold cellF; rw [if_neg e1, if_pos e2]
              rw [ec] at hR
              simp only [Option.bind_some] at hR
              clear ec e1 e2
              obtain ⟨r, hnum, -⟩ := HN.out
              clear HN
              go_wp2_with (first | (go_at_call 25; refine (hnum _).mono ?_; rintro e w6 ⟨rfl, hb⟩; have HF6 := Lib.hid (HF2.out.below' hb); have HW6 := Lib.hid (HW2.out.below hb); have HB6 := Lib.hid (HB2.out.trans (hb.mono HB2.out.size)); have hwx6 := pw_cell_below hb hwx; have fz := HF6.out.free (2 + (x + 10 * y)); have cx := HF6.out.ck ho2 hk100; clear hb))
              go_roundw
              case rel => exact ⟨x + 1, G.setK (x + 10 * y) 2, hxl, by go_num, ho2.setK _ (by decide) (by decide), hR, Lib.hid (isF_setK HF6.out ho2 hk100 2), Lib.hid (HW6.out.set hne _ _), Lib.hid (below_setCell HB6.out (Nat.le_refl _) _ _)⟩
              case measure => simp only [intOf]; omega
            have q2 : (s.toList == [112]) = false := word_ne e2
            by_cases e3 : s = tB
            · have q3 : (s.toList == [116]) = true := word_eq e3
              have ec : cellF G (x + 10 * y) s = some (G.setK (x + 10 * y) 3) := by unfold cellF; rw [if_neg e1, if_neg e2, if_pos e3]
              rw [ec] at hR
              simp only [Option.bind_some] at hR
              clear ec e1 e2 e3
              obtain ⟨r, hnum, -⟩ := HN.out
              clear HN
              go_wp2_with (first | (go_at_call 25; refine (hnum _).mono ?_; rintro e w6 ⟨rfl, hb⟩; have HF6 := Lib.hid (HF2.out.below' hb); have HW6 := Lib.hid (HW2.out.below hb); have HB6 := Lib.hid (HB2.out.trans (hb.mono HB2.out.size)); have hwx6 := pw_cell_below hb hwx; have fz := HF6.out.free (2 + (x + 10 * y)); have cx := HF6.out.ck ho2 hk100; clear hb))
              go_roundw
              case rel => exact ⟨x + 1, G.setK (x + 10 * y) 3, hxl, by go_num, ho2.setK _ (by decide) (by decide), hR, Lib.hid (isF_setK HF6.out ho2 hk100 3), Lib.hid (HW6.out.set hne _ _), Lib.hid (below_setCell HB6.out (Nat.le_refl _) _ _)⟩
              case measure => simp only [intOf]; omega
            have q3 : (s.toList == [116]) = false := word_ne e3
            obtain ⟨r, hnum, ⟨v, v0, v1, rfl, hp⟩ | ⟨hno, hp⟩⟩ := HN.out
            · have ec : cellF G (x + 10 * y) s = some (G.setS (x + 10 * y) v) := by unfold cellF; rw [if_neg e1, if_neg e2, if_neg e3, hp]; rfl
              rw [ec] at hR
              simp only [Option.bind_some] at hR
              have hv : decide (v ≤ 1000) = true := decide_eq_true v1
              have hv2 : wrap64 v = v := by unfold wrap64; omega
              clear ec e1 e2 e3 HN hp
              go_wp2_with (first | (go_at_call 25; refine (hnum _).mono ?_; rintro e w6 ⟨rfl, hb⟩; have HF6 := Lib.hid (HF2.out.below' hb); have HW6 := Lib.hid (HW2.out.below hb); have HB6 := Lib.hid (HB2.out.trans (hb.mono HB2.out.size)); have hwx6 := pw_cell_below hb hwx; have fz := HF6.out.free (102 + (x + 10 * y)); have cx := HF6.out.cs ho2 hk100; clear hb))
              go_roundw
              case rel => exact ⟨x + 1, G.setS (x + 10 * y) v, hxl, by go_num, ho2.setS _ (by omega) (by omega), hR, Lib.hid (isF_setS HF6.out ho2 v), Lib.hid (HW6.out.set hne _ _), Lib.hid (below_setCell HB6.out (Nat.le_refl _) _ _)⟩
              case measure => simp only [intOf]; omega
            · have ec : cellF G (x + 10 * y) s = none := by unfold cellF; rw [if_neg e1, if_neg e2, if_neg e3, if_neg (by rw [hp]; decide)]
              rw [ec] at hR
              simp only [Option.bind_none] at hR
              subst hR
              clear ec e1 e2 e3 HN hp
              obtain ⟨n9, b9⟩ := r
              simp only at hno
              cases b9 with
              | false =>
                go_wp2_with (first | (go_at_call 25; refine (hnum _).mono ?_; rintro e w6 ⟨rfl, hb⟩; have HF6 := Lib.hid (HF2.out.below' hb); have HW6 := Lib.hid (HW2.out.below hb); have HB6 := Lib.hid (HB2.out.trans (hb.mono HB2.out.size)); have hwx6 := pw_cell_below hb hwx; have fz := HF6.out.free (2 + (x + 10 * y)); have cx := HF6.out.ck ho2 hk100; have HZ6 := Lib.hid (HZ.out.below HB6.out hlt0); have hsto := run_storeCells_blk (P := Tryd.prog) HZ6.out (vs := zfld.vals) rfl zfld.one; clear hb))
                exact post_blk2 (p := 2) (q := 3) (T := 30) rfl rfl rfl rfl (HZ6.out.row _) Tryd.underlying30 rfl (by rw [zfld_ok.len]; kernel_rfl) ⟨rfl, below_setRow (HB.out.trans (HB6.out.mono HB.out.size)) (Nat.le_refl _) _⟩
              | true =>
                have hn9 : 1000 < n9 := by rcases hno with h | h; cases h; exact h
                have hv : decide (n9 ≤ 1000) = false := decide_eq_false (by omega)
                clear hno
                go_wp2_with (first | (go_at_call 25; refine (hnum _).mono ?_; rintro e w6 ⟨rfl, hb⟩; have HF6 := Lib.hid (HF2.out.below' hb); have HW6 := Lib.hid (HW2.out.below hb); have HB6 := Lib.hid (HB2.out.trans (hb.mono HB2.out.size)); have hwx6 := pw_cell_below hb hwx; have fz := HF6.out.free (2 + (x + 10 * y)); have cx := HF6.out.ck ho2 hk100; have HZ6 := Lib.hid (HZ.out.below HB6.out hlt0); have hsto := run_storeCells_blk (P := Tryd.prog) HZ6.out (vs := zfld.vals) rfl zfld.one; clear hb))
                exact post_blk2 (p := 2) (q := 3) (T := 30) rfl rfl rfl rfl (HZ6.out.row _) Tryd.underlying30 rfl (by rw [zfld_ok.len]; kernel_rfl) ⟨rfl, below_setRow (HB.out.trans (HB6.out.mono HB.out.size)) (Nat.le_refl _) _⟩
          · obtain rfl : x = m := by omega
            rw [List.drop_eq_nil_iff.2 (by omega)] at hR
            simp only [rowF, Option.bind_some] at hR
            go_wp2
            go_roundw
            case rel => exact ⟨y + 1, G, hlt, by go_num, ho2, by rw [hrest]; exact hR, HF2, HB2⟩
            case measure => simp only [intOf]; omega
      · have f2 : decide (0 < (y : Int)) = false := decide_eq_false (by omega)
        clear d2
        go_wp2_with (first
          | (go_at_call 23; refine (HQ2.out _).mono ?_; rintro e w5 ⟨ad2, c2, rfl, hc2, hst2, hge2, hb2⟩; rw [hm]; have HB5 := Lib.hid (HBr.out.trans (hb2.mono HBr.out.size)); have HF5 := Lib.hid (HF.out.below' hb2); have HW5 := Lib.hid hst2; have fz := HF5.out.free 0; have cw5 := pw_cell_below hb2 cw; clear hst2 hb2))
        have hne : ad2.block ≠ w1.heap.size := by have := HF.out.lt; omega
        clear cw cw5 fz hge2
        go_loopw [9] (fun v wr2 => ∃ (x : Nat) (G : Fld), x ≤ m ∧ v = .int .i64 x ∧ G.Ok ∧ ((rowF y G x (ws.drop x)).bind fun F => linesF true F (y + 1) rest) = R ∧ Hid (IsF wr2 w1.heap.size G) ∧ Hid (Strs wr2 ad2 ws) ∧ Hid (Below w1.heap.size w1 wr2)) (fun v _ => m - (intOf v).toNat)
        case atStart => exact ⟨0, F.setW m, by omega, rfl, ho.setW (by omega) (by omega), hR, Lib.hid (isF_setW HF5.out m), Lib.hid (HW5.out.set hne _ _), Lib.hid (below_setCell HB5.out (Nat.le_refl _) _ _)⟩
        case round =>
          clear hR HF HBr HF5 HW5 HB5 ho hww
          obtain ⟨x, G, hx, rfl, ho2, hR, HF2, HW2, HB2⟩ := hrel
          by_cases hxl : x < m
          · have hwx := HW2.out.c x (by omega)
            have hdrop : ws.drop x = ws[x] :: ws.drop (x + 1) := List.drop_eq_getElem_cons (by omega)
            rw [hdrop] at hR
            simp only [rowF] at hR
            have HN := Lib.hid (sNumber_any ws[x] 1000 (by decide))
            have hk100 : x + 10 * y < 100 := by omega
            clear hdrop
            generalize ws[x] = s at *
            by_cases e1 : s = hB
            · have q1 : (s.toList == [104]) = true := word_eq e1
              have ec : cellF G (x + 10 * y) s = some (G.setK (x + 10 * y) 1) := by unfold cellF; rw [if_pos e1]
              rw [ec] at hR
              simp only [Option.bind_some] at hR
              clear ec e1
              obtain ⟨r, hnum, -⟩ := HN.out
              clear HN
              go_wp2_with (first | (go_at_call 25; refine (hnum _).mono ?_; rintro e w6 ⟨rfl, hb⟩; have HF6 := Lib.hid (HF2.out.below' hb); have HW6 := Lib.hid (HW2.out.below hb); have HB6 := Lib.hid (HB2.out.trans (hb.mono HB2.out.size)); have hwx6 := pw_cell_below hb hwx; have fz := HF6.out.free (2 + (x + 10 * y)); have cx := HF6.out.ck ho2 hk100; clear hb))
              go_roundw
              case rel => exact ⟨x + 1, G.setK (x + 10 * y) 1, hxl, by go_num, ho2.setK _ (by decide) (by decide), hR, Lib.hid (isF_setK HF6.out ho2 hk100 1), Lib.hid (HW6.out.set hne _ _), Lib.hid (below_setCell HB6.out (Nat.le_refl _) _ _)⟩
              case measure => simp only [intOf]; omega
            have q1 : (s.toList == [104]) = false := word_ne e1
            by_cases e2 : s = pB
            · have q2 : (s.toList == [112]) = true := word_eq e2
              have ec : cellF G (x + 10 * y) s = some (G.setK (x + 10 * y) 2) := by unfold cellF; rw [if_neg e1, if_pos e2]
              rw [ec] at hR
              simp only [Option.bind_some] at hR
              clear ec e1 e2
              obtain ⟨r, hnum, -⟩ := HN.out
              clear HN
              go_wp2_with (first | (go_at_call 25; refine (hnum _).mono ?_; rintro e w6 ⟨rfl, hb⟩; have HF6 := Lib.hid (HF2.out.below' hb); have HW6 := Lib.hid (HW2.out.below hb); have HB6 := Lib.hid (HB2.out.trans (hb.mono HB2.out.size)); have hwx6 := pw_cell_below hb hwx; have fz := HF6.out.free (2 + (x + 10 * y)); have cx := HF6.out.ck ho2 hk100; clear hb))
              go_roundw
              case rel => exact ⟨x + 1, G.setK (x + 10 * y) 2, hxl, by go_num, ho2.setK _ (by decide) (by decide), hR, Lib.hid (isF_setK HF6.out ho2 hk100 2), Lib.hid (HW6.out.set hne _ _), Lib.hid (below_setCell HB6.out (Nat.le_refl _) _ _)⟩
              case measure => simp only [intOf]; omega
            have q2 : (s.toList == [112]) = false := word_ne e2
            by_cases e3 : s = tB
            · have q3 : (s.toList == [116]) = true := word_eq e3
              have ec : cellF G (x + 10 * y) s = some (G.setK (x + 10 * y) 3) := by unfold cellF; rw [if_neg e1, if_neg e2, if_pos e3]
              rw [ec] at hR
              simp only [Option.bind_some] at hR
              clear ec e1 e2 e3
              obtain ⟨r, hnum, -⟩ := HN.out
              clear HN
              go_wp2_with (first | (go_at_call 25; refine (hnum _).mono ?_; rintro e w6 ⟨rfl, hb⟩; have HF6 := Lib.hid (HF2.out.below' hb); have HW6 := Lib.hid (HW2.out.below hb); have HB6 := Lib.hid (HB2.out.trans (hb.mono HB2.out.size)); have hwx6 := pw_cell_below hb hwx; have fz := HF6.out.free (2 + (x + 10 * y)); have cx := HF6.out.ck ho2 hk100; clear hb))
              go_roundw
              case rel => exact ⟨x + 1, G.setK (x + 10 * y) 3, hxl, by go_num, ho2.setK _ (by decide) (by decide), hR, Lib.hid (isF_setK HF6.out ho2 hk100 3), Lib.hid (HW6.out.set hne _ _), Lib.hid (below_setCell HB6.out (Nat.le_refl _) _ _)⟩
              case measure => simp only [intOf]; omega
            have q3 : (s.toList == [116]) = false := word_ne e3
            obtain ⟨r, hnum, ⟨v, v0, v1, rfl, hp⟩ | ⟨hno, hp⟩⟩ := HN.out
            · have ec : cellF G (x + 10 * y) s = some (G.setS (x + 10 * y) v) := by unfold cellF; rw [if_neg e1, if_neg e2, if_neg e3, hp]; rfl
              rw [ec] at hR
              simp only [Option.bind_some] at hR
              have hv : decide (v ≤ 1000) = true := decide_eq_true v1
              have hv2 : wrap64 v = v := by unfold wrap64; omega
              clear ec e1 e2 e3 HN hp
              go_wp2_with (first | (go_at_call 25; refine (hnum _).mono ?_; rintro e w6 ⟨rfl, hb⟩; have HF6 := Lib.hid (HF2.out.below' hb); have HW6 := Lib.hid (HW2.out.below hb); have HB6 := Lib.hid (HB2.out.trans (hb.mono HB2.out.size)); have hwx6 := pw_cell_below hb hwx; have fz := HF6.out.free (102 + (x + 10 * y)); have cx := HF6.out.cs ho2 hk100; clear hb))
              go_roundw
              case rel => exact ⟨x + 1, G.setS (x + 10 * y) v, hxl, by go_num, ho2.setS _ (by omega) (by omega), hR, Lib.hid (isF_setS HF6.out ho2 v), Lib.hid (HW6.out.set hne _ _), Lib.hid (below_setCell HB6.out (Nat.le_refl _) _ _)⟩
              case measure => simp only [intOf]; omega
            · have ec : cellF G (x + 10 * y) s = none := by unfold cellF; rw [if_neg e1, if_neg e2, if_neg e3, if_neg (by rw [hp]; decide)]
              rw [ec] at hR
              simp only [Option.bind_none] at hR
              subst hR
              clear ec e1 e2 e3 HN hp
              obtain ⟨n9, b9⟩ := r
              simp only at hno
              cases b9 with
              | false =>
                go_wp2_with (first | (go_at_call 25; refine (hnum _).mono ?_; rintro e w6 ⟨rfl, hb⟩; have HF6 := Lib.hid (HF2.out.below' hb); have HW6 := Lib.hid (HW2.out.below hb); have HB6 := Lib.hid (HB2.out.trans (hb.mono HB2.out.size)); have hwx6 := pw_cell_below hb hwx; have fz := HF6.out.free (2 + (x + 10 * y)); have cx := HF6.out.ck ho2 hk100; have HZ6 := Lib.hid (HZ.out.below HB6.out hlt0); have hsto := run_storeCells_blk (P := Tryd.prog) HZ6.out (vs := zfld.vals) rfl zfld.one; clear hb))
                exact post_blk2 (p := 2) (q := 3) (T := 30) rfl rfl rfl rfl (HZ6.out.row _) Tryd.underlying30 rfl (by rw [zfld_ok.len]; kernel_rfl) ⟨rfl, below_setRow (HB.out.trans (HB6.out.mono HB.out.size)) (Nat.le_refl _) _⟩
              | true =>
                have hn9 : 1000 < n9 := by rcases hno with h | h; cases h; exact h
                have hv : decide (n9 ≤ 1000) = false := decide_eq_false (by omega)
                clear hno
                go_wp2_with (first | (go_at_call 25; refine (hnum _).mono ?_; rintro e w6 ⟨rfl, hb⟩; have HF6 := Lib.hid (HF2.out.below' hb); have HW6 := Lib.hid (HW2.out.below hb); have HB6 := Lib.hid (HB2.out.trans (hb.mono HB2.out.size)); have hwx6 := pw_cell_below hb hwx; have fz := HF6.out.free (2 + (x + 10 * y)); have cx := HF6.out.ck ho2 hk100; have HZ6 := Lib.hid (HZ.out.below HB6.out hlt0); have hsto := run_storeCells_blk (P := Tryd.prog) HZ6.out (vs := zfld.vals) rfl zfld.one; clear hb))
                exact post_blk2 (p := 2) (q := 3) (T := 30) rfl rfl rfl rfl (HZ6.out.row _) Tryd.underlying30 rfl (by rw [zfld_ok.len]; kernel_rfl) ⟨rfl, below_setRow (HB.out.trans (HB6.out.mono HB.out.size)) (Nat.le_refl _) _⟩
          · obtain rfl : x = m := by omega
            rw [List.drop_eq_nil_iff.2 (by omega)] at hR
            simp only [rowF, Option.bind_some] at hR
            go_wp2
            go_roundw
            case rel => exact ⟨y + 1, G, hlt, by go_num, ho2, by rw [hrest]; exact hR, HF2, HB2⟩
            case measure => simp only [intOf]; omega
    · obtain rfl : y = n := by omega
      rw [List.drop_eq_nil_iff.2 (by rw [List.length_take]; omega)] at hR
      simp only [linesF] at hR
      subst hR
      have hFl := ho.len
      have HZr := Lib.hid (HZ.out.below HBr.out hlt0)
      have hsto := run_storeCells_blk (P := Tryd.prog) HZr.out (vs := F.vals) (by rw [ho.len, zfld_ok.len]) F.one
      go_wp2_with (first
        | (with_reducible refine wpList_load_blk rfl 30 (.tmp 6) rfl _ 0 rfl F.vals _ HF.out (by rw [List.drop_zero, List.take_length]) Tryd.underlying30 rfl (by rw [ho.len]; kernel_rfl) ?_))
      exact post_blk2 (p := 2) (q := 3) (T := 30) rfl rfl rfl rfl (HZr.out.row _) Tryd.underlying30 rfl (by rw [ho.len]; kernel_rfl) ⟨rfl, below_setRow (HB.out.trans (HBr.out.mono HB.out.size)) (Nat.le_refl _) _⟩
end Go.Proofs.YtfeniekapmbjjaaDoor
