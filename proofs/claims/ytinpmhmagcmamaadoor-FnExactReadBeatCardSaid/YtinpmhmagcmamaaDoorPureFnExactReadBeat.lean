/- The program's ReadBeat answers what the reference's answers, for all arguments: the plain law. No condition. -/
import Derived.Test.YtinpmhmagcmamaaDoorSPN
namespace Go.Proofs.YtinpmhmagcmamaaDoor.PFnExactReadBeat
open Go.RowKit Go.Proofs.YtinpmhmagcmamaaDoorW.PrintWords Go.Proofs.YtinpmhmagcmamaaDoorW.PrintLast Go.Proofs.YtinpmhmagcmamaaDoorW.PrintMore
set_option linter.unusedSimpArgs false
set_option linter.unusedVariables false

theorem eqBeat_l0 (xs : List Int) (hl : xs.length ≤ 1048576) (d : Nat) : ∀ i : Nat, i ≤ xs.length → xs.length - i = d → Ev (fun k => laws_eqBeat.l0 k xs xs (i : Int)) true := by
  induction d with
  | zero =>
    intro i hi hd
    refine Ev.step (f := fun _ => some true) (fun k => ?_) (Ev.now _)
    simp only [laws_eqBeat.l0]
    rw [if_neg (by omega)]
  | succ d ih =>
    intro i hi hd
    refine Ev.step (fun k => ?_) (ih (i + 1) (by omega) (by omega))
    simp only [laws_eqBeat.l0]
    rw [if_pos (by omega), if_pos (by omega), if_pos (by omega), wnat (by omega)]
    simp only [if_true]
theorem eqBeat (xs : List Int) (hl : xs.length ≤ 1048576) : Ev (fun k => laws_eqBeat.f k xs xs) true := by
  refine Ev.congr (fun k => ?_) (eqBeat_l0 xs hl xs.length 0 (by omega) (by omega))
  unfold laws_eqBeat.f
  rw [if_pos rfl]
  rfl

/-! ### marks -/
def mks (n : Nat) : List Int := (List.range n).map fun (j : Nat) => (1 : Int) + (j : Int)
theorem mks_len (n : Nat) : (mks n).length = n := by simp [mks]
theorem mks_succ (n : Nat) : mks (n + 1) = mks n ++ [1 + (n : Int)] := by simp [mks, List.range_succ]
theorem mks_rd {n i : Nat} (h : i < n) : rd (mks n) (i : Int) = 1 + (i : Int) := by
  rw [rd_get (by rw [mks_len]; exact h)]
  simp [mks]
theorem w1nat {i : Nat} (h : i ≤ 1048577) : wrap64 (1 + (i : Int) + 1) = 1 + ((i + 1 : Nat) : Int) := by unfold wrap64; omega
theorem i16s {i : Nat} (h : i ≤ 1000) : IntKind.i16.wrap (1 + (i : Int)) = 1 + (i : Int) := by
  simp only [IntKind.wrap, IntKind.bits, IntKind.signed]
  simp
  omega
theorem drop_rd (xs : List Int) {i : Nat} (h : i < xs.length) : xs.drop i = rd xs (i : Int) :: xs.drop (i + 1) := by
  rw [rd_get h]; exact List.drop_eq_getElem_cons h
theorem mark_l0 (xs : List Int) (hl : xs.length ≤ 1000) (d : Nat) : ∀ i : Nat, i ≤ xs.length → xs.length - i = d → Ev (fun k => laws_markBeat.l0 k (mks i ++ xs.drop i) (1 + (i : Int)) (i : Int)) (1 + (xs.length : Int), mks xs.length) := by
  induction d with
  | zero =>
    intro i hi hd
    obtain rfl : i = xs.length := by omega
    refine Ev.step (f := fun _ => some _) (fun k => ?_) (Ev.now _)
    simp only [laws_markBeat.l0]
    rw [if_neg (by rw [List.length_append, mks_len, List.length_drop]; omega), List.drop_length, List.append_nil]
  | succ d ih =>
    intro i hi hd
    have hlt : i < xs.length := by omega
    refine Ev.step (fun k => ?_) (ih (i + 1) (by omega) (by omega))
    simp only [laws_markBeat.l0]
    rw [if_pos (by rw [List.length_append, mks_len, List.length_drop]; omega), if_pos (by omega), wnat (by omega), w1nat (by omega), i16s (by omega), Int.toNat_natCast, drop_rd xs hlt, List.set_append_right _ _ (by rw [mks_len]; omega), mks_len, Nat.sub_self, List.set_cons_zero, mks_succ, List.append_assoc, List.singleton_append]
theorem markAll (xs : List Int) (hl : xs.length ≤ 1000) : Ev (fun k => laws_markBeat.f k xs 1) (1 + (xs.length : Int), mks xs.length) := by
  have h := mark_l0 xs hl xs.length 0 (by omega) (by omega)
  have e0 : mks 0 = [] := rfl
  rw [e0] at h
  exact h
theorem held_l0 (n : Nat) (hl : n ≤ 1000) (d : Nat) : ∀ i : Nat, i ≤ n → n - i = d → Ev (fun k => laws_heldBeat.l0 k (mks n) (1 + (i : Int)) (i : Int)) (1 + (n : Int)) := by
  induction d with
  | zero =>
    intro i hi hd
    obtain rfl : i = n := by omega
    refine Ev.step (f := fun _ => some _) (fun k => ?_) (Ev.now _)
    simp only [laws_heldBeat.l0]
    rw [if_neg (by rw [mks_len]; omega)]
  | succ d ih =>
    intro i hi hd
    refine Ev.step (fun k => ?_) (ih (i + 1) (by omega) (by omega))
    simp only [laws_heldBeat.l0]
    rw [if_pos (by rw [mks_len]; omega), if_pos (by omega), i16s (by omega), if_pos (mks_rd (by omega)), wnat (by omega), w1nat (by omega)]
theorem held (n : Nat) (hl : n ≤ 1000) : Ev (fun k => laws_heldBeat.f k (mks n) 1) (1 + (n : Int)) :=
  held_l0 n hl n 0 (by omega) (by omega)

/-! ### words -/
theorem word_ok {w : ByteArray} (h : w.size ≤ 281474976710656) : impl_parse.f w 0 99 = some (parseF w 0 99) := by
  unfold impl_parse.f
  rw [if_pos ⟨h, by omega, by omega⟩]
theorem num_of {r : Int × Bool} {v : Int} (h : ∀ u : Int, 0 ≤ u → u ≤ 1000000 → dec v = dec u → r = (u, true)) (h0 : 0 ≤ v) (h1 : v ≤ 99) : r = (v, true) := h v h0 (by omega) rfl
theorem i16v {v : Int} (h0 : 0 ≤ v) (h1 : v ≤ 99) : IntKind.i16.wrap v = v := by
  simp only [IntKind.wrap, IntKind.bits, IntKind.signed]
  simp
  omega
open Classical in
theorem both_l0 {ws : List ByteArray} (hn : ws.length ≤ 40) (hw : ∀ w ∈ ws, w.size ≤ 281474976710656) : ∀ (d i : Nat) (out : List Int), i + d = ws.length → out.length = i →
    ∃ r : List Int × Int, r.1.length ≤ 1000 ∧ Ev (fun k => spec_ReadBeat.l0 k ws out (i : Int)) r ∧ Ev (fun k => impl_ReadBeat.l0 k out ws (ws.length : Int) (i : Int)) r
  | 0, i, out, hi, ho => by
    refine ⟨(out, 0), (by show out.length ≤ 1000; omega), Ev.step (f := fun _ => some _) (fun k => ?_) (Ev.now _), Ev.step (f := fun _ => some _) (fun k => ?_) (Ev.now _)⟩
    · simp only [spec_ReadBeat.l0]
      rw [if_neg (by omega)]
    · simp only [impl_ReadBeat.l0]
      rw [if_neg (by omega)]
  | d + 1, i, out, hi, ho => by
    have hlt : i < ws.length := by omega
    have hg := rdb_get hlt
    have hm := hw _ (List.getElem_mem hlt)
    obtain ⟨r, hr, r1, r2⟩ := number_ev ws[i]
    by_cases h : ∃ v : Int, 0 ≤ v ∧ v ≤ 99 ∧ ws[i] = dec v
    · obtain ⟨v, v0, v1, hv⟩ := h
      have er : r = (v, true) := r2 v v0 (by omega) hv
      have ep : parseF ws[i] 0 99 = (v, true) := by rw [hv]; exact parse_yes v0 v1 (by omega)
      subst er
      obtain ⟨R, hR, h1, h2⟩ := both_l0 hn hw d (i + 1) (out ++ [v]) (by omega) (by simp; omega)
      refine ⟨R, hR, Ev.step (f := fun k => (spec_l01Number.f k ws[i]).bind fun bt122 => (if bt122.2 = true then (if bt122.1 > 99 then (some ((([] : List Int)), 5)) else (if out.length < 70368744177664 then (spec_ReadBeat.l0 k ws (out ++ [IntKind.i16.wrap (bt122.1)]) ((i + 1 : Nat) : Int)) else (none))) else (some ((([] : List Int)), 5)))) (fun k => ?_) (Ev.bind hr (Ev.congr (fun k => ?_) h1)), Ev.step (fun k => ?_) h2⟩
      · simp only [spec_ReadBeat.l0]
        rw [if_pos (by omega), if_pos (by omega), hg, wnat (by omega)]
      · rw [if_pos rfl, if_neg (by show ¬ v > 99; omega), if_pos (by omega)]
        show spec_ReadBeat.l0 k ws (out ++ [IntKind.i16.wrap v]) _ = _
        rw [i16v v0 v1]
      · simp only [impl_ReadBeat.l0]
        rw [if_pos (by omega), if_pos (by omega), if_pos (by omega), hg, word_ok hm, ep]
        simp only [Option.bind_some, if_true]
        rw [if_neg (by omega), if_pos (by omega), i16v v0 v1, wnat (by omega)]
    · have ep : (parseF ws[i] 0 99).2 = false := parse_no (fun v a b c => h ⟨v, a, b, c⟩)
      refine ⟨([], 5), by simp, Ev.step (f := fun k => (spec_l01Number.f k ws[i]).bind fun bt122 => (if bt122.2 = true then (if bt122.1 > 99 then (some ((([] : List Int)), 5)) else (if out.length < 70368744177664 then (spec_ReadBeat.l0 k ws (out ++ [IntKind.i16.wrap (bt122.1)]) ((i + 1 : Nat) : Int)) else (none))) else (some ((([] : List Int)), 5)))) (fun k => ?_) (Ev.bind hr (ev_eq fun k => ?_)), Ev.step (f := fun _ => some ([], 5)) (fun k => ?_) (Ev.now _)⟩
      · simp only [spec_ReadBeat.l0]
        rw [if_pos (by omega), if_pos (by omega), hg, wnat (by omega)]
      · cases hb : r.2 with
        | false => rw [if_neg (by decide)]
        | true =>
          obtain ⟨a, b, c⟩ := r1 hb
          rw [if_pos rfl, if_pos]
          by_cases h9 : r.1 > 99
          · exact h9
          · exact absurd ⟨r.1, a, by omega, c⟩ h
      · simp only [impl_ReadBeat.l0]
        rw [if_pos (by omega), if_pos (by omega), if_pos (by omega), hg, word_ok hm]
        simp only [Option.bind_some]
        rw [if_neg (by rw [ep]; decide)]
theorem long_l0 {ws : List ByteArray} (hn : 40 < ws.length) (hw : ∀ w ∈ ws, w.size ≤ 281474976710656) (hn2 : ws.length ≤ 1048577) : ∀ (d i : Nat) (out : List Int), i + d = 40 → out.length = i →
    Ev (fun k => impl_ReadBeat.l0 k out ws (ws.length : Int) (i : Int)) (([] : List Int), 5)
  | d, i, out, hi, ho => by
    have hlt : i < ws.length := by omega
    have hg := rdb_get hlt
    have hm := hw _ (List.getElem_mem hlt)
    cases hb : (parseF ws[i] 0 99).2 with
    | false =>
      refine Ev.step (f := fun _ => some ([], 5)) (fun k => ?_) (Ev.now _)
      simp only [impl_ReadBeat.l0]
      rw [if_pos (by omega), if_pos (by omega), if_pos (by omega), hg, word_ok hm]
      simp only [Option.bind_some]
      rw [if_neg (by rw [hb]; decide)]
    | true =>
      match d, hi with
      | 0, hi =>
        refine Ev.step (f := fun _ => some ([], 5)) (fun k => ?_) (Ev.now _)
        simp only [impl_ReadBeat.l0]
        rw [if_pos (by omega), if_pos (by omega), if_pos (by omega), hg, word_ok hm]
        simp only [Option.bind_some]
        rw [if_pos hb, if_pos (by omega)]
      | d + 1, hi =>
        refine Ev.step (fun k => ?_) (long_l0 hn hw hn2 d (i + 1) (out ++ [IntKind.i16.wrap (parseF ws[i] 0 99).1]) (by omega) (by simp; omega))
        simp only [impl_ReadBeat.l0]
        rw [if_pos (by omega), if_pos (by omega), if_pos (by omega), hg, word_ok hm]
        simp only [Option.bind_some]
        rw [if_pos hb, if_neg (by omega), if_pos (by omega), wnat (by omega)]
theorem both (s : ByteArray) (hs : s.size ≤ 1048576) : ∃ r : List Int × Int, r.1.length ≤ 1000 ∧ Ev (fun k => spec_ReadBeat.f k s) r ∧ Ev (fun k => impl_ReadBeat.f k s) r := by
  have hsl := size_list s
  have hsp := split_ev s 32 hs
  have hi : strings_Split.f s (⟨#[32]⟩ : ByteArray) = some (strs (sp 32 s.data.toList)) := by
    unfold strings_Split.f
    rw [if_pos ⟨by omega, rfl⟩]
    rfl
  have hw : ∀ w ∈ strs (sp 32 s.data.toList), w.size ≤ 281474976710656 := fun w h => by
    unfold strs at h
    obtain ⟨p, hp, rfl⟩ := List.mem_map.1 h
    have := sp_mem_len 32 s.data.toList p hp
    show p.toArray.size ≤ _
    simp only [List.size_toArray]
    omega
  have hlen : (strs (sp 32 s.data.toList)).length ≤ 1048577 := by
    rw [strs_len]
    have := sp_len 32 s.data.toList
    omega
  generalize strs (sp 32 s.data.toList) = ws at *
  by_cases hn : ws.length ≤ 40
  · obtain ⟨r, hr, h1, h2⟩ := both_l0 hn hw ws.length 0 [] (by omega) rfl
    refine ⟨r, hr, ?_, Ev.congr (fun k => ?_) h2⟩
    · unfold spec_ReadBeat.f
      refine Ev.bind hsp (Ev.congr (fun k => ?_) h1)
      rw [if_neg (by omega)]
      rfl
    · unfold impl_ReadBeat.f
      rw [hi]
      rfl
  · refine ⟨([], 5), by simp, ?_, Ev.congr (fun k => ?_) (long_l0 (by omega) hw hlen 40 0 [] (by omega) rfl)⟩
    · unfold spec_ReadBeat.f
      refine Ev.bind hsp (ev_eq fun k => ?_)
      rw [if_pos (by omega)]
    · unfold impl_ReadBeat.f
      rw [hi]
      rfl
end Go.Proofs.YtinpmhmagcmamaaDoor.PFnExactReadBeat
namespace Go.Proofs.YtinpmhmagcmamaaDoor.Pure
open Go.RowKit Go.Proofs.YtinpmhmagcmamaaDoor.PFnExactReadBeat Go.Proofs.YtinpmhmagcmamaaDoorW.PrintWords Go.Proofs.YtinpmhmagcmamaaDoorW.PrintLast Go.Proofs.YtinpmhmagcmamaaDoorW.PrintMore
theorem FnExactReadBeat : laws_FnExactReadBeat.Pure := by
  intro s _
  refine Ev.rounds ?_
  unfold laws_FnExactReadBeat.f
  by_cases h1 : (s.size : Int) > 1048576
  · simp only [h1, if_true]; exact Ev.now _
  simp only [h1, if_false]
  obtain ⟨r, hr, hs, hi⟩ := both s (by omega)
  have e2 : (r.2 != r.2) = false := by simp
  have hq := eqBeat r.1 (by omega)
  have hm := markAll r.1 hr
  have hh := held r.1.length hr
  refine Ev.bind hs (Ev.bind hi (Ev.bind hq ?_))
  simp only [e2, if_true]
  have hj1 : Ev (fun k => laws_FnExactReadBeat.j1 k (mks r.1.length) (1 + (r.1.length : Int)) false) true := by
    refine Ev.step (f := fun k => (laws_heldBeat.f k (mks r.1.length) 1).bind fun t => if t < 0 then some false else if t = 1 + (r.1.length : Int) then some true else some false) (fun k => ?_) (Ev.bind hh (ev_eq fun k => ?_))
    · simp only [laws_FnExactReadBeat.j1, Bool.false_eq_true, if_false]
    · rw [if_neg (by omega), if_pos rfl]
  refine Ev.step (f := fun k => (laws_markBeat.f k r.1 1).bind fun bt181 => ((laws_heldBeat.f k bt181.2 1).bind fun t183 => (if t183 < 0 then (some false) else (if t183 = bt181.1 then ((impl_ReadBeat.f k s).bind fun bt184 => ((laws_eqBeat.f k bt184.1 r.1).bind fun t188 => (if t188 = true then (laws_FnExactReadBeat.j1 k bt181.2 bt181.1 (bt184.2 != r.2)) else (laws_FnExactReadBeat.j1 k bt181.2 bt181.1 true)))) else (some false))))) (fun k => ?_)
    (Ev.bind hm (Ev.bind hh (Ev.congr (f := fun k => (impl_ReadBeat.f k s).bind fun bt184 => ((laws_eqBeat.f k bt184.1 r.1).bind fun t188 => (if t188 = true then (laws_FnExactReadBeat.j1 k (mks r.1.length) (1 + (r.1.length : Int)) (bt184.2 != r.2)) else (laws_FnExactReadBeat.j1 k (mks r.1.length) (1 + (r.1.length : Int)) true)))) (fun k => ?_) (Ev.bind hi (Ev.bind hq (Ev.congr (fun k => ?_) hj1))))))
  · simp only [laws_FnExactReadBeat.j0, Bool.false_eq_true, if_false]
  · rw [if_neg (by omega), if_pos rfl]
  · simp only [e2, if_true]
end Go.Proofs.YtinpmhmagcmamaaDoor.Pure
