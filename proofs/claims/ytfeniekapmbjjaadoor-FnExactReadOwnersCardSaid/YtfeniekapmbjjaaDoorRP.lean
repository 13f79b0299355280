/- Fields and owners read by the program and by the reference: the same, told by the plain functions. No condition but those that each theorem names. -/
import Derived.Test.YtfeniekapmbjjaaDoorRO1
import Derived.Test.YtfeniekapmbjjaaDoorRPL
namespace Go.Proofs.YtfeniekapmbjjaaDoor
open Go.RowKit Go.Proofs.YtfeniekapmbjjaaDoorW.PrintWords Go.Proofs.YtfeniekapmbjjaaDoorW.PrintLast Go.Proofs.YtfeniekapmbjjaaDoorW.PrintMore Go.Proofs.YtfeniekapmbjjaaDoor.PAll
set_option linter.unusedSimpArgs false
set_option linter.unusedVariables false

theorem cutS_back (c : UInt8) (s : ByteArray) : (cutS c s).map (·.data.toList) = sp c s.data.toList := by
  unfold cutS strs
  rw [List.map_map]
  conv => rhs; rw [← List.map_id (sp c s.data.toList)]
  refine List.map_congr_left fun a _ => ?_
  simp
theorem rowB_cut (s : ByteArray) : rowB (cutS 32 s) = s := by
  refine ba_eq ?_
  show (Lib.join ((cutS 32 s).map (·.data.toList)) [32]).toArray.toList = _
  rw [cutS_back, join_jn, jn_sp]
theorem cut_rowB {ws : List ByteArray} (h0 : ws ≠ []) (h : ∀ s ∈ ws, (32 : UInt8) ∉ s.data.toList) : cutS 32 (rowB ws) = ws := by
  unfold cutS
  show strs (sp 32 (Lib.join (ws.map (·.data.toList)) [32]).toArray.toList) = ws
  rw [List.toList_toArray, join_jn, sp_jn 32 _ (by simpa using h0) (fun p hp => by
    obtain ⟨s, hs, rfl⟩ := List.mem_map.1 hp
    exact h s hs), strs_map]

/-! ### cells of a field that is read -/
theorem kind_setK {F : Fld} (h : F.Ok) {i : Nat} (hi : i < 100) (k : Int) (j : Nat) : (F.setK i k).kind j = if j = i then k else F.kind j := by
  unfold Fld.kind Fld.setK
  simp only [List.getD_eq_getElem?_getD, List.getElem?_set]
  by_cases e : i = j
  · subst e; rw [if_pos rfl, if_pos (by rw [h.kl]; exact hi), if_pos rfl]; rfl
  · rw [if_neg e, if_neg (fun e2 => e e2.symm)]
theorem seed_setK (F : Fld) (i : Nat) (k : Int) (j : Nat) : (F.setK i k).seed j = F.seed j := rfl
theorem kind_setS (F : Fld) (i : Nat) (k : Int) (j : Nat) : (F.setS i k).kind j = F.kind j := rfl
theorem seed_setS {F : Fld} (h : F.Ok) {i : Nat} (hi : i < 100) (k : Int) (j : Nat) : (F.setS i k).seed j = if j = i then k else F.seed j := by
  unfold Fld.seed Fld.setS
  simp only [List.getD_eq_getElem?_getD, List.getElem?_set]
  by_cases e : i = j
  · subst e; rw [if_pos rfl, if_pos (by rw [h.sl]; exact hi), if_pos rfl]; rfl
  · rw [if_neg e, if_neg (fun e2 => e e2.symm)]
/-- A cell holds what the word says. -/
structure CellIs (F : Fld) (i : Nat) (s : ByteArray) : Prop where
  k0 : 0 ≤ F.kind i
  k3 : F.kind i ≤ 3
  s0 : 0 ≤ F.seed i
  s1 : F.seed i ≤ 1000
  ks : F.kind i ≠ 0 → F.seed i = 0
  wd : F.word i = s
def Zero (F : Fld) (i : Nat) : Prop := F.kind i = 0 ∧ F.seed i = 0
theorem parse_dec_of {s : ByteArray} {hi : Int} (hh : hi ≤ 1000000) (h : (parseF s 0 hi).2 = true) : s = dec (parseF s 0 hi).1 := by
  rcases Classical.em (∃ v : Int, 0 ≤ v ∧ v ≤ hi ∧ s = dec v) with ⟨v, h0, h1, rfl⟩ | hn
  · rw [parse_yes h0 h1 hh]
  · have := parse_no (s := s) (hi := hi) (fun v h0 h1 e => hn ⟨v, h0, h1, e⟩)
    rw [this] at h
    cases h
theorem cell_is {F G : Fld} {i : Nat} {s : ByteArray} (ho : F.Ok) (hi : i < 100) (hz : Zero F i) (e : cellF F i s = some G) :
    G.wide = F.wide ∧ G.high = F.high ∧ (∀ j, j ≠ i → G.kind j = F.kind j ∧ G.seed j = F.seed j) ∧ CellIs G i s := by
  obtain ⟨z1, z2⟩ := hz
  have fin : ∀ k : Int, 0 < k → k ≤ 3 → (if k = 0 then dec 0 else if k = 1 then hB else if k = 2 then pB else tB) = s → some (F.setK i k) = some G → G.wide = F.wide ∧ G.high = F.high ∧ (∀ j, j ≠ i → G.kind j = F.kind j ∧ G.seed j = F.seed j) ∧ CellIs G i s := fun k h0 h1 hs e => by
    cases e
    have ek : (F.setK i k).kind i = k := by rw [kind_setK ho hi, if_pos rfl]
    have es : (F.setK i k).seed i = 0 := z2
    refine ⟨rfl, rfl, fun j hj => ⟨by rw [kind_setK ho hi, if_neg hj], rfl⟩, ⟨by rw [ek]; omega, by rw [ek]; exact h1, by rw [es]; decide, by rw [es]; decide, fun _ => es, ?_⟩⟩
    unfold Fld.word
    rw [ek, if_neg (by omega : ¬ k = 0)]
    rw [if_neg (by omega : ¬ k = 0)] at hs
    exact hs
  unfold cellF at e
  split at e
  · rename_i h; exact fin 1 (by decide) (by decide) (by rw [h]; rfl) e
  · split at e
    · rename_i h; exact fin 2 (by decide) (by decide) (by rw [h]; rfl) e
    · split at e
      · rename_i h; exact fin 3 (by decide) (by decide) (by rw [h]; rfl) e
      · split at e
        · rename_i hp
          obtain ⟨b0, b1⟩ := parse_bounds hp
          have hd := parse_dec_of (by decide) hp
          generalize (parseF s 0 1000).1 = v at *
          cases e
          have ek : (F.setS i v).kind i = 0 := z1
          have es : (F.setS i v).seed i = v := by rw [seed_setS ho hi, if_pos rfl]
          refine ⟨rfl, rfl, fun j hj => ⟨rfl, by rw [seed_setS ho hi, if_neg hj]⟩, ⟨by rw [ek]; decide, by rw [ek]; decide, by rw [es]; exact b0, by rw [es]; exact b1, fun h => absurd ek h, ?_⟩⟩
          unfold Fld.word
          rw [if_pos ek, es, hd]
        · cases e
theorem cellIs_same {F G : Fld} {i : Nat} {s : ByteArray} (h : CellIs F i s) (hk : G.kind i = F.kind i) (hs : G.seed i = F.seed i) : CellIs G i s :=
  ⟨by rw [hk]; exact h.k0, by rw [hk]; exact h.k3, by rw [hs]; exact h.s0, by rw [hs]; exact h.s1, fun e => by rw [hs]; exact h.ks (by rw [← hk]; exact e), by
    have := h.wd
    unfold Fld.word at this ⊢
    rw [hk, hs]
    exact this⟩
theorem row_is {y : Nat} (hy : y < 10) : ∀ (ws : List ByteArray) (F G : Fld) (x : Nat), F.Ok → x + ws.length ≤ 10 → (∀ j, x + 10 * y ≤ j → Zero F j) → rowF y F x ws = some G →
    G.wide = F.wide ∧ G.high = F.high ∧ (∀ j, j < x + 10 * y → G.kind j = F.kind j ∧ G.seed j = F.seed j) ∧ (∀ j, x + ws.length + 10 * y ≤ j → Zero G j) ∧
    (∀ i (h : i < ws.length), CellIs G (x + i + 10 * y) ws[i])
  | [], F, G, x, ho, hl, hz, e => by
    simp only [rowF] at e
    cases e
    exact ⟨rfl, rfl, fun _ _ => ⟨rfl, rfl⟩, fun j hj => hz j (by simpa using hj), fun i h => by simp at h⟩
  | s :: l, F, G, x, ho, hl, hz, e => by
    simp only [rowF] at e
    rw [List.length_cons] at hl
    cases hc : cellF F (x + 10 * y) s with
    | none => rw [hc] at e; cases e
    | some F2 =>
      rw [hc] at e
      have e : rowF y F2 (x + 1) l = some G := e
      obtain ⟨a1, a2, a3, a4⟩ := cell_is ho (by omega) (hz _ (Nat.le_refl _)) hc
      obtain ⟨b1, b2, b3, b4, b5⟩ := row_is hy l F2 G (x + 1) (cellF_ok ho hc) (by omega) (fun j hj => by
        obtain ⟨c1, c2⟩ := a3 j (by omega)
        obtain ⟨d1, d2⟩ := hz j (by omega)
        exact ⟨c1.trans d1, c2.trans d2⟩) e
      refine ⟨b1.trans a1, b2.trans a2, fun j hj => ?_, fun j hj => b4 j (by rw [List.length_cons] at hj; omega), fun i hi => ?_⟩
      · obtain ⟨c1, c2⟩ := b3 j (by omega)
        obtain ⟨d1, d2⟩ := a3 j (by omega)
        exact ⟨c1.trans d1, c2.trans d2⟩
      · cases i with
        | zero =>
          obtain ⟨c1, c2⟩ := b3 (x + 10 * y) (by omega)
          exact cellIs_same a4 c1 c2
        | succ i =>
          have := b5 i (by simpa using hi)
          rw [show x + (i + 1) + 10 * y = x + 1 + i + 10 * y by omega]
          exact this
/-- What lines say of a field, from the y-th on. -/
theorem lines_is : ∀ (ls : List ByteArray) (F G : Fld) (y : Nat), F.Ok → y + ls.length ≤ 10 → (∀ j, 10 * y ≤ j → Zero F j) → linesF true F y ls = some G →
    (0 < y ∨ ls = [] → G.wide = F.wide) ∧ G.high = F.high ∧ (∀ j, j < 10 * y → G.kind j = F.kind j ∧ G.seed j = F.seed j) ∧ (∀ j, 10 * (y + ls.length) ≤ j → Zero G j) ∧
    (∀ i (h : i < ls.length), ((cutS 32 ls[i]).length : Int) = G.wide ∧ (cutS 32 ls[i]).length ≤ 10 ∧ (∀ x (hx : x < (cutS 32 ls[i]).length), CellIs G (x + 10 * (y + i)) (cutS 32 ls[i])[x]) ∧
      (∀ x, (cutS 32 ls[i]).length ≤ x → x < 10 → Zero G (x + 10 * (y + i))))
  | [], F, G, y, ho, hl, hz, e => by
    simp only [linesF] at e
    cases e
    exact ⟨fun _ => rfl, rfl, fun _ _ => ⟨rfl, rfl⟩, fun j hj => hz j (by simpa using hj), fun i h => by simp at h⟩
  | s :: l, F, G, y, ho, hl, hz, e => by
    simp only [linesF] at e
    rw [List.length_cons] at hl
    split at e
    · cases e
    · rename_i hc
      have hc1 : ¬ 10 < (cutS 32 s).length := fun h => hc (.inl h)
      have hc2 : 0 < y → ((cutS 32 s).length : Int) = F.wide := fun h => Decidable.of_not_not fun h2 => hc (.inr ⟨trivial, h, h2⟩)
      obtain ⟨ws, hws⟩ : ∃ ws, cutS 32 s = ws := ⟨_, rfl⟩
      rw [hws] at hc1 hc2 e
      clear hc
      cases hr : rowF y (F.setW ws.length) 0 ws with
      | none => rw [hr] at e; cases e
      | some F2 =>
        rw [hr] at e
        have e : linesF true F2 (y + 1) l = some G := e
        have hoW := ho.setW (k := (ws.length : Int)) (by omega) (by omega)
        obtain ⟨a1, a2, a3, a4, a5⟩ := row_is (by omega) ws _ F2 0 hoW (by omega) (fun j hj => hz j (by omega)) hr
        obtain ⟨b1, b2, b3, b4, b5⟩ := lines_is l F2 G (y + 1) (rowF_ok _ _ _ _ hoW hr) (by omega) (fun j hj => a4 j (by omega)) e
        have hw : G.wide = (ws.length : Int) := (b1 (.inl (by omega))).trans a1
        refine ⟨fun h => ?_, b2.trans a2, fun j hj => ?_, fun j hj => b4 j (by rw [List.length_cons] at hj; omega), fun i hi => ?_⟩
        · rcases h with h | h
          · rw [hw, hc2 h]
          · cases h
        · obtain ⟨c1, c2⟩ := b3 j (by omega)
          obtain ⟨d1, d2⟩ := a3 j (by omega)
          exact ⟨c1.trans d1, c2.trans d2⟩
        · cases i with
          | zero =>
            show ((cutS 32 s).length : Int) = G.wide ∧ (cutS 32 s).length ≤ 10 ∧ (∀ x (hx : x < (cutS 32 s).length), CellIs G (x + 10 * y) (cutS 32 s)[x]) ∧ (∀ x, (cutS 32 s).length ≤ x → x < 10 → Zero G (x + 10 * y))
            rw [hws]
            refine ⟨hw.symm, by omega, fun x hx => ?_, fun x h1 h2 => ?_⟩
            · have h3 := a5 x hx
              rw [Nat.zero_add] at h3
              obtain ⟨c1, c2⟩ := b3 (x + 10 * y) (by omega)
              exact cellIs_same h3 c1 c2
            · obtain ⟨c1, c2⟩ := b3 (x + 10 * y) (by omega)
              obtain ⟨d1, d2⟩ := a4 (x + 10 * y) (by omega)
              exact ⟨c1.trans d1, c2.trans d2⟩
          | succ i =>
            have := b5 i (by simpa using hi)
            rw [show y + (i + 1) = y + 1 + i by omega]
            exact this
/-! ### a field's text cut again -/
theorem dec_byte (v : Int) {b : UInt8} (h : b ∈ (dec v).data.toList) : 48 ≤ b.toNat := by
  unfold dec at h
  rw [List.toList_toArray] at h
  have := List.all_eq_true.1 (dec_spells v.toNat).1 b h
  unfold isDig at this
  simp only [Bool.and_eq_true, decide_eq_true_eq] at this
  exact this.1
theorem word_byte (F : Fld) (i : Nat) {b : UInt8} (h : b ∈ (F.word i).data.toList) : 48 ≤ b.toNat := by
  unfold Fld.word at h
  split at h
  · exact dec_byte _ h
  · split at h
    · have : b = 104 := by simpa using h
      subst this; decide
    · split at h
      · have : b = 112 := by simpa using h
        subst this; decide
      · have : b = 116 := by simpa using h
        subst this; decide
theorem byte_ne {b c : UInt8} (h : 48 ≤ b.toNat) (hc : c.toNat < 48) : c ≠ b := fun e => by subst e; omega
theorem jn_byte {c d : UInt8} (hcd : d ≠ c) : ∀ x : List (List UInt8), (∀ p ∈ x, d ∉ p) → d ∉ jn c x
  | [], _ => by simp [jn]
  | [p], h => h p (by simp)
  | p :: q :: r, h => by
    show d ∉ p ++ c :: jn c (q :: r)
    simp only [List.mem_append, List.mem_cons, not_or]
    exact ⟨h p (by simp), hcd, jn_byte hcd (q :: r) (fun s hs => h s (by simp only [List.mem_cons] at hs ⊢; exact .inr hs))⟩
theorem wordsOf_get (f : Nat → ByteArray) (y n x : Nat) (h : x < (wordsOf f y n).length) : (wordsOf f y n)[x] = f (x + 10 * y) := by simp [wordsOf]
def rowsOf (f : Nat → ByteArray) (W H : Nat) : List ByteArray := (List.range H).map fun y => rowB (wordsOf f y W)
theorem rowsOf_len (f : Nat → ByteArray) (W H : Nat) : (rowsOf f W H).length = H := by simp [rowsOf]
theorem grid_endl (f : Nat → ByteArray) (W : Nat) : ∀ H, (gridB f W H).data.toList = endl ((rowsOf f W H).map (·.data.toList))
  | 0 => rfl
  | H + 1 => by
    show ((gridB f W H ++ rowB (wordsOf f H W)) ++ lineB).data.toList = _
    have e : rowsOf f W (H + 1) = rowsOf f W H ++ [rowB (wordsOf f H W)] := by simp [rowsOf, List.range_succ]
    rw [e, List.map_append]
    show _ = endl (_ ++ [_])
    rw [endl_snoc, ← grid_endl f W H]
    simp [lineB]
theorem row_nl {f : Nat → ByteArray} (hf : ∀ i b, b ∈ (f i).data.toList → 48 ≤ b.toNat) (y W : Nat) : (10 : UInt8) ∉ (rowB (wordsOf f y W)).data.toList := by
  show (10 : UInt8) ∉ (Lib.join ((wordsOf f y W).map (·.data.toList)) [32]).toArray.toList
  rw [List.toList_toArray, join_jn]
  refine jn_byte (by decide) _ fun p hp => ?_
  obtain ⟨s, hs, rfl⟩ := List.mem_map.1 hp
  unfold wordsOf at hs
  obtain ⟨x, -, rfl⟩ := List.mem_map.1 hs
  exact fun h => byte_ne (hf _ _ h) (by decide) rfl
theorem cut_grid {f : Nat → ByteArray} (hf : ∀ i b, b ∈ (f i).data.toList → 48 ≤ b.toNat) (W H : Nat) : cutS 10 (gridB f W H) = rowsOf f W H ++ [emptyB] := by
  unfold cutS
  rw [grid_endl, sp_endl _ (fun p hp => by
    obtain ⟨s, hs, rfl⟩ := List.mem_map.1 hp
    unfold rowsOf at hs
    obtain ⟨y, -, rfl⟩ := List.mem_map.1 hs
    exact row_nl hf y W)]
  unfold strs
  rw [List.map_append]
  have := strs_map (x := rowsOf f W H)
  unfold strs at this
  rw [this]
  rfl
theorem cut_row {f : Nat → ByteArray} (hf : ∀ i b, b ∈ (f i).data.toList → 48 ≤ b.toNat) (y : Nat) {W : Nat} (hW : 0 < W) : cutS 32 (rowB (wordsOf f y W)) = wordsOf f y W :=
  cut_rowB (fun e => by have := wordsOf_len f y W; rw [e] at this; simp at this; omega) (fun s hs h => by
    unfold wordsOf at hs
    obtain ⟨x, -, rfl⟩ := List.mem_map.1 hs
    exact byte_ne (hf _ _ h) (by decide) rfl)

/-! ### strict or not -/
theorem row_wide {y : Nat} : ∀ (ws : List ByteArray) (F G : Fld) (x : Nat), rowF y F x ws = some G → G.wide = F.wide ∧ G.high = F.high
  | [], F, G, x, e => by simp only [rowF] at e; cases e; exact ⟨rfl, rfl⟩
  | s :: l, F, G, x, e => by
    simp only [rowF] at e
    cases hc : cellF F (x + 10 * y) s with
    | none => rw [hc] at e; cases e
    | some F2 =>
      rw [hc] at e
      obtain ⟨a, b⟩ := row_wide l F2 G (x + 1) e
      have hh : F2.wide = F.wide ∧ F2.high = F.high := by
        unfold cellF at hc
        split at hc
        · cases hc; exact ⟨rfl, rfl⟩
        · split at hc
          · cases hc; exact ⟨rfl, rfl⟩
          · split at hc
            · cases hc; exact ⟨rfl, rfl⟩
            · split at hc
              · cases hc; exact ⟨rfl, rfl⟩
              · cases hc
      exact ⟨a.trans hh.1, b.trans hh.2⟩
theorem lines_loose : ∀ (ls : List ByteArray) (F G : Fld) (y : Nat), linesF true F y ls = some G → linesF false F y ls = some G
  | [], F, G, y, e => e
  | s :: l, F, G, y, e => by
    simp only [linesF] at e ⊢
    split at e
    · cases e
    · rename_i hc
      rw [if_neg (by rintro (h | h); exact hc (.inl h); exact absurd h.1 (by decide))]
      cases hr : rowF y (F.setW (cutS 32 s).length) 0 (cutS 32 s) with
      | none => rw [hr] at e; cases e
      | some F2 =>
        rw [hr] at e
        exact lines_loose l F2 G (y + 1) e
theorem lines_strict {m : Nat} : ∀ (ls : List ByteArray) (F G : Fld) (y : Nat), (∀ s ∈ ls, (cutS 32 s).length = m) → (0 < y → F.wide = m) → linesF false F y ls = some G → linesF true F y ls = some G
  | [], F, G, y, _, _, e => e
  | s :: l, F, G, y, hm, hw, e => by
    simp only [linesF] at e ⊢
    have h1 := hm s (by simp)
    split at e
    · cases e
    · rename_i hc
      rw [if_neg (by
        rintro (h | ⟨-, h2, h3⟩)
        · exact hc (.inl h)
        · exact h3 (by rw [h1, hw h2]))]
      cases hr : rowF y (F.setW (cutS 32 s).length) 0 (cutS 32 s) with
      | none => rw [hr] at e; cases e
      | some F2 =>
        rw [hr] at e
        exact lines_strict l F2 G (y + 1) (fun s hs => hm s (by simp [hs])) (fun _ => by rw [(row_wide _ _ _ _ hr).1]; show ((cutS 32 s).length : Int) = _; rw [h1]) e

/-! ### the two readings are the same -/
theorem cutS_join (t : ByteArray) {ls : List ByteArray} (h : cutS 10 t = ls ++ [emptyB]) : t.data.toList = endl (ls.map (·.data.toList)) := by
  have h1 := cutS_back 10 t
  rw [h, List.map_append] at h1
  have h2 := jn_sp 10 t.data.toList
  rw [← h1, jn_endl _ (by simp)] at h2
  rw [← h2]
  show _ ++ jn 10 [[]] = _
  simp [jn]
theorem zfld_zero (n : Nat) (j : Nat) : Zero (Fld.tall n) j := by
  have h1 : ∀ k, (List.replicate 100 (0 : Int)).getD k 0 = 0 := fun k => by
    rw [List.getD_eq_getElem?_getD, List.getElem?_replicate]
    split <;> rfl
  exact ⟨h1 j, h1 j⟩
theorem sRead_full {t : ByteArray} {G : Fld} (h : sRead t = some G) : G.Ok ∧ G.Valid ∧ fldText G = t := by
  unfold sRead at h
  split at h
  · cases h
  · rename_i hc
    obtain ⟨ls, hls⟩ : ∃ ls, (cutS 10 t).take ((cutS 10 t).length - 1) = ls := ⟨_, rfl⟩
    have hp := cutS_pos 10 t
    have hlast : (cutS 10 t).getD ((cutS 10 t).length - 1) emptyB = emptyB := Decidable.of_not_not fun e => hc (.inl e)
    have hn1 : ¬ (cutS 10 t).length - 1 < 1 := fun e => hc (.inr (.inl e))
    have hn2 : ¬ 10 < (cutS 10 t).length - 1 := fun e => hc (.inr (.inr e))
    have hlen : ls.length = (cutS 10 t).length - 1 := by rw [← hls, List.length_take]; omega
    have hcut : cutS 10 t = ls ++ [emptyB] := by
      rw [← hls]
      conv => lhs; rw [← List.take_append_drop ((cutS 10 t).length - 1) (cutS 10 t)]
      congr 1
      rw [List.drop_eq_getElem_cons (by omega), List.drop_eq_nil_iff.2 (by omega)]
      rw [List.getD_eq_getElem?_getD, List.getElem?_eq_getElem (by omega)] at hlast
      have hlast : (cutS 10 t)[(cutS 10 t).length - 1] = emptyB := hlast
      rw [hlast]
    rw [hls] at h
    have hlen2 : (cutS 10 t).length - 1 = ls.length := hlen.symm
    rw [hlen2] at h hn1 hn2
    have htext := cutS_join t hcut
    clear hc hlast hlen hlen2 hp hls
    have hoG := linesF_ok _ _ _ _ (tall_ok (by omega)) h
    obtain ⟨-, hh, -, hz, hl⟩ := lines_is ls _ G 0 (tall_ok (n := ls.length) (by omega)) (by omega) (fun j _ => zfld_zero _ j) h
    have hh : G.high = (ls.length : Int) := hh
    obtain ⟨l0, l1, l2, l3⟩ := hl 0 (by omega)
    obtain ⟨W, hW⟩ : ∃ W : Nat, (cutS 32 ls[0]).length = W := ⟨_, rfl⟩
    have hW1 := cutS_pos 32 ls[0]
    rw [hW] at l0 l1 hW1
    have hw : ∀ i (h : i < ls.length), (cutS 32 ls[i]).length = W := fun i hi => by have := (hl i hi).1; omega
    have hval : G.Valid := by
      refine ⟨inB_iff.2 (by omega), inB_iff.2 (by omega), fun j hj => ?_⟩
      by_cases hy : j / 10 < ls.length
      · obtain ⟨-, -, c1, c2⟩ := hl (j / 10) hy
        have ej : j % 10 + 10 * (0 + j / 10) = j := by omega
        by_cases hx : j % 10 < W
        · have h1 := c1 (j % 10) (by rw [hw]; exact hx)
          rw [ej] at h1
          have hhas : G.has (j : Int) = true := by
            unfold Fld.has
            have e1 : inB (j : Int) 0 99 = true := inB_iff.2 (by omega)
            have e2 : decide ((j : Int) % 10 < G.wide) = true := decide_eq_true (by omega)
            have e3 : decide ((j : Int) / 10 < G.high) = true := decide_eq_true (by omega)
            rw [e1, e2, e3]; rfl
          exact ⟨h1.k0, h1.k3, h1.s0, h1.s1, h1.ks, fun e => (by rw [hhas] at e; cases e), fun e => (by rw [hhas] at e; cases e)⟩
        · have h1 := c2 (j % 10) (by rw [hw]; omega) (by omega)
          rw [ej] at h1
          obtain ⟨z1, z2⟩ := h1
          exact ⟨by omega, by omega, by omega, by omega, fun _ => z2, fun _ => z1, fun _ => z2⟩
      · obtain ⟨z1, z2⟩ := hz j (by omega)
        exact ⟨by omega, by omega, by omega, by omega, fun _ => z2, fun _ => z1, fun _ => z2⟩
    refine ⟨hoG, hval, ?_⟩
    refine ba_eq ?_
    unfold fldText
    have e1 : G.wide.toNat = W := by omega
    have e2 : G.high.toNat = ls.length := by omega
    rw [grid_endl, htext, e1, e2]
    congr 1
    refine List.ext_getElem (by simp [rowsOf_len]) fun i h1 h2 => ?_
    have hi : i < ls.length := by simpa using h2
    simp only [rowsOf, List.getElem_map, List.getElem_range]
    have : rowB (wordsOf G.word i W) = ls[i] := by
      rw [← rowB_cut ls[i]]
      congr 1
      refine List.ext_getElem (by rw [wordsOf_len, hw]) fun x h3 h4 => ?_
      have h5 := ((hl i hi).2.2.1 x h4).wd
      rw [wordsOf_get, ← h5, Nat.zero_add]
    rw [this]
theorem read_same (t : ByteArray) : iRead t = sRead t := by
  cases hs : sRead t with
  | some G =>
    obtain ⟨ho, hv, ht⟩ := sRead_full hs
    have hsz : t.size ≤ 510 := by rw [← ht]; exact fldText_size G ho hv
    unfold sRead at hs
    split at hs
    · cases hs
    · rename_i hc
      unfold iRead
      rw [if_neg (by rintro (h | h); omega; exact hc (.inr h)), lines_loose _ _ _ _ hs]
      exact keepF_yes hv ht
  | none =>
    cases hi : iRead t with
    | none => rfl
    | some G =>
      exfalso
      unfold iRead at hi
      split at hi
      · cases hi
      · rename_i hc
        have hn1 : ¬ (cutS 10 t).length - 1 < 1 := fun e => hc (.inr (.inl e))
        have hn2 : ¬ 10 < (cutS 10 t).length - 1 := fun e => hc (.inr (.inr e))
        cases hl : linesF false (Fld.tall ((cutS 10 t).length - 1)) 0 ((cutS 10 t).take ((cutS 10 t).length - 1)) with
        | none => rw [hl] at hi; cases hi
        | some F =>
          rw [hl] at hi
          have hi : keepF t F = some G := hi
          by_cases hv : F.Valid ∧ fldText F = t
          · obtain ⟨hv, ht⟩ := hv
            obtain ⟨W, H, hW, hH, hW1, hH1⟩ := sides hv
            have et : t = gridB F.word W H := by rw [← ht]; unfold fldText; rw [hW, hH]; simp
            have hcut : cutS 10 t = rowsOf F.word W H ++ [emptyB] := by rw [et]; exact cut_grid (fun i b hb => word_byte F i hb) W H
            have hlen : (cutS 10 t).length - 1 = H := by rw [hcut]; simp [rowsOf_len]
            have htake : (cutS 10 t).take ((cutS 10 t).length - 1) = rowsOf F.word W H := by rw [hlen, hcut, List.take_append_of_le_length (by rw [rowsOf_len]; omega), List.take_of_length_le (by rw [rowsOf_len]; omega)]
            have hst := lines_strict (m := W) _ _ _ _ (fun s hs => by
              rw [htake] at hs
              unfold rowsOf at hs
              obtain ⟨y, -, rfl⟩ := List.mem_map.1 hs
              rw [cut_row (fun i b hb => word_byte F i hb) y (by omega), wordsOf_len]) (fun h => absurd h (by decide)) hl
            have hlast : (cutS 10 t).getD ((cutS 10 t).length - 1) emptyB = emptyB := by
              rw [hlen, hcut, List.getD_eq_getElem?_getD, List.getElem?_append_right (by rw [rowsOf_len]; omega), rowsOf_len, Nat.sub_self]
              rfl
            unfold sRead at hs
            rw [if_neg (by rintro (h | h | h); exact h hlast; exact hn1 h; exact hn2 h), hst] at hs
            cases hs
          · rw [keepF_no hv] at hi; cases hi
/-! ### owners -/
theorem parse_empty : (parseF emptyB 0 9).2 = false := parse_no fun v _ _ e => by
  have h : (dec v).data.toList = [] := by rw [← e]; rfl
  unfold dec at h
  rw [List.toList_toArray] at h
  exact (dec_spells v.toNat).2.2.1 h
theorem cut_empty (c : UInt8) : cutS c emptyB = [emptyB] := rfl
theorem own_empty (l : List ByteArray) (F : Fld) : ownersOf (emptyB :: l) F = none := by
  unfold ownersOf
  split
  · rfl
  · have e : linesO F.wide bareO 0 (emptyB :: l) = none := by
      have ec : (cutS 32 emptyB) = [emptyB] := cut_empty 32
      unfold linesO
      rw [ec]
      by_cases hc : (([emptyB] : List ByteArray).length : Int) ≠ F.wide
      · rw [if_pos hc]
      · rw [if_neg hc]
        simp only [rowO, parse_empty]
        rfl
    rw [e]
    rfl
theorem upTo_strs : ∀ x : List (List UInt8), upTo (strs x) = strs (upL x)
  | [] => rfl
  | p :: r => by
    show upTo (⟨p.toArray⟩ :: strs r) = _
    have hp : ((⟨p.toArray⟩ : ByteArray) = emptyB) ↔ p = [] := by
      constructor
      · intro e
        have := congrArg (fun b : ByteArray => b.data.toList) e
        simpa [emptyB] using this
      · intro e; subst e; rfl
    simp only [upTo, upL, hp]
    split
    · rfl
    · rw [upTo_strs r]
      rfl
theorem lens_endl : ∀ x : List (List UInt8), lensOf (strs x) = (endl x).length
  | [] => rfl
  | p :: r => by
    show p.toArray.size + 1 + lensOf (strs r) = (p ++ 10 :: endl r).length
    rw [lens_endl r, List.size_toArray, List.length_append, List.length_cons]
    omega
theorem size_data (t : ByteArray) : t.size = t.data.toList.length := by rw [Lib.size_eq]
theorem iRead_empty : iRead emptyB = none := by
  unfold iRead
  rw [if_pos]
  rw [cut_empty]
  exact .inr (.inl (by decide))
theorem sRead_high {t : ByteArray} {F : Fld} (h : sRead t = some F) : F.high ≠ 0 := by
  have := inB_iff.1 (sRead_full h).2.1.h
  omega
theorem own_same (t : ByteArray) : iOwn t = sOwn t := by
  obtain ⟨x, hx⟩ : ∃ x, sp 10 t.data.toList = x := ⟨_, rfl⟩
  have hne : x ≠ [] := by rw [← hx]; exact sp_ne _ _
  have hm : ∀ p ∈ x, (10 : UInt8) ∉ p := by rw [← hx]; exact sp_mem _ _
  have hj : jn 10 x = t.data.toList := by rw [← hx]; exact jn_sp _ _
  obtain ⟨d1, d2⟩ := cut_dbl x hm
  rw [hj] at d1 d2
  have eL : cutS 10 t = strs x := by unfold cutS; rw [hx]
  have eU : upTo (cutS 10 t) = strs (upL x) := by rw [eL, upTo_strs]
  have eN : lensOf (upTo (cutS 10 t)) = (endl (upL x)).length := by rw [eU, lens_endl]
  have none2 : cut2 t = emptyB → iOwn t = none := fun e => by unfold iOwn; rw [e, iRead_empty]; rfl
  have hsz := size_data t
  cases x with
  | nil => exact absurd rfl hne
  | cons p r =>
    by_cases hp : p = []
    · -- a first line that is empty: neither reads it
      subst hp
      have eU2 : upTo (cutS 10 t) = [] := by rw [eU]; rfl
      have hS : sOwn t = none := by
        unfold sOwn
        split
        · rfl
        · rw [eU2]
          cases hs : sRead (t.extract (lensOf [] + 1) t.size) with
          | none => rfl
          | some F =>
            show ownersOf [] F = none
            unfold ownersOf
            rw [if_pos]
            intro e
            exact sRead_high hs e.symm
      rw [hS]
      cases hd : dbl ([] :: r) with
      | none =>
        rw [hd] at d2
        exact none2 (by unfold cut2; rw [d2]; rfl)
      | some z =>
        rw [hd] at d1
        have hz := dbl_is _ z hd
        obtain ⟨n1, n2⟩ := dbl_ne _ z hd
        obtain ⟨a, b⟩ := z
        have d1 : (Lib.cut t.data.toList [10, 10]).1 = jn 10 a := d1
        cases a with
        | nil => exact absurd rfl n1
        | cons q a =>
          have hz : ([] : List UInt8) :: r = q :: (a ++ [] :: b) := hz
          obtain ⟨rfl, hz⟩ := List.cons.inj hz
          have e1 : cutS 10 (cut1 t) = emptyB :: strs a := by
            unfold cutS cut1
            rw [d1, List.toList_toArray, sp_jn 10 _ (by simp) (fun s hs => hm s (by
              rcases List.mem_cons.1 hs with rfl | hs
              · simp
              · rw [hz]; simp [hs]))]
            rfl
          unfold iOwn
          rw [e1]
          cases iRead (cut2 t) with
          | none => rfl
          | some F => exact own_empty _ F
    · have hu := up_dbl (p :: r) p r rfl hp
      cases hd : dbl (p :: r) with
      | none =>
        rw [hd] at hu d2
        rw [none2 (by unfold cut2; rw [d2]; rfl)]
        have hS : t.size < lensOf (upTo (cutS 10 t)) + 1 := by
          rw [eN, hsz, ← hj]
          rcases hu with hu | hu
          · rw [hu]
            have h1 := jn_endl [[]] (by simp) (p :: r)
            have : ∀ y : List (List UInt8), y ≠ [] → (endl y).length = (jn 10 y).length + 1 := fun y => by
              induction y with
              | nil => exact fun h => absurd rfl h
              | cons s y ih =>
                intro _
                cases y with
                | nil => show (s ++ [10]).length = s.length + 1; simp
                | cons s2 y =>
                  have ih := ih (by simp)
                  show (s ++ 10 :: endl (s2 :: y)).length = (s ++ 10 :: jn 10 (s2 :: y)).length + 1
                  rw [List.length_append, List.length_cons, ih, List.length_append, List.length_cons]
                  omega
            rw [this _ (by simp)]
            omega
          · conv => lhs; rw [hu]
            rw [jn_endl [[]] (by simp)]
            simp [jn]
        unfold sOwn
        rw [if_pos hS]
      | some z =>
        rw [hd] at hu d1 d2
        have hz := dbl_is _ z hd
        obtain ⟨n1, n2⟩ := dbl_ne _ z hd
        obtain ⟨a, b⟩ := z
        have hu : upL (p :: r) = a := hu
        have d1 : (Lib.cut t.data.toList [10, 10]).1 = jn 10 a := d1
        have d2 : (Lib.cut t.data.toList [10, 10]).2.1 = jn 10 b := d2
        have hz : p :: r = a ++ [] :: b := hz
        have n1 : a ≠ [] := n1
        have n2 : b ≠ [] := n2
        have e1 : cutS 10 (cut1 t) = strs a := by
          unfold cutS cut1
          rw [d1, List.toList_toArray, sp_jn 10 _ n1 (fun s hs => hm s (by rw [hz]; simp [hs]))]
        have e3 : t.data.toList = endl a ++ (10 :: jn 10 b) := by
          rw [← hj, hz]
          show jn 10 (a ++ ([] :: b)) = _
          rw [jn_endl _ (by simp), jn_cons 10 [] n2]
          rfl
        have e2 : t.extract (lensOf (upTo (cutS 10 t)) + 1) t.size = cut2 t := by
          refine ba_eq ?_
          rw [ext_data, eN, hu, hsz, List.take_of_length_le (Nat.le_refl _), e3]
          unfold cut2
          rw [d2, List.toList_toArray]
          simp [List.drop_append]
        have hS : ¬ t.size < lensOf (upTo (cutS 10 t)) + 1 := by
          rw [eN, hu, hsz, e3, List.length_append, List.length_cons]
          omega
        unfold sOwn iOwn
        rw [if_neg hS, e2, ← read_same, e1, eU, hu]
end Go.Proofs.YtfeniekapmbjjaaDoor
