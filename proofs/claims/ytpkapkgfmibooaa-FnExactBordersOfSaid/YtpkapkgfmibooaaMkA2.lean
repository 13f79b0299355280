/- A slice of pairs of whole numbers: it equals itself; the marks that the law sets on it and finds again. No condition but a bound of the length. -/
import Derived.Test.YtpkapkgfmibooaaBO
namespace Go.Proofs.Ytpkapkgfmibooaa.PAll
open Go.RowKit Go.Proofs.Ytpkapkgfmibooaa Go.Proofs.YtpkapkgfmibooaaW.PrintWords Go.Proofs.YtpkapkgfmibooaaW.PrintLast Go.Proofs.YtpkapkgfmibooaaW.PrintMore
set_option linter.unusedSimpArgs false
set_option linter.unusedVariables false

def mkTo (xs : List (Int × Int)) (c : Int) : Nat → List (Int × Int)
  | 0 => xs
  | n + 1 => (mkTo xs c n).set n (c + 2 * (n : Int), c + 2 * (n : Int) + 1)
theorem mkTo_len (xs : List (Int × Int)) (c : Int) : ∀ n, (mkTo xs c n).length = xs.length
  | 0 => rfl
  | n + 1 => by simp only [mkTo, List.length_set]; exact mkTo_len xs c n
theorem mkTo_get (xs : List (Int × Int)) (c : Int) : ∀ n i, i < n → i < xs.length → (mkTo xs c n)[i]? = some (c + 2 * (i : Int), c + 2 * (i : Int) + 1)
  | 0, i, h, _ => absurd h (Nat.not_lt_zero i)
  | n + 1, i, h, hl => by
    simp only [mkTo]
    rw [List.getElem?_set]
    by_cases e : n = i
    · subst e
      rw [if_pos rfl, if_pos (by rw [mkTo_len]; exact hl)]
    · rw [if_neg e]
      exact mkTo_get xs c n i (by omega) hl
def inMk (l : List (Int × Int)) (c : Int) : Prop := l.length ≤ 1048576 ∧ 0 ≤ c ∧ c ≤ 1000
instance (l : List (Int × Int)) (c : Int) : Decidable (inMk l c) := inferInstanceAs (Decidable (_ ∧ _))
def markA2f (_ : Nat) (l : List (Int × Int)) (c : Int) : Option (Int × List (Int × Int)) := if inMk l c then some (c + 2 * (l.length : Int), mkTo l c l.length) else none
def isMk (l : List (Int × Int)) (c : Int) : Prop := ∀ i, i < l.length → l[i]? = some (c + 2 * (i : Int), c + 2 * (i : Int) + 1)
open Classical in
noncomputable def heldA2f (_ : Nat) (l : List (Int × Int)) (c : Int) : Option Int := if inMk l c ∧ isMk l c then some (c + 2 * (l.length : Int)) else none
theorem marks_A2 (l : List (Int × Int)) (h : l.length ≤ 1048576) : ∃ k m y, markA2f k l 1 = some (m, y) ∧ y.length = l.length ∧ heldA2f k y 1 = some m ∧ 1 ≤ m := by
  have hl := mkTo_len l 1 l.length
  refine ⟨0, 1 + 2 * (l.length : Int), mkTo l 1 l.length, ?_, hl, ?_, by omega⟩
  · unfold markA2f
    rw [if_pos ⟨h, by omega, by omega⟩]
  · have hm : isMk (mkTo l 1 l.length) 1 := fun i hi => mkTo_get l 1 _ i (by omega) (by omega)
    unfold heldA2f
    rw [if_pos ⟨⟨by omega, by omega, by omega⟩, hm⟩, hl]

/-! The law's equality of two pairs, and of two slices -/
theorem infoA2sz : (Try.prog.info? 64).map (·.size) = some 2 := by kernel_rfl
set_option maxHeartbeats 2000000 in
theorem eqA2_any (p q : Int) (w : World) : Calls Try.prog 41 #[.agg #[.int .i64 p, .int .i64 q], .agg #[.int .i64 p, .int .i64 q]] w fun e w' => e = .returned (.bool true) ∧ Below w.heap.size w w' := by
  go_enter Try.func41, Try.ntmps41
  go_upto_region 1 with (fail)
  obtain ⟨W, hW⟩ : ∃ W, W = (w.alloc (.cells [Value.int .i64 p, .int .i64 q].toArray 64)).alloc (.cells [Value.int .i64 p, .int .i64 q].toArray 64) := ⟨_, rfl⟩
  have HC := Lib.hid (boxed2 w [Value.int .i64 p, .int .i64 q] [Value.int .i64 p, .int .i64 q] 64 64)
  rw [← hW] at HC ⊢
  clear hW
  go_wp2
  go_loopw [5] (fun v wr => ∃ i : Nat, i ≤ 2 ∧ v = .int .i64 i ∧ Hid (Below W.heap.size W wr)) (fun v _ => 2 - (intOf v).toNat)
  case atStart => exact ⟨0, by omega, rfl, Lib.hid (Below.refl _ _)⟩
  case round =>
    obtain ⟨i, hi, rfl, HB⟩ := hrel
    by_cases hlt : i < 2
    · have HC2 := Lib.hid (HC.out.step HB.out)
      obtain ⟨z, hz⟩ : ∃ z, [Value.int .i64 p, .int .i64 q][i]? = some (.int .i64 z) := by
        match i, hlt with
        | 0, _ => exact ⟨p, rfl⟩
        | 1, _ => exact ⟨q, rfl⟩
      have c0 : wr.cell? ⟨w.heap.size, i, none⟩ = some (.int .i64 z) := (HC2.out.blk (w.heap.size, [Value.int .i64 p, .int .i64 q], 64) (by simp)).cell hz
      have c1 : wr.cell? ⟨w.heap.size + 1, i, none⟩ = some (.int .i64 z) := (HC2.out.blk (w.heap.size + 1, [Value.int .i64 p, .int .i64 q], 64) (by simp)).cell hz
      clear hz
      go_wp2
      go_quiet (fail)
      go_wp2
      go_roundw
      case rel => exact ⟨i + 1, by omega, by go_num, Lib.hid (by repeat (first | exact HB.out | refine below_drewN ?_ _))⟩
      case measure => simp only [intOf]; omega
    · obtain rfl : i = 2 := by omega
      go_wp2
      go_ret
      exact ⟨rfl, (HC.out.step HB.out).below⟩

/-- Element i of a slice of one's own: two cells. -/
theorem a2_elem {w : World} {b g n cap : Nat} {ok : Nat → Prop} {xs : List (Int × Int)} (h : Kd.R kA2 64 w b ok (.slice (some ⟨g, 0, none⟩) n cap) xs) {i : Nat} (hi : i < n) :
    ∃ p q, xs[i]? = some (p, q) ∧ w.cell? ⟨g, i * 2, none⟩ = some (.int .i64 p) ∧ w.cell? ⟨g, i * 2 + 1, none⟩ = some (.int .i64 q) ∧ w.frozen? ⟨g, i * 2, none⟩ = false ∧ w.frozen? ⟨g, i * 2 + 1, none⟩ = false := by
  obtain ⟨hn, _, _⟩ := Kd.R_reads' h
  obtain ⟨c, hcl, ⟨c0, c1, hc, h0, h1⟩, hcc, hfz⟩ := Kd.R_elem h (0, 0) (i : Int) (by omega) (by omega)
  rw [Int.toNat_natCast] at h0 h1 hcc hfz
  have hx : xs[i]? = some (xs.getD i (0, 0)) := by rw [List.getD_eq_getElem?_getD, List.getElem?_eq_getElem (show i < xs.length by omega)]; rfl
  generalize xs.getD i (0, 0) = e at *
  obtain ⟨p, q⟩ := e
  have e0 : c0 = [.int .i64 p] := h0
  have e1 : c1 = [.int .i64 q] := h1
  subst e0 e1 hc
  exact ⟨p, q, hx, hcc 0 _ rfl, hcc 1 _ rfl, hfz 0, hfz 1⟩
section
variable {w0 w : World} {b0 b1 : Nat} {ok0 ok1 : Nat → Prop} {A0 A1 : Option Addr} {c0 c1 k n : Nat} {m cs : Int} {v : Value} {xs ys : List (Int × Int)}
set_option maxRecDepth 100000 in
set_option maxHeartbeats 2000000 in
theorem eqO_A2 (h0 : Kd.R kA2 64 w b0 ok0 (.slice A0 xs.length c0) xs) (h1 : Kd.R kA2 64 w b1 ok1 (.slice A1 xs.length c1) xs) (hl : xs.length ≤ 1048576) :
    Calls Try.prog 13 #[.slice A0 xs.length c0, .slice A1 xs.length c1] w fun e w' => e = .returned (.bool true) ∧ Below w.heap.size w w' := by
  have H0 := Lib.hid h0
  have H1 := Lib.hid h1
  clear h0 h1
  go_enter Try.func13, Try.ntmps13
  go_wp2
  go_loopw [5] (fun v wr => ∃ i : Nat, i ≤ xs.length ∧ v = .int .i64 i ∧ Hid (Below w.heap.size w wr)) (fun v _ => xs.length - (intOf v).toNat)
  case atStart => exact ⟨0, by omega, rfl, Lib.hid (Below.refl _ _)⟩
  case round =>
    obtain ⟨i, hi, rfl, HB⟩ := hrel
    by_cases hlt : i < xs.length
    · obtain ⟨g0, d0, e0, _, _, _, _⟩ := Kd.R_form H0.out (by omega)
      obtain ⟨g1, d1, e1, _, _, _, _⟩ := Kd.R_form H1.out (by omega)
      injection e0 with e0 _ e0'
      injection e1 with e1 _ e1'
      subst e0 e1 e0' e1'
      have HD : Hid (Below w.heap.size w wr.drew) := Lib.hid (below_drewN HB.out 1)
      have HR : Hid (∀ w', WUp wr.drew w' → ∃ p q, xs[i]? = some (p, q) ∧ w'.rangeAt g0 (i * 2) [.int .i64 p, .int .i64 q] ∧ w'.rangeAt g1 (i * 2) [.int .i64 p, .int .i64 q]) := Lib.hid (fun w' h => by
        have hb := HD.out.trans (h.mono HD.out.size)
        obtain ⟨p, q, hx, a0, a1, _, _⟩ := a2_elem (Kd.R_below H0.out hb) hlt
        obtain ⟨p', q', hx', a0', a1', _, _⟩ := a2_elem (Kd.R_below H1.out hb) hlt
        rw [hx] at hx'
        injection hx' with hx'
        injection hx' with hp hq
        subst hp hq
        refine ⟨p, q, hx, fun j u hj => ?_, fun j u hj => ?_⟩
        all_goals
          match j, hj with
          | 0, hj => cases hj; assumption
          | 1, hj => cases hj; assumption)
      obtain ⟨p, q, hx, _, _⟩ := HR.out wr.drew (Below.refl _ _)
      have HR2 : Hid (∀ w', WUp wr.drew w' → w'.rangeAt g0 (i * 2) [.int .i64 p, .int .i64 q] ∧ w'.rangeAt g1 (i * 2) [.int .i64 p, .int .i64 q]) := Lib.hid (fun w' h => by
        obtain ⟨p', q', hx', h2⟩ := HR.out w' h
        rw [hx] at hx'
        injection hx' with hx'
        injection hx' with hp hq
        subst hp hq
        exact h2)
      clear hx HR
      go_upto_region 6 with (fail)
      refine wp_region_K 10 10 #[false, false, false, false, false, false, false, false, false, false] (by kernel_rfl) (by kernel_rfl) (fun _ _ _ _ hd h => ⟨hd.symm.trans h.1, h.2⟩) (fun hPB => ?_)
      refine wpK_auto (i := 0) #[true, false, false, false, false, false, false, false, false, false] rfl (by kernel_rfl) hPB (fun K hK => ?_)
      go_simp
      refine hK _ ?_
      clear hK K
      refine wpK_auto (i := 1) #[true, true, false, false, false, false, false, false, false, false] rfl (by kernel_rfl) hPB (fun K hK => ?_)
      go_simp
      refine hK _ ?_
      clear hK K
      refine wpK_auto (i := 2) #[true, true, true, false, false, false, false, false, false, false] rfl (by kernel_rfl) hPB (fun K hK => ?_)
      go_simp
      refine hK _ ?_
      clear hK K
      refine wpK_take (i := 3) #[true, true, true, true, false, false, false, false, false, false] rfl (by kernel_rfl) hPB (y_loadc (v := .agg #[.int .i64 p, .int .i64 q]) rfl 64 (.tmp 19) rfl ⟨g0, i * 2, none⟩ (by kernel_rfl) (fun w' h => by
        simp only [Instr.loadAt, Instr.sureAddr, Sem.run_bind, Sem.run_pure, Result.andThen_ok, run_loadVar_mid w' g0 (i * 2) 64 [.int .i64 p, .int .i64 q] _ (HR2.out w' h).1 Try.underlying64 rfl infoA2sz])) ?_
      simp only [Act.put, List.setIfInBounds_toArray, List.set_cons_zero, List.set_cons_succ]
      refine wpK_auto (i := 4) #[true, true, true, true, true, false, false, false, false, false] rfl (by kernel_rfl) hPB (fun K hK => ?_)
      go_simp
      refine hK _ ?_
      clear hK K
      refine wpK_auto (i := 5) #[true, true, true, true, true, true, false, false, false, false] rfl (by kernel_rfl) hPB (fun K hK => ?_)
      go_simp
      refine hK _ ?_
      clear hK K
      refine wpK_auto (i := 6) #[true, true, true, true, true, true, true, false, false, false] rfl (by kernel_rfl) hPB (fun K hK => ?_)
      go_simp
      refine hK _ ?_
      clear hK K
      refine wpK_take (i := 7) #[true, true, true, true, true, true, true, true, false, false] rfl (by kernel_rfl) hPB (y_loadc (v := .agg #[.int .i64 p, .int .i64 q]) rfl 64 (.tmp 23) rfl ⟨g1, i * 2, none⟩ (by kernel_rfl) (fun w' h => by
        simp only [Instr.loadAt, Instr.sureAddr, Sem.run_bind, Sem.run_pure, Result.andThen_ok, run_loadVar_mid w' g1 (i * 2) 64 [.int .i64 p, .int .i64 q] _ (HR2.out w' h).2 Try.underlying64 rfl infoA2sz])) ?_
      simp only [Act.put, List.setIfInBounds_toArray, List.set_cons_zero, List.set_cons_succ]
      refine wpK_take (i := 8) #[true, true, true, true, true, true, true, true, true, false] rfl (by kernel_rfl) hPB (y_call (v := .bool true) rfl Try.func41 (by kernel_rfl) rfl #[.agg #[.int .i64 p, .int .i64 q], .agg #[.int .i64 p, .int .i64 q]] rfl (by simp only [List.map_toArray, List.map_cons, List.map_nil]; kernel_rfl) (fun w' h => eqA2_any p q w')) ?_
      simp only [Act.put, List.setIfInBounds_toArray, List.set_cons_zero, List.set_cons_succ]
      refine wpK_auto (i := 9) #[true, true, true, true, true, true, true, true, true, true] rfl (by kernel_rfl) hPB (fun K hK => ?_)
      go_simp
      refine hK _ ?_
      clear hK K
      refine wpK_done (by kernel_rfl) (fun w6 hu6 => ?_)
      have HB6 := Lib.hid (HD.out.trans (hu6.mono HD.out.size))
      clear hPB hu6
      go_wp2
      go_roundw
      case rel => exact ⟨i + 1, by omega, by go_num, HB6⟩
      case measure => simp only [intOf]; omega
    · obtain rfl : i = xs.length := by omega
      go_wp2
      go_ret
      exact ⟨rfl, HB.out⟩
/-- One cell of a pair is written. -/
theorem a2_put0 {g cap : Nat} {ok : Nat → Prop} {L : List (Int × Int)} {i : Nat} {p q z : Int} (h : Kd.R kA2 64 w b0 ok (.slice (some ⟨g, 0, none⟩) n cap) (L.set i (p, q))) (hi : i < n) :
    Kd.R kA2 64 (w.setCell ⟨g, i * 2, none⟩ (.int .i64 z)) b0 ok (.slice (some ⟨g, 0, none⟩) n cap) (L.set i (z, q)) ∧ w.grownBy (w.setCell ⟨g, i * 2, none⟩ (.int .i64 z)) (some g) := by
  obtain ⟨hn, _, _⟩ := Kd.R_reads' h
  obtain ⟨p', q', hx, h0, h1, _, _⟩ := a2_elem h hi
  rw [List.length_set] at hn
  rw [List.getElem?_set, if_pos rfl, if_pos (by omega)] at hx
  injection hx with hx
  injection hx with hp hq
  subst hp hq
  have := Kd.R_seg h (i : Int) (by omega) (by omega) (c := [.int .i64 p, .int .i64 q]) (seg := [.int .i64 z]) (j := 0) rfl (fun j u hj => by
    rw [Int.toNat_natCast]
    match j, hj with
    | 0, hj => cases hj; exact h0
    | 1, hj => cases hj; exact h1) (by show 0 + 1 ≤ 2; omega) (x' := (z, q)) (okp := fun _ => False) ⟨[.int .i64 z], [.int .i64 q], rfl, rfl, rfl⟩ (fun _ hk => hk.elim)
  rw [Int.toNat_natCast, List.set_set] at this
  exact this
theorem a2_put1 {g cap : Nat} {ok : Nat → Prop} {L : List (Int × Int)} {i : Nat} {p q z : Int} (h : Kd.R kA2 64 w b0 ok (.slice (some ⟨g, 0, none⟩) n cap) (L.set i (p, q))) (hi : i < n) :
    Kd.R kA2 64 (w.setCell ⟨g, i * 2 + 1, none⟩ (.int .i64 z)) b0 ok (.slice (some ⟨g, 0, none⟩) n cap) (L.set i (p, z)) ∧ w.grownBy (w.setCell ⟨g, i * 2 + 1, none⟩ (.int .i64 z)) (some g) := by
  obtain ⟨hn, _, _⟩ := Kd.R_reads' h
  obtain ⟨p', q', hx, h0, h1, _, _⟩ := a2_elem h hi
  rw [List.length_set] at hn
  rw [List.getElem?_set, if_pos rfl, if_pos (by omega)] at hx
  injection hx with hx
  injection hx with hp hq
  subst hp hq
  have := Kd.R_seg h (i : Int) (by omega) (by omega) (c := [.int .i64 p, .int .i64 q]) (seg := [.int .i64 z]) (j := 1) rfl (fun j u hj => by
    rw [Int.toNat_natCast]
    match j, hj with
    | 0, hj => cases hj; exact h0
    | 1, hj => cases hj; exact h1) (by show 1 + 1 ≤ 2; omega) (x' := (p, z)) (okp := fun _ => False) ⟨[.int .i64 p], [.int .i64 z], rfl, rfl, rfl⟩ (fun _ hk => hk.elim)
  rw [Int.toNat_natCast, List.set_set] at this
  exact this
theorem a2_grown {g cap : Nat} {ok : Nat → Prop} {w1 : World} (h : Kd.R kA2 64 w w0.heap.size ok (.slice (some ⟨g, 0, none⟩) n cap) xs) (hb : Below w0.heap.size w0 w) (hg : w.grownBy w1 (some g)) : Below w0.heap.size w0 w1 :=
  hb.grown hg hb.size (fun k hk => by
    have : k = g := by simpa using hk.symm
    subst this
    exact Kd.R_base h k (by simp [Value.ownBlock]))
set_option maxRecDepth 100000 in
set_option maxHeartbeats 2000000 in
theorem markO_A2 (hB : Below w0.heap.size w0 w) (h : Ow kA2 64 w0 w v xs) (hm : markA2f k xs cs = some (m, ys)) :
    Calls Try.prog 14 #[v, .int .i64 cs] w fun e w' => e = .returned (.int .i64 m) ∧ Ow kA2 64 w0 w' v ys ∧ Below w0.heap.size w0 w' ∧ Go.Proofs.YtpkapkgfmibooaaW.PrintWords.Kept w w' (fun k => some k = v.ownBlock) := by
  unfold markA2f at hm
  split at hm
  case isFalse => cases hm
  case isTrue hin =>
  obtain ⟨hl, hc, hcb⟩ := hin
  injection hm with hm
  injection hm with hm1 hm2
  subst hm1 hm2
  obtain ⟨A0, c0, rfl⟩ := Kd.R_slice h
  have HO := Lib.hid h
  have HB0 := Lib.hid hB
  have HMI := Lib.hid (mkTo_len xs cs)
  clear h hB
  go_enter Try.func14, Try.ntmps14
  go_wp2
  go_loopw [1, 5, 6] (fun u v s wr => ∃ i : Nat, i ≤ xs.length ∧ v = .int .i64 i ∧ u = .int .i64 (cs + 2 * (i : Int)) ∧ Hid (Ow kA2 64 w0 wr (.slice A0 xs.length c0) (mkTo xs cs i)) ∧ Hid (Below w0.heap.size w0 wr) ∧ Hid (Go.Proofs.YtpkapkgfmibooaaW.PrintWords.Kept w wr (fun k => some k = (Value.slice A0 xs.length c0).ownBlock))) (fun _ v _ _ => xs.length - (intOf v).toNat)
  case atStart => exact ⟨0, by omega, rfl, by simp, HO, HB0, Lib.hid (Go.Proofs.YtpkapkgfmibooaaW.PrintWords.Kept.refl _ _)⟩
  case round =>
    clear HO HB0
    obtain ⟨i, hi, rfl, rfl, HO, HB, HK⟩ := hrel
    by_cases hlt : i < xs.length
    · have hL := HMI.out i
      obtain ⟨g0, d0, e0, _, _, _, _⟩ := Kd.R_form HO.out (by omega)
      injection e0 with e0 _ e0'
      subst e0 e0'
      obtain ⟨p0, q0, hx, _, _, _, _⟩ := a2_elem HO.out hlt
      have hset : (mkTo xs cs i).set i (p0, q0) = mkTo xs cs i := by
        refine List.ext_getElem? fun j => ?_
        rw [List.getElem?_set]
        by_cases e : i = j
        · subst e; rw [if_pos rfl, if_pos (by omega), hx]
        · rw [if_neg e]
      rw [← hset] at HO
      have HN : Hid (mkTo xs cs (i + 1) = (mkTo xs cs i).set i (cs + 2 * (i : Int), cs + 2 * (i : Int) + 1)) := Lib.hid rfl
      clear hx hset hL
      generalize mkTo xs cs i = L at *
      go_wp2
      go_loopw [1, 6] (fun u v wr => ∃ j : Nat, ∃ p q : Int, j ≤ 2 ∧ v = .int .i64 j ∧ u = .int .i64 (cs + 2 * (i : Int) + (j : Int)) ∧ Hid (Ow kA2 64 w0 wr (.slice (some ⟨g0, 0, none⟩) xs.length c0) (L.set i (p, q))) ∧ Hid ((1 ≤ j → p = cs + 2 * (i : Int)) ∧ (2 ≤ j → q = cs + 2 * (i : Int) + 1)) ∧ Hid (Below w0.heap.size w0 wr) ∧ Hid (Go.Proofs.YtpkapkgfmibooaaW.PrintWords.Kept w wr (fun k => some k = (Value.slice (some ⟨g0, 0, none⟩) xs.length c0).ownBlock))) (fun _ v _ => 2 - (intOf v).toNat)
      case atStart => exact ⟨0, p0, q0, by omega, rfl, by simp, HO, Lib.hid ⟨by omega, by omega⟩, HB, HK⟩
      case round =>
        clear HO HB HK
        obtain ⟨j, p, q, hj, rfl, rfl, HO, HF, HB, HK⟩ := hrel
        by_cases hlt2 : j < 2
        · obtain ⟨p1, q1, hx, h0, h1, f0, f1⟩ := a2_elem HO.out hlt
          clear hx
          obtain rfl | rfl : j = 0 ∨ j = 1 := by omega
          · have HP := Lib.hid (a2_put0 (z := cs + 2 * (i : Int)) HO.out hlt)
            clear h1 f1
            go_wp2
            go_roundw
            case rel => exact ⟨1, cs + 2 * (i : Int), q, by omega, by go_num, by go_num, Lib.hid (Kd.R_mono HP.out.1 (fun _ hk => hk)), Lib.hid ⟨fun _ => rfl, by omega⟩, Lib.hid (a2_grown HO.out HB.out HP.out.2), Lib.hid (Go.Proofs.YtpkapkgfmibooaaW.PrintWords.Kept.of_grown HP.out.2 HK.out (fun _ hk => .inl hk.symm))⟩
            case measure => simp only [intOf]; omega
          · have hp : p = cs + 2 * (i : Int) := HF.out.1 (by omega)
            subst hp
            have HP := Lib.hid (a2_put1 (z := cs + 2 * (i : Int) + 1) HO.out hlt)
            clear h0 f0
            go_wp2
            go_roundw
            case rel => exact ⟨2, cs + 2 * (i : Int), cs + 2 * (i : Int) + 1, by omega, by go_num, by go_num, Lib.hid (Kd.R_mono HP.out.1 (fun _ hk => hk)), Lib.hid ⟨fun _ => rfl, fun _ => rfl⟩, Lib.hid (a2_grown HO.out HB.out HP.out.2), Lib.hid (Go.Proofs.YtpkapkgfmibooaaW.PrintWords.Kept.of_grown HP.out.2 HK.out (fun _ hk => .inl hk.symm))⟩
            case measure => simp only [intOf]; omega
        · obtain rfl : j = 2 := by omega
          obtain ⟨hp, hq⟩ := HF.out
          have hp := hp (by omega)
          have hq := hq (by omega)
          subst hp hq
          go_wp2
          go_roundw
          case rel => exact ⟨i + 1, by omega, by go_num, by go_num, by rw [HN.out]; exact HO, HB, HK⟩
          case measure => simp only [intOf]; omega
    · obtain rfl : i = xs.length := by omega
      go_wp2
      go_ret
      exact ⟨rfl, HO.out, HB.out, HK.out⟩
set_option maxRecDepth 100000 in
set_option maxHeartbeats 2000000 in
theorem heldO_A2 (hn : n = ys.length) (h : Kd.R kA2 64 w b0 ok0 (.slice A0 n c0) ys) (hm : heldA2f k ys cs = some m) :
    Calls Try.prog 15 #[.slice A0 n c0, .int .i64 cs] w fun e w' => e = .returned (.int .i64 m) ∧ Below w.heap.size w w' := by
  subst hn
  unfold heldA2f at hm
  split at hm
  case isFalse => cases hm
  case isTrue hin =>
  obtain ⟨⟨hl, hc, hcb⟩, hmk⟩ := hin
  injection hm with hm1
  subst hm1
  have HO := Lib.hid h
  have HMK := Lib.hid hmk
  clear h hmk
  go_enter Try.func15, Try.ntmps15
  go_wp2
  go_loopw [1, 5, 6] (fun u v s wr => ∃ i : Nat, i ≤ ys.length ∧ v = .int .i64 i ∧ u = .int .i64 (cs + 2 * (i : Int)) ∧ Hid (Below w.heap.size w wr)) (fun _ v _ _ => ys.length - (intOf v).toNat)
  case atStart => exact ⟨0, by omega, rfl, by simp, Lib.hid (Below.refl _ _)⟩
  case round =>
    obtain ⟨i, hi, rfl, rfl, HB⟩ := hrel
    by_cases hlt : i < ys.length
    · obtain ⟨g0, d0, e0, _, _, _, _⟩ := Kd.R_form HO.out (by omega)
      injection e0 with e0 _ e0'
      subst e0 e0'
      have hx := HMK.out i hlt
      go_wp2
      go_loopw [1, 6] (fun u v wr => ∃ j : Nat, j ≤ 2 ∧ v = .int .i64 j ∧ u = .int .i64 (cs + 2 * (i : Int) + (j : Int)) ∧ Hid (Below w.heap.size w wr)) (fun _ v _ => 2 - (intOf v).toNat)
      case atStart => exact ⟨0, by omega, rfl, by simp, HB⟩
      case round =>
        clear HB
        obtain ⟨j, hj, rfl, rfl, HB⟩ := hrel
        by_cases hlt2 : j < 2
        · obtain ⟨p, q, hx1, h0, h1, _, _⟩ := a2_elem (Kd.R_below HO.out HB.out) hlt
          rw [hx] at hx1
          injection hx1 with hx1
          injection hx1 with hp hq
          subst hp hq
          clear hx
          obtain rfl | rfl : j = 0 ∨ j = 1 := by omega
          · clear h1
            go_wp2
            go_roundw
            case rel => exact ⟨1, by omega, by go_num, by go_num, HB⟩
            case measure => simp only [intOf]; omega
          · clear h0
            go_wp2
            go_roundw
            case rel => exact ⟨2, by omega, by go_num, by go_num, HB⟩
            case measure => simp only [intOf]; omega
        · obtain rfl : j = 2 := by omega
          clear hx
          go_wp2
          go_roundw
          case rel => exact ⟨i + 1, by omega, by go_num, by go_num, HB⟩
          case measure => simp only [intOf]; omega
    · obtain rfl : i = ys.length := by omega
      go_wp2
      go_ret
      exact ⟨rfl, HB.out⟩
end
end Go.Proofs.Ytpkapkgfmibooaa.PAll
