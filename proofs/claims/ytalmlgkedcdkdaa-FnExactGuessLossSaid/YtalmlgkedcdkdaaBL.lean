/- The bounds of a loss by a sample, by the program and by the reference: the same. No condition but that the numbers are within their kinds. -/
import Derived.Test.YtalmlgkedcdkdaaZS
import Derived.Test.YtalmlgkedcdkdaaGB
import Derived.Test.YtalmlgkedcdkdaaGC
namespace Go.Proofs.Ytalmlgkedcdkdaa
open Go.RowKit Go.Proofs.YtalmlgkedcdkdaaW.PrintWords Go.Proofs.YtalmlgkedcdkdaaW.PrintLast Go.Proofs.YtalmlgkedcdkdaaW.PrintMore
set_option linter.unusedSimpArgs false
set_option linter.unusedVariables false

/-- A body that ends with two results, the second of which lies in a block. -/
theorem post_2blk {P : Program} {fn : Func} {R : Ending → World → Prop} {a : Act} {w : World} {p q : Tmp} {ty T : TypeId} {g : Nat} {cs : List Value} {d : TypeDesc} {v : Value} (hr : fn.results = #[.tmp q, .cell p ty]) (hd : a.defers = [])
    (hp : a.tmps.getD p undef = .pointer (some ⟨g, 0, none⟩)) (hq : a.tmps.getD q undef = v) (hB : Blk w g cs T) (hu : P.underlying ty = some d) (hd' : d.isRow = true) (hi : (P.info? ty).map (·.size) = some cs.length)
    (h : R (.returned (.tuple #[v, .agg cs.toArray])) w) : bodyPost P fn R .ret a w := by
  refine ⟨hd, _, ?_, h⟩
  have hp' : a.tmps[p]?.getD undef = .pointer (some ⟨g, 0, none⟩) := by simpa using hp
  have hq' : a.tmps[q]?.getD undef = v := by simpa using hq
  have hl := run_loadVar_row (P := P) w g T ty cs.toArray (0, 0) d hB hu (by cases d <;> simp_all [TypeDesc.isRow]) (by simpa using hi)
  simp [results, hr, hp', hq', asAddr, hl]

def sumN (f : Nat → Int) : Nat → Int
  | 0 => 0
  | n + 1 => sumN f n + f n
theorem sumN_same {f g : Nat → Int} : ∀ n, (∀ i, i < n → f i = g i) → sumN f n = sumN g n
  | 0, _ => rfl
  | n + 1, h => by
    simp only [sumN]
    rw [sumN_same n (fun i hi => h i (by omega)), h n (by omega)]
theorem sumN_add (f g : Nat → Int) : ∀ n, sumN f n + sumN g n = sumN (fun i => f i + g i) n
  | 0 => rfl
  | n + 1 => by
    have := sumN_add f g n
    simp only [sumN]
    omega
theorem sumN_bd {f : Nat → Int} {B : Int} (hB : 0 ≤ B) (h : ∀ i, -B ≤ f i ∧ f i ≤ B) : ∀ n : Nat, -(B * n) ≤ sumN f n ∧ sumN f n ≤ B * n
  | 0 => by simp [sumN]
  | n + 1 => by
    have ih := sumN_bd hB h n
    have h1 := h n
    simp only [sumN]
    have e : B * ((n + 1 : Nat) : Int) = B * (n : Int) + B := by rw [Int.natCast_add, Int.mul_add]; simp
    rw [e]
    omega
/-- The sum over the first i of a list of cells. -/
def sumL (f : Nat → Int) (cs : List Int) : Nat → Int
  | 0 => 0
  | i + 1 => sumL f cs i + f (rd cs (i : Int)).toNat
theorem sumL_app (f : Nat → Int) (cs ds : List Int) : ∀ i, i ≤ cs.length → sumL f (cs ++ ds) i = sumL f cs i
  | 0, _ => rfl
  | i + 1, h => by
    simp only [sumL]
    rw [sumL_app f cs ds i (by omega), rd_app_l cs ds (by omega)]
theorem sumL_lst (f : Nat → Int) (q : Nat → Bool) : ∀ n, sumL f (Gap.lst q n) (Gap.lst q n).length = sumN (fun j => if q j = true then f j else 0) n
  | 0 => rfl
  | n + 1 => by
    have ih := sumL_lst f q n
    simp only [sumN]
    cases hq : q n
    · rw [Gap.lst_no hq, ih, if_neg (by decide)]
      omega
    · rw [Gap.lst_yes hq, List.length_append]
      show sumL f (Gap.lst q n ++ [(n : Int)]) ((Gap.lst q n).length + 1) = _
      simp only [sumL]
      rw [sumL_app f _ _ _ (Nat.le_refl _), ih, rd_app_r, Int.toNat_natCast]
      simp
theorem sumL_bd {f : Nat → Int} {B : Int} (hB : 0 ≤ B) (h : ∀ i, -B ≤ f i ∧ f i ≤ B) (cs : List Int) : ∀ n : Nat, -(B * n) ≤ sumL f cs n ∧ sumL f cs n ≤ B * n
  | 0 => by simp [sumL]
  | n + 1 => by
    have ih := sumL_bd hB h cs n
    have h1 := h (rd cs (n : Int)).toNat
    simp only [sumL]
    have e : B * ((n + 1 : Nat) : Int) = B * (n : Int) + B := by rw [Int.natCast_add, Int.mul_add]; simp
    rw [e]
    omega
theorem lst_in (q : Nat → Bool) (n : Nat) {j : Nat} (h : j < (Gap.lst q n).length) : ∃ m : Nat, rd (Gap.lst q n) (j : Int) = (m : Int) ∧ m < n ∧ q m = true := by
  obtain ⟨m, h1, h2, h3⟩ := Gap.lst_at q n j h
  have h4 := (Gap.lst_rd q h2 n h1).1
  rw [h3] at h4
  exact ⟨m, h4, h1, h2⟩
theorem lst_same {p q : Nat → Bool} : ∀ n, (∀ i, i < n → p i = q i) → Gap.lst p n = Gap.lst q n
  | 0, _ => rfl
  | n + 1, h => by
    simp only [Gap.lst]
    rw [lst_same n (fun i hi => h i (by omega)), h n (by omega)]
theorem lst_set (p : Nat → Bool) : Gap.lst (hasN (setTo p 100)) 100 = Gap.lst p 100 := lst_same 100 fun i hi => by rw [hasN_setTo p (by omega), decide_eq_true hi, Bool.true_and]

/-- One cell's loss. -/
def lsF (F G : Fld) (k : Nat) : Int := nth (lossList F G) k
theorem lsF_bd (F G : Fld) (k : Nat) : -32768 ≤ lsF F G k ∧ lsF F G k ≤ 32768 := by
  unfold lsF
  rcases Nat.lt_or_ge k 100 with h | h
  · rw [lossList_nth F G h]
    generalize F.seed k - G.seed k = z
    simp only [IntKind.wrap, IntKind.bits, IntKind.signed]
    simp
    omega
  · have : nth (lossList F G) k = 0 := by
      unfold nth
      rw [List.getD_eq_getElem?_getD, List.getElem?_eq_none (by rw [lossList_len]; exact h)]
      rfl
    rw [this]
    omega
/-- The sum of the losses of the soil cells of a sample. -/
def smp (F G : Fld) (U : List Int) : Int := sumN (fun j => if soilB F U j = true then lsF F G j else 0) 100
theorem smp_bd (F G : Fld) (U : List Int) : -3276800 ≤ smp F G U ∧ smp F G U ≤ 3276800 := by
  have := sumN_bd (f := fun j => if soilB F U j = true then lsF F G j else 0) (B := 32768) (by omega) (fun i => by
    show _ ≤ (if soilB F U i = true then lsF F G i else 0) ∧ (if soilB F U i = true then lsF F G i else 0) ≤ _
    have := lsF_bd F G i
    split <;> omega) 100
  unfold smp
  omega
theorem zeroA16 (w : World) : (zeroValue 25).run Try.prog w = .ok (.agg (zrow .i16 100).toArray) w := (zero_of_info (by kernel_rfl : (Try.prog.info? 25).map (fun i => (i.zero, i.size)) = some (some (.agg (zrow .i16 100).toArray), 100))).1 w


set_option maxRecDepth 100000 in
set_option maxHeartbeats 4000000 in
theorem sampled_any (F G : Fld) (hF : F.Ok) (hG : G.Ok) {U : List Int} (hU : ClOk U) (b c : Nat) (w : World) (hf : IsF w b F) (hg : IsF w c G) :
    Calls Try.prog 17 #[.pointer (some ⟨b, 0, none⟩), .pointer (some ⟨c, 0, none⟩), .agg (vrow .u64 U).toArray] w fun e w' => e = .returned (.tuple #[.int .i64 (smp F G U), .agg (vrow .u64 (setTo (soilB F U) 100)).toArray]) ∧ Below w.heap.size w w' := by
  have HF := Lib.hid hf
  have HG := Lib.hid hg
  have HO := Lib.hid hF
  have HP := Lib.hid hG
  have HU := Lib.hid hU
  have HUL := Lib.hid hU.len
  have hfl := hf.lt
  have hgl := hg.lt
  have HLL := Lib.hid (lossList_len F G)
  have HL := Lib.hid (setTo_len (soilB F U) 100)
  have HLS := Lib.hid (lst_set (soilB F U))
  have HSM := Lib.hid (sumL_lst (lsF F G) (soilB F U) 100)
  have hz := zeroCells
  have hz2 := zeroA16
  clear hf hg hF hG hU
  go_enter Try.func17, Try.ntmps17
  go_upto_region 1 with (fail)
  obtain ⟨W, hW⟩ : ∃ W, W = (w.alloc (.cells (vrow .u64 U).toArray 34)).alloc (.cells (zrow .u64 2).toArray 34) := ⟨_, rfl⟩
  have HC := Lib.hid (boxed2 w (vrow .u64 U) (zrow .u64 2) 34 34)
  rw [← hW] at HC ⊢
  clear hW
  go_wp2_with (first
    | (with_reducible refine wpList_load_blk rfl 34 (.tmp 5) rfl _ 0 rfl (vrow .u64 U) _ (HC.out.blk (w.heap.size, vrow .u64 U, 34) (by simp)) (by rw [List.drop_zero, List.take_length]) Try.underlying34 rfl (by rw [vrow_len, HUL.out]; kernel_rfl) ?_)
    | (go_at_call 26; refine (soilOf_any F HO.out HU.out b _ (HF.out.below HC.out.below hfl)).mono ?_; rintro e w2 ⟨rfl, hb⟩; have HC2 := Lib.hid (HC.out.step hb); clear hb)
    | (go_at_call 27; refine (lossOf_any F G HO.out HP.out b c _ (HF.out.below HC2.out.below hfl) (HG.out.below HC2.out.below hgl)).mono ?_; rintro e w3 ⟨rfl, hb⟩; have HC3 := Lib.hid (HC2.out.step hb); clear hb)
    | ((with_reducible refine gate_op (.store 34 (.tmp 9) (.tmp 15)) rfl ?_); refine wpList_store_all rfl 34 (.tmp 9) (.tmp 15) rfl _ (vrow .u64 (setTo (soilB F U) 100)) (by kernel_rfl) (by kernel_rfl) ((Blk.new' _ (zrow .u64 2) 34).alloc _) (by rw [vrow_len, zrow_len, HL.out]) (by rw [vrow_len, HL.out]; kernel_rfl) (vrow_one _ _) ?_; refine wpl_name (fun w' => Below w3.heap.size w3 w' ∧ Blk w' w3.heap.size (vrow .u64 (setTo (soilB F U) 100)) 34 ∧ Blk w' (w3.heap.size + 1) (zrow .i16 100) 25) ⟨below_setRow (((Below.refl _ _).alloc (Nat.le_refl _) _).alloc (by simp) _) (Nat.le_refl _) _, ((Blk.new' _ _ _).alloc _).row _, (Blk.newAt (by simp)).rowOther (by omega) _⟩ ?_; rintro w4 ⟨hb, hK, hK2⟩; have HA4 := Lib.hid hK; have HZ4 := Lib.hid hK2; have HB4 := Lib.hid hb; clear hb hK hK2)
    | ((with_reducible refine gate_op (.store 25 (.tmp 10) (.tmp 18)) rfl ?_); refine wpList_store_all rfl 25 (.tmp 10) (.tmp 18) rfl _ (vrow .i16 (lossList F G)) (by kernel_rfl) (by kernel_rfl) HZ4.out (by rw [vrow_len, zrow_len, HLL.out]) (by rw [vrow_len, HLL.out]; kernel_rfl) (vrow_one _ _) ?_; refine wpl_name (fun w' => Below w3.heap.size w3 w' ∧ Blk w' w3.heap.size (vrow .u64 (setTo (soilB F U) 100)) 34 ∧ Blk w' (w3.heap.size + 1) (vrow .i16 (lossList F G)) 25) ⟨below_setRow HB4.out (by omega) _, HA4.out.rowOther (by omega) _, HZ4.out.row _⟩ ?_; rintro w5 ⟨hb, hK, hK2⟩; have HA5 := Lib.hid hK; have HL5 := Lib.hid hK2; have HC5 := Lib.hid (HC3.out.step hb); clear hb hK hK2 HA4 HZ4 HB4)
    | (with_reducible refine wpList_load_blk rfl 34 (.tmp 9) rfl _ 0 rfl (vrow .u64 (setTo (soilB F U) 100)) _ HA5.out (by rw [List.drop_zero, List.take_length]) Try.underlying34 rfl (by rw [vrow_len, HL.out]; kernel_rfl) ?_)
    | (go_at_call 18; refine (listOf_any (setTo_ok (soilB F U)) _).mono ?_; rw [HLS.out]; rintro e w6 ⟨v6, rfl, hm, hb⟩; have HA6 := Lib.hid (HA5.out.below hb HA5.out.lt); have HL6 := Lib.hid (HL5.out.below hb HL5.out.lt); have HC6 := Lib.hid (HC5.out.step hb); clear hb; obtain ⟨A2, c2, hv⟩ := Kd.R_slice hm; subst hv; have HM := Lib.hid (Kd.R_reads' hm).2.2; clear hm))
  have hl100 := Gap.lst_len (soilB F U) 100
  go_loopw [8, 22] (fun u v wr => ∃ i : Nat, i ≤ (Gap.lst (soilB F U) 100).length ∧ v = .int .i64 i ∧ u = .int .i64 (sumL (lsF F G) (Gap.lst (soilB F U) 100) i) ∧ ∃ m, wr = w6.drewN m) (fun _ v _ => (Gap.lst (soilB F U) 100).length - (intOf v).toNat)
  case atStart => exact ⟨0, by omega, rfl, rfl, 0, rfl⟩
  case round =>
    obtain ⟨i, hi, rfl, rfl, m, rfl⟩ := hrel
    have hb6 : Below w6.heap.size w6 (w6.drewN m) := below_drewN (Below.refl _ _) m
    by_cases hlt : i < (Gap.lst (soilB F U) 100).length
    · obtain ⟨k, hk, hk2, _⟩ := lst_in (soilB F U) 100 hlt
      obtain ⟨ad, hA2, hx⟩ := Kd.at_int (Kd.C_below HM.out hb6) (i : Int) (by omega) (by omega)
      subst hA2
      rw [Int.toNat_natCast, hk] at hx
      have cl : (w6.drewN m).cell? ⟨w3.heap.size + 1, k, none⟩ = some (.int .i16 (lsF F G k)) := (HL6.out.drewN m).cell (vrow_get (k := .i16) (zs := lossList F G) (i := k) (by rw [HLL.out]; exact hk2))
      have HN : Hid (sumL (lsF F G) (Gap.lst (soilB F U) 100) (i + 1) = sumL (lsF F G) (Gap.lst (soilB F U) 100) i + lsF F G k) := Lib.hid (by simp only [sumL]; rw [hk, Int.toNat_natCast])
      obtain ⟨b0, b1⟩ := sumL_bd (by omega) (lsF_bd F G) (Gap.lst (soilB F U) 100) i
      obtain ⟨l0, l1⟩ := lsF_bd F G k
      generalize sumL (lsF F G) (Gap.lst (soilB F U) 100) i = x at *
      generalize lsF F G k = z at *
      have ez : IntKind.i64.wrap z = z := by rw [IntKind.wrap_i64]; omega
      have ea : wrap64 (x + z) = x + z := by unfold wrap64; omega
      clear hk
      go_wp2
      go_roundw
      case rel => exact ⟨i + 1, by omega, by go_num, by rw [HN.out], m, rfl⟩
      case measure => simp only [intOf]; omega
    · obtain rfl : i = (Gap.lst (soilB F U) 100).length := by omega
      have HR : Hid (sumL (lsF F G) (Gap.lst (soilB F U) 100) (Gap.lst (soilB F U) 100).length = smp F G U) := Lib.hid HSM.out
      rw [HR.out]
      go_upto_region 7 with (fail)
      refine wp_region_K 3 4 #[false, false, false, false] (by kernel_rfl) (by kernel_rfl) (fun _ _ _ _ hd h => ⟨hd.symm.trans h.1, h.2⟩) (fun hPB => ?_)
      have HD := Lib.hid ((HC6.out.step (below_drewN (Below.refl _ _) m)).drew)
      have HAD : Hid (Blk (w6.drewN m).drew w3.heap.size (vrow .u64 (setTo (soilB F U) 100)) 34) := Lib.hid ((HA6.out.drewN m).drewN 1)
      refine wpK_auto (i := 0) #[true, false, false, false] rfl (by kernel_rfl) hPB (fun K hK => ?_)
      go_simp
      refine hK _ ?_
      clear hK K
      refine wpK_take (i := 1) #[true, true, false, false] rfl (by kernel_rfl) hPB (y_load rfl 34 (.tmp 9) rfl w3.heap.size 0 (by kernel_rfl) (vrow .u64 (setTo (soilB F U) 100)) _ HAD.out (by rw [List.drop_zero, List.take_length]) Try.underlying34 rfl (by rw [vrow_len, HL.out]; kernel_rfl)) ?_
      simp only [Act.put, List.setIfInBounds_toArray, List.set_cons_zero, List.set_cons_succ]
      refine wpK_auto (i := 2) #[true, true, true, false] rfl (by kernel_rfl) hPB (fun K hK => ?_)
      go_simp
      refine hK _ ?_
      clear hK K
      refine wpK_only (i := 3) #[true, true, true, true] (by kernel_rfl) (fun w8 hu8 => ?_)
      have HX8 := Lib.hid (HD.out.step hu8)
      refine k_store_all rfl rfl 34 (.tmp 7) (.tmp 34) rfl (w.heap.size + 1) (vrow .u64 (setTo (soilB F U) 100)) (by kernel_rfl) (by kernel_rfl) (HX8.out.blk (w.heap.size + 1, zrow .u64 2, 34) (by simp)) (by rw [vrow_len, zrow_len, HL.out]) (by rw [vrow_len, HL.out]; kernel_rfl) (vrow_one _ _) ⟨fun h => absurd h (by decide), ?_⟩
      simp only [Act.put]
      have hz1 := (HX8.out.blk (w.heap.size + 1, zrow .u64 2, 34) (by simp)).row (vrow .u64 (setTo (soilB F U) 100))
      have hb1 := below_setRow HX8.out.below (show w.heap.size ≤ w.heap.size + 1 by omega) (vrow .u64 (setTo (soilB F U) 100)).toArray
      refine wpK_done (by kernel_rfl) (fun w9 hu9 => ?_)
      have HP1 := Lib.hid (hz1.below hu9 hz1.lt)
      have HPB := Lib.hid (hb1.trans (hu9.mono hb1.size))
      clear hz1 hb1 hu9 hu8 hPB
      go_wp2
      exact post_2blk (p := 7) (q := 6) (T := 34) rfl rfl rfl rfl HP1.out Try.underlying34 rfl (by rw [vrow_len, HL.out]; kernel_rfl) ⟨rfl, HPB.out⟩

end Go.Proofs.Ytalmlgkedcdkdaa
