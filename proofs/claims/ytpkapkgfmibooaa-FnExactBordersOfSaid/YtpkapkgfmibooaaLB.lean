/- The losses of all owners, by the program and by the reference: the same. No condition but that the numbers are within their kinds. -/
import Derived.Test.YtpkapkgfmibooaaEV
import Derived.Test.YtpkapkgfmibooaaGC
import Derived.Test.YtpkapkgfmibooaaGB
import Derived.Test.YtpkapkgfmibooaaG3
namespace Go.Proofs.Ytpkapkgfmibooaa
open Go.RowKit Go.Proofs.YtpkapkgfmibooaaW.PrintWords Go.Proofs.YtpkapkgfmibooaaW.PrintLast Go.Proofs.YtpkapkgfmibooaaW.PrintMore
set_option linter.unusedSimpArgs false
set_option linter.unusedVariables false

/-- One cell's loss told to its owner. -/
def byStep (L os : List Int) (x : List Int) (k : Nat) : List Int := x.set (nth os k).toNat (rd x (nth os k) + nth L k)
def byTo (F : Fld) (L os : List Int) (n : Nat) : List Int := foldN (fun x k => if F.has (k : Int) = true then byStep L os x k else x) (List.replicate 10 0) n
def byRes (F G : Fld) (os : List Int) : List Int := byTo F (lossList F G) os 100
theorem byStep_len (L os x : List Int) (k : Nat) : (byStep L os x k).length = x.length := by simp [byStep]
theorem byTo_len (F : Fld) (L os : List Int) : ∀ n, (byTo F L os n).length = 10
  | 0 => by simp [byTo, foldN]
  | n + 1 => by
    have ih := byTo_len F L os n
    unfold byTo at ih ⊢
    simp only [foldN]
    split
    · rw [byStep_len]; exact ih
    · exact ih
theorem byIn_len (L os cs : List Int) : ∀ n, (foldIn (byStep L os) (List.replicate 10 0) cs n).length = 10
  | 0 => by simp [foldIn]
  | n + 1 => by
    simp only [foldIn]
    rw [byStep_len]
    exact byIn_len L os cs n
def BdL (L : List Int) : Prop := ∀ k, -32768 ≤ nth L k ∧ nth L k ≤ 32767
def BdX (x : List Int) (B : Int) : Prop := ∀ i : Int, -B ≤ rd x i ∧ rd x i ≤ B
theorem bdx_step {L os x : List Int} {B : Int} {k : Nat} (hL : BdL L) (hB : 0 ≤ B) (h : BdX x B) : BdX (byStep L os x k) (B + 32768) := fun i => by
  obtain ⟨a0, a1⟩ := h i
  obtain ⟨b0, b1⟩ := h (nth os k)
  obtain ⟨c0, c1⟩ := hL k
  unfold byStep
  generalize hq : rd x (nth os k) + nth L k = q
  have e : rd (x.set (nth os k).toNat q) i = rd x i ∨ rd (x.set (nth os k).toNat q) i = q := by
    unfold rd
    rw [List.getD_eq_getElem?_getD, List.getD_eq_getElem?_getD, List.getElem?_set]
    split
    · split
      · exact .inr rfl
      · rename_i h1 h2
        refine .inl ?_
        rw [← h1, List.getElem?_eq_none (by omega)]
    · exact .inl rfl
  rcases e with e | e <;> rw [e] <;> omega
theorem bdx_mono {x : List Int} {B C : Int} (h : BdX x B) (hC : B ≤ C) : BdX x C := fun i => by have := h i; omega
theorem bdx_zero (n : Nat) : BdX (List.replicate n 0) 0 := fun i => by
  unfold rd
  rw [List.getD_eq_getElem?_getD, List.getElem?_replicate]
  split <;> simp
theorem bdx_to (F : Fld) {L : List Int} (os : List Int) (hL : BdL L) : ∀ n : Nat, BdX (byTo F L os n) (32768 * (n : Int))
  | 0 => by
    have := bdx_zero 10
    simpa [byTo, foldN] using this
  | n + 1 => by
    have ih := bdx_to F os hL n
    have h1 := bdx_step (os := os) (k := n) hL (by omega) ih
    unfold byTo at ih h1 ⊢
    simp only [foldN]
    split
    · exact bdx_mono h1 (by omega)
    · exact bdx_mono ih (by omega)
theorem bdx_in {L : List Int} (os cs : List Int) (hL : BdL L) : ∀ n : Nat, BdX (foldIn (byStep L os) (List.replicate 10 0) cs n) (32768 * (n : Int))
  | 0 => by
    have := bdx_zero 10
    simpa [foldIn] using this
  | n + 1 => by
    have ih := bdx_in os cs hL n
    simp only [foldIn]
    exact bdx_mono (bdx_step hL (by omega) ih) (by omega)
theorem bdL_loss (F G : Fld) : BdL (lossList F G) := fun k => by
  rcases Nat.lt_or_ge k 100 with h | h
  · rw [lossList_nth F G h]
    generalize F.seed k - G.seed k = z
    simp only [IntKind.wrap, IntKind.bits, IntKind.signed]
    simp
    omega
  · have : nth (lossList F G) k = 0 := by
      unfold nth
      rw [List.getD_eq_getElem?_getD, List.getElem?_eq_none (by rw [lossList_len]; exact h)]
      rfl
    rw [this]
    omega
theorem addr_blockE (a : Addr) (n : Nat) : (a.add n).block = a.block := by unfold Addr.add; split <;> rfl
theorem setRow_size (w : World) (k : Nat) (ds : Array Value) : (w.setRow k ds).heap.size = w.heap.size := by unfold World.setRow; simp
theorem cellsTo_has (F : Fld) : ∀ n i, i < (F.cellsTo n).length → F.has (rd (F.cellsTo n) (i : Int)) = true
  | 0, i, h => by simp [Fld.cellsTo] at h
  | n + 1, i, h => by
    simp only [Fld.cellsTo] at h ⊢
    split at h
    case isTrue hx =>
      rw [if_pos hx]
      rw [List.length_append] at h
      simp at h
      rcases Nat.lt_or_ge i (F.cellsTo n).length with h1 | h1
      · rw [rd_app_l _ _ h1]
        exact cellsTo_has F n i h1
      · obtain rfl : i = (F.cellsTo n).length := by omega
        rw [rd_app_r]
        exact hx
    case isFalse hx =>
      rw [if_neg hx]
      exact cellsTo_has F n i h
theorem own_at {F : Fld} {os : List Int} (h : ownAll F os = true) {k : Nat} (hk : k < 100) : (F.has (k : Int) = true → 0 ≤ nth os k ∧ nth os k ≤ 9) ∧ (F.has (k : Int) = false → nth os k = -1) := by
  have h1 : ownB (F.has (k : Int)) (nth os k) = true := List.all_eq_true.1 h k (List.mem_range.2 hk)
  unfold ownB at h1
  constructor
  · intro hh
    rw [hh] at h1
    simp at h1
    exact inB_iff.1 h1
  · intro hh
    rw [hh] at h1
    simpa using h1
theorem by_cells (F : Fld) (L os : List Int) : foldIn (byStep L os) (List.replicate 10 0) (F.cellsTo 100) (F.cellsTo 100).length = byTo F L os 100 := fold_cells F _ _ 100
theorem byTo_yes {F : Fld} {L os : List Int} {n : Nat} (h : F.has (n : Int) = true) : byTo F L os (n + 1) = byStep L os (byTo F L os n) n := by unfold byTo; simp only [foldN]; rw [if_pos h]
theorem byTo_no {F : Fld} {L os : List Int} {n : Nat} (h : F.has (n : Int) = false) : byTo F L os (n + 1) = byTo F L os n := by unfold byTo; simp only [foldN]; rw [if_neg (by rw [h]; decide)]
theorem infoL_i64 : (Try.prog.info? 2).map (fun i => (i.zero, i.size, i.bytes)) = some (some (.int .i64 0), 1, 8) := by kernel_rfl
theorem zeroA (w : World) : (zeroValue 25).run Try.prog w = .ok (.agg (zrow .i16 100).toArray) w := (zero_of_info (by kernel_rfl : (Try.prog.info? 25).map (fun i => (i.zero, i.size)) = some (some (.agg (zrow .i16 100).toArray), 100))).1 w


set_option maxRecDepth 100000 in
set_option maxHeartbeats 4000000 in
theorem byOwner_any (F G : Fld) (hF : F.Ok) (hG : G.Ok) (os : List Int) (hs : OsOk os) (how : ownAll F os = true) (b c d : Nat) (w : World) (hf : IsF w b F) (hg : IsF w c G) (hd : Blk w d (vrow .i8 os) 34) :
    Calls Try.prog 45 #[.pointer (some ⟨b, 0, none⟩), .pointer (some ⟨c, 0, none⟩), .pointer (some ⟨d, 0, none⟩)] w fun e w' => ∃ v : Value, e = .returned v ∧ Made w w' (byRes F G os) v ∧ Below w.heap.size w w' := by
  have HO := Lib.hid hF
  have HP := Lib.hid hG
  have HF := Lib.hid hf
  have HG := Lib.hid hg
  have HD := Lib.hid hd
  have HS := Lib.hid hs
  have HOW := Lib.hid how
  have hfl := hf.lt
  have hgl := hg.lt
  have hdl := hd.lt
  have HBL := Lib.hid (bdL_loss F G)
  have HLL := Lib.hid (lossList_len F G)
  clear hF hG hf hg hd hs how
  go_enter Try.func45, Try.ntmps45
  go_upto_region 1 with (fail)
  refine la_start (S := fun w' => Below w.heap.size w w') (n := 7) #[false, false, false, false, false, false, false] (by kernel_rfl) (by kernel_rfl) (below_drewN (Below.refl _ _) 1) (fun _ _ _ _ hd h => ⟨hd.symm.trans h.1, h.2⟩) (fun hPB => ?_)
  obtain ⟨u0, hu0⟩ : ∃ u, u = { w with drawn := w.drawn + 1 } := ⟨_, rfl⟩
  have HB : Hid (Below w.heap.size w u0) := Lib.hid (by rw [hu0]; exact below_drewN (Below.refl _ _) 1)
  rw [← hu0]
  clear hu0
  refine la_fmove (i := 1) #[false, true, false, false, false, false, false] (some 12) rfl rfl (by kernel_rfl) hPB rfl (.tmp 0) rfl (.pointer (some ⟨b, 0, none⟩)) (by kernel_rfl) ?_
  simp only [Act.put, List.setIfInBounds_toArray, List.set_cons_zero, List.set_cons_succ]
  refine la_fmove (i := 2) #[false, true, true, false, false, false, false] (some 13) rfl rfl (by kernel_rfl) hPB rfl (.tmp 1) rfl (.pointer (some ⟨c, 0, none⟩)) (by kernel_rfl) ?_
  simp only [Act.put, List.setIfInBounds_toArray, List.set_cons_zero, List.set_cons_succ]
  refine join_ (σ := Value × Nat) 2 #[true, true, true, true, true, false, false] (fun s => [(11, s.1), (14, .agg (vrow .i16 (lossList F G)).toArray), (8, .pointer (some ⟨s.2, 0, none⟩))]) (fun s w' => Made w w' (List.replicate 10 0) s.1 ∧ Blk w' s.2 (zrow .i16 100) 25 ∧ Below w.heap.size w w' ∧ w.heap.size ≤ s.2) ?hcont ?horders
  case horders =>
    intro hcont
    refine la_three (i := 0) (j := 3) (k := 4) #[true, true, true, false, false, false, false] #[false, true, true, true, false, false, false] #[false, true, true, false, true, false, false] rfl rfl rfl (by kernel_rfl) rfl rfl rfl ?_ ?_ ?_
    · refine ev_make (11) rfl (by kernel_rfl) (Kd.int .i64) (w0 := u0) u0.heap.size 2 39 (.const (.int .i64 10)) (.const (.int .i64 10)) rfl 10 (by kernel_rfl) (by kernel_rfl) Try.underlying39 (.int .i64 0) 8 infoL_i64 rfl (by decide) (by omega) 0 (ok := fun _ => True) (okp := fun _ => True) rfl (fun _ _ => trivial) trivial (by omega) (by decide) (Below.refl _ _) (Nat.le_refl _) (fun v0 u1 ho hb => ⟨HB.out.trans (hb.mono HB.out.size), ?_⟩)
      simp only [Act.put, List.setIfInBounds_toArray, List.set_cons_zero, List.set_cons_succ]
      have HR0 := Lib.hid (Kd.R_lower ho HB.out.size)
      have HB := Lib.hid (HB.out.trans (hb.mono HB.out.size))
      clear ho hb
      refine la_two (i := 3) (j := 4) #[true, true, true, true, false, false, false] #[true, true, true, false, true, false, false] rfl rfl (by kernel_rfl) rfl rfl ?_ ?_
      · refine ev_call (some 14) rfl Try.func68 (by kernel_rfl) rfl #[.pointer (some ⟨b, 0, none⟩), .pointer (some ⟨c, 0, none⟩)] rfl (by simp only [List.map_toArray, List.map_cons, List.map_nil]; kernel_rfl) ?_
        refine (lossOf_any F G HO.out HP.out b c u1 (HF.out.below HB.out hfl) (HG.out.below HB.out hgl)).mono ?_
        rintro e u2 ⟨rfl, hb⟩
        have HB := Lib.hid (HB.out.trans (hb.mono HB.out.size))
        have HR0 := Lib.hid (Kd.R_below HR0.out hb)
        clear hb
        refine ⟨_, rfl, HB.out, ?_⟩
        simp only [Act.put, List.setIfInBounds_toArray, List.set_cons_zero, List.set_cons_succ]
        refine la_next (i := 4) #[true, true, true, true, true, false, false] rfl (by kernel_rfl) rfl ?_
        · have hb : Below u2.heap.size u2 (u2.alloc (.cells (zrow .i16 100).toArray 25)) := (Below.refl _ _).alloc (Nat.le_refl _) _
          refine ev_alloc (some 8) rfl 25 rfl (zrow .i16 100) (zeroA _) (HB.out.trans (hb.mono HB.out.size)) ?_
          simp only [Act.put, List.setIfInBounds_toArray, List.set_cons_zero, List.set_cons_succ]
          have HA4 : Hid (Blk (u2.alloc (.cells (zrow .i16 100).toArray 25)) u2.heap.size (zrow .i16 100) 25) := Lib.hid (Blk.new' _ _ _)
          obtain ⟨g4, hg4⟩ : ∃ g, g = u2.heap.size := ⟨_, rfl⟩
          have hge4 : w.heap.size ≤ g4 := by rw [hg4]; exact HB.out.size
          have HB := Lib.hid (HB.out.trans (hb.mono HB.out.size))
          have HR0 := Lib.hid (Kd.R_below HR0.out hb)
          clear hb
          obtain ⟨u3, hwu3⟩ : ∃ x, x = (u2.alloc (.cells (zrow .i16 100).toArray 25)) := ⟨_, rfl⟩
          rw [← hwu3, ← hg4] at HA4
          rw [← hwu3] at HB HR0
          rw [← hwu3, ← hg4]
          clear hwu3 hg4
          exact norm_ (by simp only [putAll, Act.put, List.setIfInBounds_toArray, List.set_cons_zero, List.set_cons_succ]) (hcont (v0, g4) u3 ⟨HR0.out, HA4.out, HB.out, hge4⟩)
      · have hb : Below u1.heap.size u1 (u1.alloc (.cells (zrow .i16 100).toArray 25)) := (Below.refl _ _).alloc (Nat.le_refl _) _
        refine ev_alloc (some 8) rfl 25 rfl (zrow .i16 100) (zeroA _) (HB.out.trans (hb.mono HB.out.size)) ?_
        simp only [Act.put, List.setIfInBounds_toArray, List.set_cons_zero, List.set_cons_succ]
        have HA4 : Hid (Blk (u1.alloc (.cells (zrow .i16 100).toArray 25)) u1.heap.size (zrow .i16 100) 25) := Lib.hid (Blk.new' _ _ _)
        obtain ⟨g4, hg4⟩ : ∃ g, g = u1.heap.size := ⟨_, rfl⟩
        have hge4 : w.heap.size ≤ g4 := by rw [hg4]; exact HB.out.size
        have HB := Lib.hid (HB.out.trans (hb.mono HB.out.size))
        have HR0 := Lib.hid (Kd.R_below HR0.out hb)
        clear hb
        obtain ⟨u4, hwu4⟩ : ∃ x, x = (u1.alloc (.cells (zrow .i16 100).toArray 25)) := ⟨_, rfl⟩
        rw [← hwu4, ← hg4] at HA4
        rw [← hwu4] at HB HR0
        rw [← hwu4, ← hg4]
        clear hwu4 hg4
        refine la_next (i := 3) #[true, true, true, true, true, false, false] rfl (by kernel_rfl) rfl ?_
        · refine ev_call (some 14) rfl Try.func68 (by kernel_rfl) rfl #[.pointer (some ⟨b, 0, none⟩), .pointer (some ⟨c, 0, none⟩)] rfl (by simp only [List.map_toArray, List.map_cons, List.map_nil]; kernel_rfl) ?_
          refine (lossOf_any F G HO.out HP.out b c u4 (HF.out.below HB.out hfl) (HG.out.below HB.out hgl)).mono ?_
          rintro e u5 ⟨rfl, hb⟩
          have HB := Lib.hid (HB.out.trans (hb.mono HB.out.size))
          have HR0 := Lib.hid (Kd.R_below HR0.out hb)
          have HA4 := Lib.hid (HA4.out.below hb HA4.out.lt)
          clear hb
          refine ⟨_, rfl, HB.out, ?_⟩
          simp only [Act.put, List.setIfInBounds_toArray, List.set_cons_zero, List.set_cons_succ]
          exact norm_ (by simp only [putAll, Act.put, List.setIfInBounds_toArray, List.set_cons_zero, List.set_cons_succ]) (hcont (v0, g4) u5 ⟨HR0.out, HA4.out, HB.out, hge4⟩)
    · refine ev_call (some 14) rfl Try.func68 (by kernel_rfl) rfl #[.pointer (some ⟨b, 0, none⟩), .pointer (some ⟨c, 0, none⟩)] rfl (by simp only [List.map_toArray, List.map_cons, List.map_nil]; kernel_rfl) ?_
      refine (lossOf_any F G HO.out HP.out b c u0 (HF.out.below HB.out hfl) (HG.out.below HB.out hgl)).mono ?_
      rintro e u6 ⟨rfl, hb⟩
      have HB := Lib.hid (HB.out.trans (hb.mono HB.out.size))
      clear hb
      refine ⟨_, rfl, HB.out, ?_⟩
      simp only [Act.put, List.setIfInBounds_toArray, List.set_cons_zero, List.set_cons_succ]
      refine la_two (i := 0) (j := 4) #[true, true, true, true, false, false, false] #[false, true, true, true, true, false, false] rfl rfl (by kernel_rfl) rfl rfl ?_ ?_
      · refine ev_make (11) rfl (by kernel_rfl) (Kd.int .i64) (w0 := u6) u6.heap.size 2 39 (.const (.int .i64 10)) (.const (.int .i64 10)) rfl 10 (by kernel_rfl) (by kernel_rfl) Try.underlying39 (.int .i64 0) 8 infoL_i64 rfl (by decide) (by omega) 0 (ok := fun _ => True) (okp := fun _ => True) rfl (fun _ _ => trivial) trivial (by omega) (by decide) (Below.refl _ _) (Nat.le_refl _) (fun v0 u7 ho hb => ⟨HB.out.trans (hb.mono HB.out.size), ?_⟩)
        simp only [Act.put, List.setIfInBounds_toArray, List.set_cons_zero, List.set_cons_succ]
        have HR0 := Lib.hid (Kd.R_lower ho HB.out.size)
        have HB := Lib.hid (HB.out.trans (hb.mono HB.out.size))
        clear ho hb
        refine la_next (i := 4) #[true, true, true, true, true, false, false] rfl (by kernel_rfl) rfl ?_
        · have hb : Below u7.heap.size u7 (u7.alloc (.cells (zrow .i16 100).toArray 25)) := (Below.refl _ _).alloc (Nat.le_refl _) _
          refine ev_alloc (some 8) rfl 25 rfl (zrow .i16 100) (zeroA _) (HB.out.trans (hb.mono HB.out.size)) ?_
          simp only [Act.put, List.setIfInBounds_toArray, List.set_cons_zero, List.set_cons_succ]
          have HA4 : Hid (Blk (u7.alloc (.cells (zrow .i16 100).toArray 25)) u7.heap.size (zrow .i16 100) 25) := Lib.hid (Blk.new' _ _ _)
          obtain ⟨g4, hg4⟩ : ∃ g, g = u7.heap.size := ⟨_, rfl⟩
          have hge4 : w.heap.size ≤ g4 := by rw [hg4]; exact HB.out.size
          have HB := Lib.hid (HB.out.trans (hb.mono HB.out.size))
          have HR0 := Lib.hid (Kd.R_below HR0.out hb)
          clear hb
          obtain ⟨u8, hwu8⟩ : ∃ x, x = (u7.alloc (.cells (zrow .i16 100).toArray 25)) := ⟨_, rfl⟩
          rw [← hwu8, ← hg4] at HA4
          rw [← hwu8] at HB HR0
          rw [← hwu8, ← hg4]
          clear hwu8 hg4
          exact norm_ (by simp only [putAll, Act.put, List.setIfInBounds_toArray, List.set_cons_zero, List.set_cons_succ]) (hcont (v0, g4) u8 ⟨HR0.out, HA4.out, HB.out, hge4⟩)
      · have hb : Below u6.heap.size u6 (u6.alloc (.cells (zrow .i16 100).toArray 25)) := (Below.refl _ _).alloc (Nat.le_refl _) _
        refine ev_alloc (some 8) rfl 25 rfl (zrow .i16 100) (zeroA _) (HB.out.trans (hb.mono HB.out.size)) ?_
        simp only [Act.put, List.setIfInBounds_toArray, List.set_cons_zero, List.set_cons_succ]
        have HA4 : Hid (Blk (u6.alloc (.cells (zrow .i16 100).toArray 25)) u6.heap.size (zrow .i16 100) 25) := Lib.hid (Blk.new' _ _ _)
        obtain ⟨g4, hg4⟩ : ∃ g, g = u6.heap.size := ⟨_, rfl⟩
        have hge4 : w.heap.size ≤ g4 := by rw [hg4]; exact HB.out.size
        have HB := Lib.hid (HB.out.trans (hb.mono HB.out.size))
        clear hb
        obtain ⟨u9, hwu9⟩ : ∃ x, x = (u6.alloc (.cells (zrow .i16 100).toArray 25)) := ⟨_, rfl⟩
        rw [← hwu9, ← hg4] at HA4
        rw [← hwu9] at HB
        rw [← hwu9, ← hg4]
        clear hwu9 hg4
        refine la_next (i := 0) #[true, true, true, true, true, false, false] rfl (by kernel_rfl) rfl ?_
        · refine ev_make (11) rfl (by kernel_rfl) (Kd.int .i64) (w0 := u9) u9.heap.size 2 39 (.const (.int .i64 10)) (.const (.int .i64 10)) rfl 10 (by kernel_rfl) (by kernel_rfl) Try.underlying39 (.int .i64 0) 8 infoL_i64 rfl (by decide) (by omega) 0 (ok := fun _ => True) (okp := fun _ => True) rfl (fun _ _ => trivial) trivial (by omega) (by decide) (Below.refl _ _) (Nat.le_refl _) (fun v0 u10 ho hb => ⟨HB.out.trans (hb.mono HB.out.size), ?_⟩)
          simp only [Act.put, List.setIfInBounds_toArray, List.set_cons_zero, List.set_cons_succ]
          have HR0 := Lib.hid (Kd.R_lower ho HB.out.size)
          have HB := Lib.hid (HB.out.trans (hb.mono HB.out.size))
          have HA4 := Lib.hid (HA4.out.below hb HA4.out.lt)
          clear ho hb
          exact norm_ (by simp only [putAll, Act.put, List.setIfInBounds_toArray, List.set_cons_zero, List.set_cons_succ]) (hcont (v0, g4) u10 ⟨HR0.out, HA4.out, HB.out, hge4⟩)
    · have hb : Below u0.heap.size u0 (u0.alloc (.cells (zrow .i16 100).toArray 25)) := (Below.refl _ _).alloc (Nat.le_refl _) _
      refine ev_alloc (some 8) rfl 25 rfl (zrow .i16 100) (zeroA _) (HB.out.trans (hb.mono HB.out.size)) ?_
      simp only [Act.put, List.setIfInBounds_toArray, List.set_cons_zero, List.set_cons_succ]
      have HA4 : Hid (Blk (u0.alloc (.cells (zrow .i16 100).toArray 25)) u0.heap.size (zrow .i16 100) 25) := Lib.hid (Blk.new' _ _ _)
      obtain ⟨g4, hg4⟩ : ∃ g, g = u0.heap.size := ⟨_, rfl⟩
      have hge4 : w.heap.size ≤ g4 := by rw [hg4]; exact HB.out.size
      have HB := Lib.hid (HB.out.trans (hb.mono HB.out.size))
      clear hb
      obtain ⟨u11, hwu11⟩ : ∃ x, x = (u0.alloc (.cells (zrow .i16 100).toArray 25)) := ⟨_, rfl⟩
      rw [← hwu11, ← hg4] at HA4
      rw [← hwu11] at HB
      rw [← hwu11, ← hg4]
      clear hwu11 hg4
      refine la_two (i := 0) (j := 3) #[true, true, true, false, true, false, false] #[false, true, true, true, true, false, false] rfl rfl (by kernel_rfl) rfl rfl ?_ ?_
      · refine ev_make (11) rfl (by kernel_rfl) (Kd.int .i64) (w0 := u11) u11.heap.size 2 39 (.const (.int .i64 10)) (.const (.int .i64 10)) rfl 10 (by kernel_rfl) (by kernel_rfl) Try.underlying39 (.int .i64 0) 8 infoL_i64 rfl (by decide) (by omega) 0 (ok := fun _ => True) (okp := fun _ => True) rfl (fun _ _ => trivial) trivial (by omega) (by decide) (Below.refl _ _) (Nat.le_refl _) (fun v0 u12 ho hb => ⟨HB.out.trans (hb.mono HB.out.size), ?_⟩)
        simp only [Act.put, List.setIfInBounds_toArray, List.set_cons_zero, List.set_cons_succ]
        have HR0 := Lib.hid (Kd.R_lower ho HB.out.size)
        have HB := Lib.hid (HB.out.trans (hb.mono HB.out.size))
        have HA4 := Lib.hid (HA4.out.below hb HA4.out.lt)
        clear ho hb
        refine la_next (i := 3) #[true, true, true, true, true, false, false] rfl (by kernel_rfl) rfl ?_
        · refine ev_call (some 14) rfl Try.func68 (by kernel_rfl) rfl #[.pointer (some ⟨b, 0, none⟩), .pointer (some ⟨c, 0, none⟩)] rfl (by simp only [List.map_toArray, List.map_cons, List.map_nil]; kernel_rfl) ?_
          refine (lossOf_any F G HO.out HP.out b c u12 (HF.out.below HB.out hfl) (HG.out.below HB.out hgl)).mono ?_
          rintro e u13 ⟨rfl, hb⟩
          have HB := Lib.hid (HB.out.trans (hb.mono HB.out.size))
          have HR0 := Lib.hid (Kd.R_below HR0.out hb)
          have HA4 := Lib.hid (HA4.out.below hb HA4.out.lt)
          clear hb
          refine ⟨_, rfl, HB.out, ?_⟩
          simp only [Act.put, List.setIfInBounds_toArray, List.set_cons_zero, List.set_cons_succ]
          exact norm_ (by simp only [putAll, Act.put, List.setIfInBounds_toArray, List.set_cons_zero, List.set_cons_succ]) (hcont (v0, g4) u13 ⟨HR0.out, HA4.out, HB.out, hge4⟩)
      · refine ev_call (some 14) rfl Try.func68 (by kernel_rfl) rfl #[.pointer (some ⟨b, 0, none⟩), .pointer (some ⟨c, 0, none⟩)] rfl (by simp only [List.map_toArray, List.map_cons, List.map_nil]; kernel_rfl) ?_
        refine (lossOf_any F G HO.out HP.out b c u11 (HF.out.below HB.out hfl) (HG.out.below HB.out hgl)).mono ?_
        rintro e u14 ⟨rfl, hb⟩
        have HB := Lib.hid (HB.out.trans (hb.mono HB.out.size))
        have HA4 := Lib.hid (HA4.out.below hb HA4.out.lt)
        clear hb
        refine ⟨_, rfl, HB.out, ?_⟩
        simp only [Act.put, List.setIfInBounds_toArray, List.set_cons_zero, List.set_cons_succ]
        refine la_next (i := 0) #[true, true, true, true, true, false, false] rfl (by kernel_rfl) rfl ?_
        · refine ev_make (11) rfl (by kernel_rfl) (Kd.int .i64) (w0 := u14) u14.heap.size 2 39 (.const (.int .i64 10)) (.const (.int .i64 10)) rfl 10 (by kernel_rfl) (by kernel_rfl) Try.underlying39 (.int .i64 0) 8 infoL_i64 rfl (by decide) (by omega) 0 (ok := fun _ => True) (okp := fun _ => True) rfl (fun _ _ => trivial) trivial (by omega) (by decide) (Below.refl _ _) (Nat.le_refl _) (fun v0 u15 ho hb => ⟨HB.out.trans (hb.mono HB.out.size), ?_⟩)
          simp only [Act.put, List.setIfInBounds_toArray, List.set_cons_zero, List.set_cons_succ]
          have HR0 := Lib.hid (Kd.R_lower ho HB.out.size)
          have HB := Lib.hid (HB.out.trans (hb.mono HB.out.size))
          have HA4 := Lib.hid (HA4.out.below hb HA4.out.lt)
          clear ho hb
          exact norm_ (by simp only [putAll, Act.put, List.setIfInBounds_toArray, List.set_cons_zero, List.set_cons_succ]) (hcont (v0, g4) u15 ⟨HR0.out, HA4.out, HB.out, hge4⟩)
  case hcont =>
    rintro ⟨v0, g4⟩ w5 ⟨h1, h2, h3, hge⟩
    obtain ⟨g, cap, hv, hg1, hg2, cells, hg3⟩ := Kd.R_form h1 (by simp)
    have hne : g4 ≠ g := by
      intro e
      subst e
      unfold Blk at h2
      rw [hg3] at h2
      simp at h2
    rw [List.length_replicate] at hv
    subst hv
    have HR := Lib.hid (Kd.R_mono (Kd.R_tight rfl h1) (ok' := fun k => k = g) (fun k hk => by simpa [Value.ownBlock] using hk))
    have HA := Lib.hid h2
    have HB := Lib.hid h3
    clear h1 h2 h3 hg3
    simp only [putAll, Act.put, List.setIfInBounds_toArray, List.set_cons_zero, List.set_cons_succ]
    refine la_assign (i := 5) #[true, true, true, true, true, true, false] (some 7) rfl rfl (by kernel_rfl) rfl (.tmp 11) rfl (.slice (some ⟨g, 0, none⟩) 10 cap) (by kernel_rfl) HB.out ?_
    simp only [Act.put, List.setIfInBounds_toArray, List.set_cons_zero, List.set_cons_succ]
    have hb6 : Below w.heap.size w (w5.setRow g4 (vrow .i16 (lossList F G)).toArray) := below_setRow HB.out hge _
    refine la_store (i := 6) #[true, true, true, true, true, true, true] none rfl rfl (by kernel_rfl) rfl 25 (.tmp 8) (.tmp 14) rfl g4 (vrow .i16 (lossList F G)) (by kernel_rfl) (by kernel_rfl) HA.out (by rw [vrow_len, zrow_len, HLL.out]) (by rw [vrow_len, HLL.out]; kernel_rfl) (vrow_one _ _) hb6 ?_
    simp only [Act.put, List.setIfInBounds_toArray, List.set_cons_zero, List.set_cons_succ]
    have HA6 := Lib.hid (HA.out.row (vrow .i16 (lossList F G)))
    have HR6 : Hid (Kd.R (Kd.int .i64) 2 (w5.setRow g4 (vrow .i16 (lossList F G)).toArray) w.heap.size (fun k => k = g) (.slice (some ⟨g, 0, none⟩) 10 cap) (List.replicate 10 0)) := Lib.hid (Kd.R_step HR.out (fun k hk _ => by
      subst hk
      exact setRow_other _ g4 _ _ (Ne.symm hne)))
    have hsz : (w5.setRow g4 (vrow .i16 (lossList F G)).toArray).heap.size = w5.heap.size := setRow_size _ _ _
    have hg4l : g4 < w5.heap.size := HA.out.lt
    refine la_done (by kernel_rfl) ?_
    clear hPB HA HR HB
    have HB6 := Lib.hid hb6
    clear hb6
    obtain ⟨w6, hw6⟩ : ∃ x, x = w5.setRow g4 (vrow .i16 (lossList F G)).toArray := ⟨_, rfl⟩
    rw [← hw6] at HA6 HR6 HB6 hsz ⊢
    clear hw6
    go_wp2_with (first
      | (go_at_call 39; refine (cells_any F HO.out _ _ (HF.out.below HB6.out hfl)).mono ?_; rintro e w7 ⟨v, rfl, hm, hb⟩; have HR7 := Lib.hid (Kd.R_below HR6.out hb); have HA7 := Lib.hid (HA6.out.below hb HA6.out.lt); have HB7 := Lib.hid (HB6.out.trans (hb.mono HB6.out.size)); have hs7 := hb.size; clear hb; obtain ⟨A2, c2, rfl, hm2⟩ := made_cells hm; have HM := Lib.hid hm2; clear hm hm2))
    go_loopw [18] (fun v wr => ∃ i : Nat, i ≤ (F.cellsTo 100).length ∧ v = .int .i64 i ∧ Hid (Kept g w7 wr) ∧ Hid (Kd.R (Kd.int .i64) 2 wr w.heap.size (fun k => k = g) (.slice (some ⟨g, 0, none⟩) 10 cap) (foldIn (byStep (lossList F G) os) (List.replicate 10 0) (F.cellsTo 100) i))) (fun v _ => (F.cellsTo 100).length - (intOf v).toNat)
    case atStart => exact ⟨0, by omega, rfl, Lib.hid (Kept.refl _ _), HR7⟩
    case round =>
      obtain ⟨i, hi, rfl, HK, HR⟩ := hrel
      have hmx := F.cellsTo_len 100
      by_cases hlt : i < (F.cellsTo 100).length
      · obtain ⟨k, hk, hk2⟩ := cellsTo_in F 100 i hlt
        obtain ⟨ad, hA2, ha1, ha2, hx⟩ := HM.out i hlt
        subst hA2
        rw [hk] at hx
        have hh := cellsTo_has F 100 i hlt
        rw [hk] at hh
        obtain ⟨o0, o1⟩ := (own_at HOW.out hk2).1 hh
        clear hh
        have hx' : wr.cell? (ad.add i) = some (.int .i64 (k : Int)) := HK.out.cell hx (by rw [addr_blockE]; exact ha2) (by rw [addr_blockE]; omega)
        clear hx ha1 ha2
        have ck : wr.cell? ⟨d, k, none⟩ = some (.int .i8 (nth os k)) := (HK.out.blk (HD.out.below HB7.out hdl) (by omega)).cell (vrow_get (k := .i8) (zs := os) (i := k) (by rw [HS.out.len]; exact hk2))
        have cl : wr.cell? ⟨g4, k, none⟩ = some (.int .i16 (nth (lossList F G) k)) := (HK.out.blk HA7.out hne).cell (vrow_get (k := .i16) (zs := lossList F G) (i := k) (by rw [HLL.out]; exact hk2))
        have HN0 : Hid (foldIn (byStep (lossList F G) os) (List.replicate 10 0) (F.cellsTo 100) (i + 1) = (foldIn (byStep (lossList F G) os) (List.replicate 10 0) (F.cellsTo 100) i).set (nth os k).toNat (rd (foldIn (byStep (lossList F G) os) (List.replicate 10 0) (F.cellsTo 100) i) (nth os k) + nth (lossList F G) k)) := Lib.hid (by simp only [foldIn]; rw [hk, Int.toNat_natCast]; rfl)
        obtain ⟨b0, b1⟩ := bdx_in os (F.cellsTo 100) HBL.out i (nth os k)
        obtain ⟨l0, l1⟩ := HBL.out k
        obtain ⟨q, hq⟩ : ∃ q : Nat, nth os k = (q : Int) := ⟨(nth os k).toNat, by omega⟩
        rw [hq] at ck o0 o1 b0 b1
        have HN1 := HN0.out
        rw [hq, Int.toNat_natCast] at HN1
        have HN := Lib.hid HN1
        clear HN0 HN1 hq
        have hq9 : q < 10 := by omega
        obtain ⟨co, fo⟩ := Kd.R_celln 0 HR.out (q : Int) (by omega) (by omega)
        rw [Int.toNat_natCast] at co fo
        have HP2 := Lib.hid (Kd.R_putn HR.out (q : Int) (rd (foldIn (byStep (lossList F G) os) (List.replicate 10 0) (F.cellsTo 100) i) (q : Int) + nth (lossList F G) k))
        rw [Int.toNat_natCast] at HP2
        replace co : wr.cell? ⟨g, q, none⟩ = some (.int .i64 (rd (foldIn (byStep (lossList F G) os) (List.replicate 10 0) (F.cellsTo 100) i) (q : Int))) := co
        generalize foldIn (byStep (lossList F G) os) (List.replicate 10 0) (F.cellsTo 100) i = X at *
        generalize rd X (q : Int) = x at *
        generalize nth (lossList F G) k = z at *
        have ez : IntKind.i64.wrap z = z := by rw [IntKind.wrap_i64]; omega
        have ea : wrap64 (x + z) = x + z := by unfold wrap64; omega
        go_wp2
        go_region
        all_goals
          go_wp2
          go_roundw
          case rel =>
            refine ⟨i + 1, by omega, by go_num, ?_, ?_⟩
            · first | exact Lib.hid (HK.out.set _ _) | exact Lib.hid ((HK.out.drewN 1).set _ _) | exact Lib.hid ((HK.out.set _ _).drewN 1)
            · rw [HN.out]
              first | exact HP2 | exact Lib.hid (Kd.R_drewN HP2.out 1)
          case measure => simp only [intOf]; omega
      · obtain rfl : i = (F.cellsTo 100).length := by omega
        have HE : Hid (foldIn (byStep (lossList F G) os) (List.replicate 10 0) (F.cellsTo 100) (F.cellsTo 100).length = byRes F G os) := Lib.hid (by_cells F _ os)
        go_wp2
        go_ret
        exact ⟨_, rfl, by rw [← HE.out]; exact Kd.R_mono HR.out (fun _ _ => trivial), HK.out.below HB7.out hg1 HB7.out.size⟩


set_option maxRecDepth 100000 in
set_option maxHeartbeats 4000000 in
theorem sByOwner_any (F G : Fld) (hF : F.Ok) (hG : G.Ok) (os : List Int) (hs : OsOk os) (how : ownAll F os = true) (b c d : Nat) (w : World) (hf : IsF w b F) (hg : IsF w c G) (hd : Blk w d (vrow .i8 os) 34) :
    Calls Try.prog 43 #[.pointer (some ⟨b, 0, none⟩), .pointer (some ⟨c, 0, none⟩), .pointer (some ⟨d, 0, none⟩)] w fun e w' => ∃ v : Value, e = .returned v ∧ Made w w' (byRes F G os) v ∧ Below w.heap.size w w' := by
  have HO := Lib.hid hF
  have HP := Lib.hid hG
  have HF := Lib.hid hf
  have HG := Lib.hid hg
  have HD := Lib.hid hd
  have HS := Lib.hid hs
  have HOW := Lib.hid how
  have hfl := hf.lt
  have hgl := hg.lt
  have hdl := hd.lt
  have HBL := Lib.hid (bdL_loss F G)
  have HLL := Lib.hid (lossList_len F G)
  have hz := zeroA
  clear hF hG hf hg hd hs how
  go_enter Try.func43, Try.ntmps43
  go_wp2_with (first
    | ((with_reducible refine gate_dst (N := 10) rfl ?_); refine Kd.R_make (Kd.int .i64) (w0 := w) w.heap.size 2 rfl rfl 39 (.const (.int .i64 10)) (.const (.int .i64 10)) rfl 10 rfl rfl Try.underlying39 (.int .i64 0) 8 infoL_i64 rfl (by decide) (by omega) 0 (ok := fun _ => True) (okp := fun _ => True) rfl (fun _ _ => trivial) trivial (by omega) (by decide) (Below.refl _ _) (Nat.le_refl _) ?_; intro v1 w1 h1 hb hgx hnx; clear hgx hnx; obtain ⟨g, cap, hv, hg1, hg2, cells, hg3⟩ := Kd.R_form h1 (by simp); rw [List.length_replicate] at hv; subst hv; have HR1 := Lib.hid (Kd.R_mono (Kd.R_tight rfl h1) (ok' := fun k => k = g) (fun k hk => by simpa [Value.ownBlock] using hk)); have HB1 := Lib.hid hb; clear h1 hb hg3)
    | (go_at_call 66; refine (l06Loss_any F G HO.out HP.out b c _ (HF.out.below HB1.out hfl) (HG.out.below HB1.out hgl)).mono ?_; rintro e w2 ⟨rfl, hb⟩; have HR2 := Lib.hid (Kd.R_below HR1.out hb); have HB2 := Lib.hid (HB1.out.trans (hb.mono HB1.out.size)); have hs2 := hb.size; clear hb)
    | ((with_reducible refine gate_op (.store 25 (.tmp 8) (.tmp 13)) rfl ?_); refine wpList_store_all rfl 25 (.tmp 8) (.tmp 13) rfl _ (vrow .i16 (lossList F G)) (by kernel_rfl) (by kernel_rfl) (Blk.new' _ (zrow .i16 100) 25) (by rw [vrow_len, zrow_len, HLL.out]) (by rw [vrow_len, HLL.out]; kernel_rfl) (vrow_one _ _) ?_; refine wpl_name (fun w' => Below w2.heap.size w2 w' ∧ Blk w' w2.heap.size (vrow .i16 (lossList F G)) 25) ⟨below_setRow ((Below.refl _ _).alloc (Nat.le_refl _) _) (Nat.le_refl _) _, (Blk.new' _ (zrow .i16 100) 25).row _⟩ ?_; rintro w7 ⟨hb, hK⟩; have HA7 := Lib.hid hK; have HR7 := Lib.hid (Kd.R_below HR2.out hb); have HB7 := Lib.hid (HB2.out.trans (hb.mono HB2.out.size)); clear hb hK))
  have hne : w2.heap.size ≠ g := by omega
  generalize w2.heap.size = g4 at *
  go_loopw [9] (fun v wr => ∃ i : Nat, i ≤ 100 ∧ v = .int .i64 i ∧ Hid (Kept g w7 wr) ∧ Hid (Kd.R (Kd.int .i64) 2 wr w.heap.size (fun k => k = g) (.slice (some ⟨g, 0, none⟩) 10 cap) (byTo F (lossList F G) os i))) (fun v _ => 100 - (intOf v).toNat)
  case atStart => exact ⟨0, by omega, rfl, Lib.hid (Kept.refl _ _), HR7⟩
  case round =>
    obtain ⟨i, hi, rfl, HK, HR⟩ := hrel
    by_cases hlt : i < 100
    · have ck : wr.cell? ⟨d, i, none⟩ = some (.int .i8 (nth os i)) := (HK.out.blk (HD.out.below HB7.out hdl) (by omega)).cell (vrow_get (k := .i8) (zs := os) (i := i) (by rw [HS.out.len]; exact hlt))
      cases hh : F.has (i : Int)
      · have ho := (own_at HOW.out hlt).2 hh
        have HN := Lib.hid (byTo_no (L := lossList F G) (os := os) hh)
        rw [ho] at ck
        clear hh ho
        go_wp2
        go_roundw
        case rel => exact ⟨i + 1, by omega, by go_num, HK, by rw [HN.out]; exact HR⟩
        case measure => simp only [intOf]; omega
      · obtain ⟨o0, o1⟩ := (own_at HOW.out hlt).1 hh
        have HN0 : Hid (byTo F (lossList F G) os (i + 1) = (byTo F (lossList F G) os i).set (nth os i).toNat (rd (byTo F (lossList F G) os i) (nth os i) + nth (lossList F G) i)) := Lib.hid (byTo_yes hh)
        clear hh
        have cl : wr.cell? ⟨g4, i, none⟩ = some (.int .i16 (nth (lossList F G) i)) := (HK.out.blk HA7.out hne).cell (vrow_get (k := .i16) (zs := lossList F G) (i := i) (by rw [HLL.out]; exact hlt))
        obtain ⟨b0, b1⟩ := bdx_to F os HBL.out i (nth os i)
        obtain ⟨l0, l1⟩ := HBL.out i
        obtain ⟨q, hq⟩ : ∃ q : Nat, nth os i = (q : Int) := ⟨(nth os i).toNat, by omega⟩
        rw [hq] at ck o0 o1 b0 b1
        have HN1 := HN0.out
        rw [hq, Int.toNat_natCast] at HN1
        have HN := Lib.hid HN1
        clear HN0 HN1 hq
        have hq9 : q < 10 := by omega
        obtain ⟨co, fo⟩ := Kd.R_celln 0 HR.out (q : Int) (by omega) (by omega)
        rw [Int.toNat_natCast] at co fo
        have HP2 := Lib.hid (Kd.R_putn HR.out (q : Int) (rd (byTo F (lossList F G) os i) (q : Int) + nth (lossList F G) i))
        rw [Int.toNat_natCast] at HP2
        replace co : wr.cell? ⟨g, q, none⟩ = some (.int .i64 (rd (byTo F (lossList F G) os i) (q : Int))) := co
        generalize byTo F (lossList F G) os i = X at *
        generalize rd X (q : Int) = x at *
        generalize nth (lossList F G) i = z at *
        have ez : IntKind.i64.wrap z = z := by rw [IntKind.wrap_i64]; omega
        have ea : wrap64 (x + z) = x + z := by unfold wrap64; omega
        go_wp2
        go_region
        all_goals
          go_wp2
          go_roundw
          case rel =>
            refine ⟨i + 1, by omega, by go_num, ?_, ?_⟩
            · first | exact Lib.hid (HK.out.set _ _) | exact Lib.hid ((HK.out.drewN 1).set _ _) | exact Lib.hid ((HK.out.set _ _).drewN 1)
            · rw [HN.out]
              first | exact HP2 | exact Lib.hid (Kd.R_drewN HP2.out 1)
          case measure => simp only [intOf]; omega
    · obtain rfl : i = 100 := by omega
      have HE : Hid (byTo F (lossList F G) os 100 = byRes F G os) := Lib.hid rfl
      go_wp2
      go_ret
      exact ⟨_, rfl, by rw [← HE.out]; exact Kd.R_mono HR.out (fun _ _ => trivial), HK.out.below HB7.out hg1 HB7.out.size⟩

end Go.Proofs.Ytpkapkgfmibooaa
