/- Owners read, by the reference. No condition but those that each theorem names. -/
import Derived.Test.YtfeniekapmbjjaaDoorRO2
import Derived.Test.YtfeniekapmbjjaaDoorRP
namespace Go.Proofs.YtfeniekapmbjjaaDoor
open Go.RowKit Go.Proofs.YtfeniekapmbjjaaDoorW.PrintWords Go.Proofs.YtfeniekapmbjjaaDoorW.PrintLast Go.Proofs.YtfeniekapmbjjaaDoorW.PrintMore Go.Proofs.YtfeniekapmbjjaaDoor.PAll
set_option linter.unusedSimpArgs false
set_option linter.unusedVariables false

theorem upto_split : ∀ L : List ByteArray, ∃ R, L = upTo L ++ R ∧ (R = [] ∨ ∃ R2, R = emptyB :: R2) ∧ ∀ s ∈ upTo L, s ≠ emptyB
  | [] => ⟨[], rfl, .inl rfl, fun s h => by simp [upTo] at h⟩
  | s :: l => by
    simp only [upTo]
    by_cases h : s = emptyB
    · rw [if_pos h]
      exact ⟨s :: l, rfl, .inr ⟨l, by rw [h]⟩, fun s h => by simp at h⟩
    · rw [if_neg h]
      obtain ⟨R, h1, h2, h3⟩ := upto_split l
      refine ⟨R, by rw [List.cons_append, ← h1], h2, fun x hx => ?_⟩
      rcases List.mem_cons.1 hx with rfl | hx
      · exact h
      · exact h3 x hx
theorem lens_append : ∀ a b : List ByteArray, lensOf (a ++ b) = lensOf a + lensOf b
  | [], b => by simp [lensOf]
  | s :: a, b => by
    show s.size + 1 + lensOf (a ++ b) = (s.size + 1 + lensOf a) + lensOf b
    rw [lens_append a b]
    omega
theorem lens_append_le (a b : List ByteArray) : lensOf a ≤ lensOf (a ++ b) := by rw [lens_append]; omega
theorem lens_take (U : List ByteArray) (i : Nat) : lensOf (U.take i) ≤ lensOf U := by
  conv => rhs; rw [← List.take_append_drop i U]
  exact lens_append_le _ _
theorem lens_next {U : List ByteArray} {h : Nat} (hl : h < U.length) : lensOf (U.take (h + 1)) = lensOf (U.take h) + (U[h].size + 1) := by
  rw [List.take_succ_eq_append_getElem hl, lens_append]
  rfl
theorem endl_jn : ∀ y : List (List UInt8), y ≠ [] → (endl y).length = (jn 10 y).length + 1
  | [], h => absurd rfl h
  | [s], _ => by show (s ++ [10]).length = s.length + 1; simp
  | s :: s2 :: y, _ => by
    have ih := endl_jn (s2 :: y) (by simp)
    show (s ++ 10 :: endl (s2 :: y)).length = (s ++ 10 :: jn 10 (s2 :: y)).length + 1
    rw [List.length_append, List.length_cons, ih, List.length_append, List.length_cons]
    omega
theorem lens_cut (t : ByteArray) : lensOf (cutS 10 t) = t.size + 1 := by
  unfold cutS
  rw [lens_endl, endl_jn _ (sp_ne _ _), jn_sp, size_data]
theorem not_empty {a : ByteArray} (h : a ≠ emptyB) : a.toList.isEmpty = false := by
  cases hq : a.toList.isEmpty with
  | false => rfl
  | true => exact absurd (empty_of hq) h
theorem is_empty {a : ByteArray} (h : a = emptyB) : a.toList.isEmpty = true := by rw [h]; exact List.isEmpty_iff.2 list_nil
theorem ext_size (t : ByteArray) (a : Nat) (h : t.size ≤ 1048576) : (t.extract a t.size).size ≤ 1048576 := by
  rw [ByteArray.size_extract]
  omega
set_option maxRecDepth 100000 in
set_option maxHeartbeats 8000000 in
theorem sReadOwners_short (t : ByteArray) (hs : t.size ≤ 1048576) (w : World) (hA : t.size < lensOf (upTo (cutS 10 t)) + 1) :
    Calls Tryd.prog 9 #[.string t] w fun e w' => e = .returned (readOut2 none) ∧ Below w.heap.size w w' := by
  have hz := zero_field
  have hz2 := zero_own
  have HQ := Lib.hid (fun w1 => sSplit_any t 10 hs w1)
  obtain ⟨L, hL⟩ : ∃ L, L = cutS 10 t := ⟨_, rfl⟩
  have h2 : L.length ≤ 1048577 := by rw [hL]; exact Nat.le_trans (cutS_len 10 t) (by omega)
  have h3 : ∀ p ∈ L, p.size ≤ 1048576 := fun p hp => by rw [hL] at hp; exact Nat.le_trans (cutS_mem 10 t hp) hs
  have hln : lensOf L = t.size + 1 := by rw [hL]; exact lens_cut t
  obtain ⟨U, hU⟩ : ∃ U, U = upTo L := ⟨_, rfl⟩
  obtain ⟨R, hR, hR2, hne⟩ := upto_split L
  rw [← hL] at HQ
  rw [← hU] at hR hne
  rw [← hL, ← hU] at hA
  clear hL hU
  have hUL : U.length ≤ L.length := by rw [hR, List.length_append]; omega
  have hget : ∀ i (h : i < U.length), L[i]'(by omega) = U[i] := fun i h => by
    have e : L[i]? = U[i]? := by rw [hR, List.getElem?_append_left h]
    rw [List.getElem?_eq_getElem (by omega), List.getElem?_eq_getElem h] at e
    exact Option.some.inj e
  have htk : ∀ i, lensOf (U.take i) ≤ 1048577 := fun i => by
    have h1 := lens_take U i
    have h4 : lensOf U ≤ lensOf L := by rw [hR]; exact lens_append_le U R
    omega
  have HR := Lib.hid hR
  have HR2 := Lib.hid hR2
  have HA := Lib.hid hA
  clear hln hR hR2 hA
  go_enter Tryd.func9, Tryd.ntmps9
  go_upto_region 1 with (fail)
  obtain ⟨W, hW⟩ : ∃ W, W = (w.alloc (.cells zfld.vals.toArray 30)).alloc (.cells (vrow .i8 zown).toArray 32) := ⟨_, rfl⟩
  have HT := Lib.hid (Two.start w)
  rw [← hW] at HT ⊢
  clear hW
  go_upto_region 2 with (first
    | (go_at_call 23; refine (HQ.out _).mono ?_; rintro e w1 ⟨ad, c, rfl, hc, hst, hge, hb⟩; have HT1 := Lib.hid (HT.out.step hb); have HST := Lib.hid hst; clear hst hb hge))
  go_wp2
  go_loopw [6, 7] (fun u v wr => ∃ h : Nat, h ≤ U.length ∧ u = .int .i64 h ∧ v = .int .i64 (lensOf (U.take h) : Nat) ∧ Hid (Below w1.heap.size w1 wr)) (fun u _ _ => U.length - (intOf u).toNat)
  case atStart => exact ⟨0, by omega, rfl, rfl, Lib.hid (Below.refl _ _)⟩
  case round =>
    obtain ⟨h, hh, rfl, rfl, HB⟩ := hrel
    by_cases hlt : h < U.length
    · have hcl := (HST.out.below HB.out).c h (by omega)
      rw [hget h hlt] at hcl
      have f1 := not_empty (hne _ (List.getElem_mem hlt))
      have f0 : decide ((h : Int) < (L.length : Int)) = true := decide_eq_true (by omega)
      have hsz := h3 U[h] (by rw [← hget h hlt]; exact List.getElem_mem _)
      have eln := lens_next hlt
      have hbd := htk (h + 1)
      rw [eln] at hbd
      clear hne hget htk h3
      generalize U[h] = s at *
      rw [show lensOf (U.take h) = lensOf (U.take h) from rfl] at *
      generalize lensOf (U.take h) = a at *
      go_wp2
      go_roundw
      case rel => exact ⟨h + 1, hlt, by go_num, by rw [eln]; go_num, HB⟩
      case measure => simp only [intOf]; omega
    · obtain rfl : h = U.length := by omega
      rw [List.take_length] at *
      have hlU := htk U.length
      rw [List.take_length] at hlU
      clear hget htk hne hlt hh
      have HT2 := Lib.hid (HT1.out.step HB.out)
      have fA : decide ((t.size : Int) < (lensOf U : Int) + 1) = true := decide_eq_true (by have := HA.out; omega)
      rcases HR2.out with hR2 | ⟨R2, hR2⟩
      · have f0 : L.length = U.length := by rw [HR.out, hR2, List.append_nil]
        clear HR HR2 hR2
        generalize L.length = nL at *
        subst f0
        have hst1 := run_storeCells_blk (P := Tryd.prog) HT2.out.f (vs := zfld.vals) rfl zfld.one; have hst2 := run_storeCells_blk (P := Tryd.prog) (HT2.out.row zfld).o (vs := vrow .i8 zown) rfl (vrow_one _ _)
        go_wp2
        exact post_blk3 (p := 2) (q := 3) (r := 4) (T := 30) (T2 := 32) rfl rfl rfl rfl rfl ((HT2.out.row zfld).row2 zown).f Tryd.underlying30 rfl (by rw [zfld_ok.len]; kernel_rfl) ((HT2.out.row zfld).row2 zown).o Tryd.underlying32 rfl (by rw [vrow_len, zown_len]; kernel_rfl) ⟨rfl, ((HT2.out.row zfld).row2 zown).b⟩
      · have hll : U.length < L.length := by rw [HR.out, hR2]; simp
        have f0 : decide ((U.length : Int) < (L.length : Int)) = true := decide_eq_true (by omega)
        have hcl := (HST.out.below HB.out).c U.length hll
        have eLe : L[U.length] = emptyB := by
          have e : L[U.length]? = some emptyB := by rw [HR.out, hR2, List.getElem?_append_right (Nat.le_refl _), Nat.sub_self]; rfl
          rw [List.getElem?_eq_getElem hll] at e
          exact Option.some.inj e
        have f1 := is_empty eLe
        generalize L[U.length] = s0 at *
        clear HR HR2 hR2 eLe
        have hst1 := run_storeCells_blk (P := Tryd.prog) HT2.out.f (vs := zfld.vals) rfl zfld.one; have hst2 := run_storeCells_blk (P := Tryd.prog) (HT2.out.row zfld).o (vs := vrow .i8 zown) rfl (vrow_one _ _)
        go_wp2
        exact post_blk3 (p := 2) (q := 3) (r := 4) (T := 30) (T2 := 32) rfl rfl rfl rfl rfl ((HT2.out.row zfld).row2 zown).f Tryd.underlying30 rfl (by rw [zfld_ok.len]; kernel_rfl) ((HT2.out.row zfld).row2 zown).o Tryd.underlying32 rfl (by rw [vrow_len, zown_len]; kernel_rfl) ⟨rfl, ((HT2.out.row zfld).row2 zown).b⟩
set_option maxRecDepth 100000 in
set_option maxHeartbeats 8000000 in
theorem sReadOwners_none (t : ByteArray) (hs : t.size ≤ 1048576) (w : World) (hA : ¬ t.size < lensOf (upTo (cutS 10 t)) + 1) (hR0 : sRead (t.extract (lensOf (upTo (cutS 10 t)) + 1) t.size) = none) :
    Calls Tryd.prog 9 #[.string t] w fun e w' => e = .returned (readOut2 none) ∧ Below w.heap.size w w' := by
  have hz := zero_field
  have hz2 := zero_own
  have HQ := Lib.hid (fun w1 => sSplit_any t 10 hs w1)
  obtain ⟨L, hL⟩ : ∃ L, L = cutS 10 t := ⟨_, rfl⟩
  have h2 : L.length ≤ 1048577 := by rw [hL]; exact Nat.le_trans (cutS_len 10 t) (by omega)
  have h3 : ∀ p ∈ L, p.size ≤ 1048576 := fun p hp => by rw [hL] at hp; exact Nat.le_trans (cutS_mem 10 t hp) hs
  have hln : lensOf L = t.size + 1 := by rw [hL]; exact lens_cut t
  obtain ⟨U, hU⟩ : ∃ U, U = upTo L := ⟨_, rfl⟩
  obtain ⟨R, hR, hR2, hne⟩ := upto_split L
  rw [← hL] at HQ
  rw [← hU] at hR hne
  rw [← hL, ← hU] at hA hR0
  have HRF := Lib.hid (fun w1 => sReadField_any (t.extract (lensOf U + 1) t.size) (ext_size t _ hs) w1)
  rw [hR0] at HRF
  simp only [readOut] at HRF
  clear hR0
  clear hL hU
  have hUL : U.length ≤ L.length := by rw [hR, List.length_append]; omega
  have hget : ∀ i (h : i < U.length), L[i]'(by omega) = U[i] := fun i h => by
    have e : L[i]? = U[i]? := by rw [hR, List.getElem?_append_left h]
    rw [List.getElem?_eq_getElem (by omega), List.getElem?_eq_getElem h] at e
    exact Option.some.inj e
  have htk : ∀ i, lensOf (U.take i) ≤ 1048577 := fun i => by
    have h1 := lens_take U i
    have h4 : lensOf U ≤ lensOf L := by rw [hR]; exact lens_append_le U R
    omega
  have HR := Lib.hid hR
  have HR2 := Lib.hid hR2
  have HA := Lib.hid hA
  have HLN := Lib.hid hln
  clear hln hR hR2 hA
  go_enter Tryd.func9, Tryd.ntmps9
  go_upto_region 1 with (fail)
  obtain ⟨W, hW⟩ : ∃ W, W = (w.alloc (.cells zfld.vals.toArray 30)).alloc (.cells (vrow .i8 zown).toArray 32) := ⟨_, rfl⟩
  have HT := Lib.hid (Two.start w)
  rw [← hW] at HT ⊢
  clear hW
  go_upto_region 2 with (first
    | (go_at_call 23; refine (HQ.out _).mono ?_; rintro e w1 ⟨ad, c, rfl, hc, hst, hge, hb⟩; have HT1 := Lib.hid (HT.out.step hb); have HST := Lib.hid hst; clear hst hb hge))
  go_wp2
  go_loopw [6, 7] (fun u v wr => ∃ h : Nat, h ≤ U.length ∧ u = .int .i64 h ∧ v = .int .i64 (lensOf (U.take h) : Nat) ∧ Hid (Below w1.heap.size w1 wr)) (fun u _ _ => U.length - (intOf u).toNat)
  case atStart => exact ⟨0, by omega, rfl, rfl, Lib.hid (Below.refl _ _)⟩
  case round =>
    obtain ⟨h, hh, rfl, rfl, HB⟩ := hrel
    by_cases hlt : h < U.length
    · have hcl := (HST.out.below HB.out).c h (by omega)
      rw [hget h hlt] at hcl
      have f1 := not_empty (hne _ (List.getElem_mem hlt))
      have f0 : decide ((h : Int) < (L.length : Int)) = true := decide_eq_true (by omega)
      have hsz := h3 U[h] (by rw [← hget h hlt]; exact List.getElem_mem _)
      have eln := lens_next hlt
      have hbd := htk (h + 1)
      rw [eln] at hbd
      clear hne hget htk h3
      generalize U[h] = s at *
      rw [show lensOf (U.take h) = lensOf (U.take h) from rfl] at *
      generalize lensOf (U.take h) = a at *
      go_wp2
      go_roundw
      case rel => exact ⟨h + 1, hlt, by go_num, by rw [eln]; go_num, HB⟩
      case measure => simp only [intOf]; omega
    · obtain rfl : h = U.length := by omega
      rw [List.take_length] at *
      have hlU := htk U.length
      rw [List.take_length] at hlU
      clear hget htk hne hlt hh
      have HT2 := Lib.hid (HT1.out.step HB.out)
      have fA : decide ((t.size : Int) < (lensOf U : Int) + 1) = false := decide_eq_false (by have := HA.out; omega)
      obtain ⟨R2, hR2⟩ : ∃ R2, R = emptyB :: R2 := by
        rcases HR2.out with h | h
        · exfalso
          have h1 := HLN.out
          rw [HR.out, h, List.append_nil] at h1
          have := HA.out
          omega
        · exact h
      have hll : U.length < L.length := by rw [HR.out, hR2]; simp
      have f0 : decide ((U.length : Int) < (L.length : Int)) = true := decide_eq_true (by omega)
      have hcl := (HST.out.below HB.out).c U.length hll
      have eLe : L[U.length] = emptyB := by
        have e : L[U.length]? = some emptyB := by rw [HR.out, hR2, List.getElem?_append_right (Nat.le_refl _), Nat.sub_self]; rfl
        rw [List.getElem?_eq_getElem hll] at e
        exact Option.some.inj e
      have f1 := is_empty eLe
      generalize L[U.length] = s0 at *
      clear HR HR2 hR2 eLe
      have hnt : lensOf U + 1 ≤ t.size := by have := HA.out; omega
      clear HA
      generalize lensOf U = n0 at *
      go_wp2_with (first
        | (go_at_call 24; refine (HRF.out _).mono ?_; rintro e w2 ⟨rfl, hb⟩; have HT3 := Lib.hid (HT2.out.step hb); have hsto := run_storeCells_blk (P := Tryd.prog) (Blk.new' w2 zfld.vals 30) (vs := zfld.vals) rfl zfld.one; have HT4 : Hid (Two w ((w2.alloc (.cells zfld.vals.toArray 30)).setRow w2.heap.size zfld.vals.toArray) zfld zown) := Lib.hid (HT3.out.step (below_setRow ((Below.refl _ _).alloc (Nat.le_refl _) _) (Nat.le_refl _) _)); have hst1 := run_storeCells_blk (P := Tryd.prog) HT4.out.f (vs := zfld.vals) rfl zfld.one; have hst2 := run_storeCells_blk (P := Tryd.prog) (HT4.out.row zfld).o (vs := vrow .i8 zown) rfl (vrow_one _ _); clear hb))
      exact post_blk3 (p := 2) (q := 3) (r := 4) (T := 30) (T2 := 32) rfl rfl rfl rfl rfl ((HT4.out.row zfld).row2 zown).f Tryd.underlying30 rfl (by rw [zfld_ok.len]; kernel_rfl) ((HT4.out.row zfld).row2 zown).o Tryd.underlying32 rfl (by rw [vrow_len, zown_len]; kernel_rfl) ⟨rfl, ((HT4.out.row zfld).row2 zown).b⟩
set_option maxRecDepth 100000 in
set_option maxHeartbeats 8000000 in
theorem sReadOwners_some (t : ByteArray) (hs : t.size ≤ 1048576) (w : World) (hA : ¬ t.size < lensOf (upTo (cutS 10 t)) + 1) (F : Fld) (hR0 : sRead (t.extract (lensOf (upTo (cutS 10 t)) + 1) t.size) = some F) :
    Calls Tryd.prog 9 #[.string t] w fun e w' => e = .returned (readOut2 (ownersOf (upTo (cutS 10 t)) F)) ∧ Below w.heap.size w w' := by
  have hz := zero_field
  have hz2 := zero_own
  have HQ := Lib.hid (fun w1 => sSplit_any t 10 hs w1)
  obtain ⟨L, hL⟩ : ∃ L, L = cutS 10 t := ⟨_, rfl⟩
  have h2 : L.length ≤ 1048577 := by rw [hL]; exact Nat.le_trans (cutS_len 10 t) (by omega)
  have h3 : ∀ p ∈ L, p.size ≤ 1048576 := fun p hp => by rw [hL] at hp; exact Nat.le_trans (cutS_mem 10 t hp) hs
  have hln : lensOf L = t.size + 1 := by rw [hL]; exact lens_cut t
  obtain ⟨U, hU⟩ : ∃ U, U = upTo L := ⟨_, rfl⟩
  obtain ⟨R, hR, hR2, hne⟩ := upto_split L
  rw [← hL] at HQ
  rw [← hU] at hR hne
  rw [← hL, ← hU] at hA hR0 ⊢
  have HRF := Lib.hid (fun w1 => sReadField_any (t.extract (lensOf U + 1) t.size) (ext_size t _ hs) w1)
  have HO := Lib.hid (sRead_full hR0).1
  have HV := Lib.hid (sRead_full hR0).2.1
  rw [hR0] at HRF
  simp only [readOut] at HRF
  clear hR0
  obtain ⟨Z, hZ⟩ : ∃ Z, Z = ownersOf U F := ⟨_, rfl⟩
  rw [← hZ]
  unfold ownersOf at hZ
  have hFl := HO.out.len
  have hhw : wrap64 F.high = F.high := by have := HO.out.h0; have := HO.out.h1; unfold wrap64; omega
  clear hL hU
  have hUL : U.length ≤ L.length := by rw [hR, List.length_append]; omega
  have hget : ∀ i (h : i < U.length), L[i]'(by omega) = U[i] := fun i h => by
    have e : L[i]? = U[i]? := by rw [hR, List.getElem?_append_left h]
    rw [List.getElem?_eq_getElem (by omega), List.getElem?_eq_getElem h] at e
    exact Option.some.inj e
  have htk : ∀ i, lensOf (U.take i) ≤ 1048577 := fun i => by
    have h1 := lens_take U i
    have h4 : lensOf U ≤ lensOf L := by rw [hR]; exact lens_append_le U R
    omega
  have HR := Lib.hid hR
  have HR2 := Lib.hid hR2
  have HA := Lib.hid hA
  have HLN := Lib.hid hln
  clear hln hR hR2 hA
  go_enter Tryd.func9, Tryd.ntmps9
  go_upto_region 1 with (fail)
  obtain ⟨W, hW⟩ : ∃ W, W = (w.alloc (.cells zfld.vals.toArray 30)).alloc (.cells (vrow .i8 zown).toArray 32) := ⟨_, rfl⟩
  have HT := Lib.hid (Two.start w)
  rw [← hW] at HT ⊢
  clear hW
  go_upto_region 2 with (first
    | (go_at_call 23; refine (HQ.out _).mono ?_; rintro e w1 ⟨ad, c, rfl, hc, hst, hge, hb⟩; have HT1 := Lib.hid (HT.out.step hb); have HST := Lib.hid hst; clear hst hb hge))
  go_wp2
  go_loopw [6, 7] (fun u v wr => ∃ h : Nat, h ≤ U.length ∧ u = .int .i64 h ∧ v = .int .i64 (lensOf (U.take h) : Nat) ∧ Hid (Below w1.heap.size w1 wr)) (fun u _ _ => U.length - (intOf u).toNat)
  case atStart => exact ⟨0, by omega, rfl, rfl, Lib.hid (Below.refl _ _)⟩
  case round =>
    obtain ⟨h, hh, rfl, rfl, HB⟩ := hrel
    by_cases hlt : h < U.length
    · have hcl := (HST.out.below HB.out).c h (by omega)
      rw [hget h hlt] at hcl
      have f1 := not_empty (hne _ (List.getElem_mem hlt))
      have f0 : decide ((h : Int) < (L.length : Int)) = true := decide_eq_true (by omega)
      have hsz := h3 U[h] (by rw [← hget h hlt]; exact List.getElem_mem _)
      have eln := lens_next hlt
      have hbd := htk (h + 1)
      rw [eln] at hbd
      clear hne hget htk h3
      generalize U[h] = s at *
      rw [show lensOf (U.take h) = lensOf (U.take h) from rfl] at *
      generalize lensOf (U.take h) = a at *
      go_wp2
      go_roundw
      case rel => exact ⟨h + 1, hlt, by go_num, by rw [eln]; go_num, HB⟩
      case measure => simp only [intOf]; omega
    · obtain rfl : h = U.length := by omega
      rw [List.take_length] at *
      have hlU := htk U.length
      rw [List.take_length] at hlU
      have HGET := Lib.hid hget
      have H3 := Lib.hid h3
      clear hget htk hne hlt hh
      have HT2 := Lib.hid (HT1.out.step HB.out)
      have fA : decide ((t.size : Int) < (lensOf U : Int) + 1) = false := decide_eq_false (by have := HA.out; omega)
      obtain ⟨R2, hR2⟩ : ∃ R2, R = emptyB :: R2 := by
        rcases HR2.out with h | h
        · exfalso
          have h1 := HLN.out
          rw [HR.out, h, List.append_nil] at h1
          have := HA.out
          omega
        · exact h
      have hll : U.length < L.length := by rw [HR.out, hR2]; simp
      have f0 : decide ((U.length : Int) < (L.length : Int)) = true := decide_eq_true (by omega)
      have hcl := (HST.out.below HB.out).c U.length hll
      have eLe : L[U.length] = emptyB := by
        have e : L[U.length]? = some emptyB := by rw [HR.out, hR2, List.getElem?_append_right (Nat.le_refl _), Nat.sub_self]; rfl
        rw [List.getElem?_eq_getElem hll] at e
        exact Option.some.inj e
      have f1 := is_empty eLe
      generalize L[U.length] = s0 at *
      clear HR HR2 hR2 eLe
      have hnt : lensOf U + 1 ≤ t.size := by have := HA.out; omega
      clear HA
      generalize lensOf U = n0 at *
      by_cases c1 : (U.length : Int) ≠ F.high
      · rw [if_pos c1] at hZ
        subst hZ
        have f2 : ((U.length : Int) != F.high) = true := by simpa using c1
        clear c1
        go_wp2_with (first
          | (go_at_call 24; refine (HRF.out _).mono ?_; rintro e w2 ⟨rfl, hb⟩; have HT3 := Lib.hid (HT2.out.step hb); have HST2 := Lib.hid ((HST.out.below HB.out).below hb); have hsto := run_storeCells_blk (P := Tryd.prog) (Blk.new' w2 zfld.vals 30) (vs := F.vals) (by rw [HO.out.len, zfld_ok.len]) F.one; have HT4 : Hid (Two w ((w2.alloc (.cells zfld.vals.toArray 30)).setRow w2.heap.size F.vals.toArray) zfld zown) := Lib.hid (HT3.out.step (below_setRow ((Below.refl _ _).alloc (Nat.le_refl _) _) (Nat.le_refl _) _)); have HF4 : Hid (IsF ((w2.alloc (.cells zfld.vals.toArray 30)).setRow w2.heap.size F.vals.toArray) w2.heap.size F) := Lib.hid ((Blk.new' w2 zfld.vals 30).row F.vals); have ch := IsF.c1 HF4.out; have hst1 := run_storeCells_blk (P := Tryd.prog) HT4.out.f (vs := zfld.vals) rfl zfld.one; have hst2 := run_storeCells_blk (P := Tryd.prog) (HT4.out.row zfld).o (vs := vrow .i8 zown) rfl (vrow_one _ _); clear hb))
        exact post_blk3 (p := 2) (q := 3) (r := 4) (T := 30) (T2 := 32) rfl rfl rfl rfl rfl ((HT4.out.row zfld).row2 zown).f Tryd.underlying30 rfl (by rw [zfld_ok.len]; kernel_rfl) ((HT4.out.row zfld).row2 zown).o Tryd.underlying32 rfl (by rw [vrow_len, zown_len]; kernel_rfl) ⟨rfl, ((HT4.out.row zfld).row2 zown).b⟩
      · rw [if_neg c1] at hZ
        have f3 : (U.length : Int) = F.high := Decidable.of_not_not c1
        have f2 : ((U.length : Int) != F.high) = false := by rw [f3]; simp
        have f4 : ((U.length : Int) = F.high) = True := eq_true f3
        have hl10 : U.length ≤ 10 := by have := inB_iff.1 HV.out.h; omega
        clear c1 f3
        go_upto_region 12 with (first
          | (go_at_call 24; refine (HRF.out _).mono ?_; rintro e w2 ⟨rfl, hb⟩; have HT3 := Lib.hid (HT2.out.step hb); have HST2 := Lib.hid ((HST.out.below HB.out).below hb); have hsto := run_storeCells_blk (P := Tryd.prog) (Blk.new' w2 zfld.vals 30) (vs := F.vals) (by rw [HO.out.len, zfld_ok.len]) F.one; have HT4 : Hid (Two w ((w2.alloc (.cells zfld.vals.toArray 30)).setRow w2.heap.size F.vals.toArray) zfld zown) := Lib.hid (HT3.out.step (below_setRow ((Below.refl _ _).alloc (Nat.le_refl _) _) (Nat.le_refl _) _)); have HF4 : Hid (IsF ((w2.alloc (.cells zfld.vals.toArray 30)).setRow w2.heap.size F.vals.toArray) w2.heap.size F) := Lib.hid ((Blk.new' w2 zfld.vals 30).row F.vals); have ch := IsF.c1 HF4.out;  clear hb))
        obtain ⟨w3, hw3⟩ : ∃ w3, w3 = (w2.alloc (.cells zfld.vals.toArray 30)).setRow w2.heap.size F.vals.toArray := ⟨_, rfl⟩
        have HB3 : Hid (Below w2.heap.size w2 w3) := Lib.hid (by rw [hw3]; exact below_setRow ((Below.refl _ _).alloc (Nat.le_refl _) _) (Nat.le_refl _) _)
        have HST3 := Lib.hid (HST2.out.below HB3.out)
        rw [← hw3] at HT4 HF4 ⊢
        clear hw3 HT3 HT2 hsto ch HST2 HB3 hcl f1 f0 f2 f4
        have HF3 : Hid (IsF w3 w2.heap.size F) := HF4
        have HT3 := HT4
        clear HT4 HF4
        have hst3 := run_storeCells_blk (P := Tryd.prog) (Blk.new' w3 (vrow .i8 zown) 32) (vs := vrow .i8 zown) rfl (vrow_one _ _)
        have hb1 : w3.heap.size ≤ w3.heap.size := Nat.le_refl _
        have hlt8 : w2.heap.size < w3.heap.size := HF3.out.lt
        have hltA : w.heap.size + 1 < w3.heap.size := HT3.out.o.lt
        have cw := HF3.out.c0
        go_wp2
        clear hst3
        go_loopw [11] (fun v wr => ∃ i : Nat, i ≤ 100 ∧ v = .int .i64 i ∧ Hid (Blk wr w3.heap.size (vrow .i8 (fillO i)) 32) ∧ Hid (Below w3.heap.size w3 wr)) (fun v _ => 100 - (intOf v).toNat)
        case atStart => exact ⟨0, by omega, rfl, Lib.hid ((Blk.new' w3 (vrow .i8 zown) 32).row _), Lib.hid (below_setRow ((Below.refl _ _).alloc (Nat.le_refl _) _) (Nat.le_refl _) _)⟩
        case round =>
          obtain ⟨i, hi, rfl, HK, HB⟩ := hrel
          by_cases hlt : i < 100
          · have fi := HK.out.free i
            have ci := HK.out.cell (vrow_get (k := .i8) (zs := fillO i) (i := i) (by rw [fillO_len hi]; exact hlt))
            go_wp2
            go_roundw
            case rel => exact ⟨i + 1, hlt, by go_num, Lib.hid (by rw [← fillO_set hlt]; exact HK.out.set _ _), Lib.hid (below_setCell HB.out (Nat.le_refl _) _ _)⟩
            case measure => simp only [intOf]; omega
          · have HK0 : Hid (Blk wr w3.heap.size (vrow .i8 bareO) 32) := Lib.hid (by rw [← fillO_end, ← (show i = 100 by omega)]; exact HK.out)
            have HB0 := HB
            clear HK HB
            have hR : linesO F.wide bareO 0 (U.drop 0) = linesO F.wide bareO 0 U := rfl
            generalize linesO F.wide bareO 0 U = R at *
            go_wp2
            go_loopw [12] (fun v wr => ∃ (y : Nat) (os : List Int), y ≤ U.length ∧ v = .int .i64 y ∧ OsOk os ∧ linesO F.wide os y (U.drop y) = R ∧ Hid (Blk wr w3.heap.size (vrow .i8 os) 32) ∧ Hid (Below w3.heap.size w3 wr)) (fun v _ => U.length - (intOf v).toNat)
            case atStart => exact ⟨0, bareO, by omega, rfl, bareO_ok, hR, HK0, HB0⟩
            case round =>
              clear hR HK0 HB0
              obtain ⟨y, os, hy, rfl, ho, hR, HK, HBr⟩ := hrel
              by_cases hlt : y < U.length
              · have hly := (HST3.out.below HBr.out).c y (by omega)
                rw [HGET.out y hlt] at hly
                rw [List.drop_eq_getElem_cons hlt] at hR
                simp only [linesO] at hR
                have hls := H3.out U[y] (by rw [← HGET.out y hlt]; exact List.getElem_mem _)
                have HQ2 := Lib.hid (fun wa => sSplit_any U[y] 32 hls wa)
                have hws : ∀ p ∈ cutS 32 U[y], p.size ≤ 281474976710656 := fun p hp => by have := cutS_mem 32 U[y] hp; omega
                have hw2 : (cutS 32 U[y]).length ≤ 1048577 := Nat.le_trans (cutS_len 32 U[y]) (by omega)
                generalize hrest : U.drop (y + 1) = rest at hR
                clear hls
                generalize cutS 32 U[y] = ws at *
                generalize U[y] = ln at *
                obtain ⟨m, hm⟩ : ∃ m, ws.length = m := ⟨_, rfl⟩
                rw [hm] at hR hw2
                have cwr := pw_cell_below HBr.out cw
                have hww : wrap64 F.wide = F.wide := by have := HO.out.w0; have := HO.out.w1; unfold wrap64; omega
                have HTr := Lib.hid (HT3.out.step HBr.out)
                by_cases d1 : (m : Int) ≠ F.wide
                · rw [if_pos d1] at hR
                  subst hR
                  obtain rfl : Z = none := hZ
                  have g1 : ((m : Int) != F.wide) = true := by simpa using d1
                  go_wp2_with (first
                    | (go_at_call 23; refine (HQ2.out _).mono ?_; rintro e w5 ⟨ad2, c2, rfl, hc2, hst2', hge2, hb2⟩; rw [hm]; have HT5 := Lib.hid (HTr.out.step hb2); have hst1 := run_storeCells_blk (P := Tryd.prog) HT5.out.f (vs := zfld.vals) rfl zfld.one; have hst2 := run_storeCells_blk (P := Tryd.prog) (HT5.out.row zfld).o (vs := vrow .i8 zown) rfl (vrow_one _ _); have cw5 := pw_cell_below hb2 cwr; clear hst2' hb2))
                  exact post_blk3 (p := 2) (q := 3) (r := 4) (T := 30) (T2 := 32) rfl rfl rfl rfl rfl ((HT5.out.row zfld).row2 zown).f Tryd.underlying30 rfl (by rw [zfld_ok.len]; kernel_rfl) ((HT5.out.row zfld).row2 zown).o Tryd.underlying32 rfl (by rw [vrow_len, zown_len]; kernel_rfl) ⟨rfl, ((HT5.out.row zfld).row2 zown).b⟩
                · rw [if_neg d1] at hR
                  have g0 : (m : Int) = F.wide := Decidable.of_not_not d1
                  have g1 : ((m : Int) != F.wide) = false := by rw [g0]; simp
                  have g2 : ((m : Int) = F.wide) = True := eq_true g0
                  have hm10 : m ≤ 10 := by have := inB_iff.1 HV.out.w; omega
                  clear g0 d1
                  go_wp2_with (first
                    | (go_at_call 23; refine (HQ2.out _).mono ?_; rintro e w5 ⟨ad2, c2, rfl, hc2, hst2', hge2, hb2⟩; rw [hm]; have HK5 := Lib.hid (HK.out.below hb2 HK.out.lt); have HB5 := Lib.hid (HBr.out.trans (hb2.mono HBr.out.size)); have HW5 := Lib.hid hst2'; have cw5 := pw_cell_below hb2 cwr; clear hst2' hb2))
                  have hne : ad2.block ≠ w3.heap.size := by have := HK.out.lt; omega
                  clear cw5 hge2 cwr
                  go_loopw [14] (fun v wr2 => ∃ (x : Nat) (os2 : List Int), x ≤ m ∧ v = .int .i64 x ∧ OsOk os2 ∧ ((rowO y os2 x (ws.drop x)).bind fun os => linesO F.wide os (y + 1) rest) = R ∧ Hid (Blk wr2 w3.heap.size (vrow .i8 os2) 32) ∧ Hid (Strs wr2 ad2 ws) ∧ Hid (Below w3.heap.size w3 wr2)) (fun v _ => m - (intOf v).toNat)
                  case atStart => exact ⟨0, os, by omega, rfl, ho, hR, HK5, HW5, HB5⟩
                  case round =>
                    clear hR HK HBr HTr HK5 HW5 HB5 ho hww
                    obtain ⟨x, os2, hx, rfl, ho2, hR, HK2, HW2, HB2⟩ := hrel
                    by_cases hxl : x < m
                    · have hwx := HW2.out.c x (by omega)
                      rw [List.drop_eq_getElem_cons (by omega)] at hR
                      simp only [rowO] at hR
                      have hsz := hws ws[x] (List.getElem_mem _)
                      have hk100 : x + 10 * y < 100 := by omega
                      have HN := Lib.hid (sNumber_any ws[x] 9 (by decide))
                      generalize ws[x] = s at *
                      obtain ⟨r, hnum, ⟨v, v0, v1, rfl, hp⟩ | ⟨hno, hp⟩⟩ := HN.out
                      · rw [hp] at hR
                        rw [if_pos rfl] at hR
                        have hv : decide (10 ≤ v) = false := decide_eq_false (by omega)
                        have hv2 : wrap64 v = v := by unfold wrap64; omega
                        clear HN hp
                        go_wp2_with (first | (go_at_call 25; refine (hnum _).mono ?_; rintro e w6 ⟨rfl, hb⟩; have HK6 := Lib.hid (HK2.out.below hb HK2.out.lt); have HW6 := Lib.hid (HW2.out.below hb); have HB6 := Lib.hid (HB2.out.trans (hb.mono HB2.out.size)); have fz := HK6.out.free (x + 10 * y); have cx := HK6.out.cell (vrow_get (k := .i8) (zs := os2) (i := x + 10 * y) (by rw [ho2.len]; exact hk100)); clear hb))
                        go_roundw
                        case rel => exact ⟨x + 1, os2.set (x + 10 * y) v, hxl, by go_num, osok_set ho2 v0 v1, hR, Lib.hid (by rw [← vrow_set8]; exact HK6.out.set _ _), Lib.hid (HW6.out.set hne _ _), Lib.hid (below_setCell HB6.out (Nat.le_refl _) _ _)⟩
                        case measure => simp only [intOf]; omega
                      · rw [if_neg (by rw [hp]; decide)] at hR
                        simp only [Option.bind_none] at hR
                        subst hR
                        obtain rfl : Z = none := hZ
                        clear HN hp
                        obtain ⟨n9, b9⟩ := r
                        simp only at hno
                        cases b9 with
                        | false =>
                          go_wp2_with (first | (go_at_call 25; refine (hnum _).mono ?_; rintro e w6 ⟨rfl, hb⟩; have HK6 := Lib.hid (HK2.out.below hb HK2.out.lt); have HW6 := Lib.hid (HW2.out.below hb); have HB6 := Lib.hid (HB2.out.trans (hb.mono HB2.out.size)); have HT6 := Lib.hid (HT3.out.step HB6.out); have hst1 := run_storeCells_blk (P := Tryd.prog) HT6.out.f (vs := zfld.vals) rfl zfld.one; have hst2 := run_storeCells_blk (P := Tryd.prog) (HT6.out.row zfld).o (vs := vrow .i8 zown) rfl (vrow_one _ _); clear hb))
                          exact post_blk3 (p := 2) (q := 3) (r := 4) (T := 30) (T2 := 32) rfl rfl rfl rfl rfl ((HT6.out.row zfld).row2 zown).f Tryd.underlying30 rfl (by rw [zfld_ok.len]; kernel_rfl) ((HT6.out.row zfld).row2 zown).o Tryd.underlying32 rfl (by rw [vrow_len, zown_len]; kernel_rfl) ⟨rfl, ((HT6.out.row zfld).row2 zown).b⟩
                        | true =>
                          have hn9 : 9 < n9 := by rcases hno with h | h; cases h; exact h
                          have hv : decide (10 ≤ n9) = true := decide_eq_true (by omega)
                          clear hno
                          go_wp2_with (first | (go_at_call 25; refine (hnum _).mono ?_; rintro e w6 ⟨rfl, hb⟩; have HK6 := Lib.hid (HK2.out.below hb HK2.out.lt); have HW6 := Lib.hid (HW2.out.below hb); have HB6 := Lib.hid (HB2.out.trans (hb.mono HB2.out.size)); have HT6 := Lib.hid (HT3.out.step HB6.out); have hst1 := run_storeCells_blk (P := Tryd.prog) HT6.out.f (vs := zfld.vals) rfl zfld.one; have hst2 := run_storeCells_blk (P := Tryd.prog) (HT6.out.row zfld).o (vs := vrow .i8 zown) rfl (vrow_one _ _); clear hb))
                          exact post_blk3 (p := 2) (q := 3) (r := 4) (T := 30) (T2 := 32) rfl rfl rfl rfl rfl ((HT6.out.row zfld).row2 zown).f Tryd.underlying30 rfl (by rw [zfld_ok.len]; kernel_rfl) ((HT6.out.row zfld).row2 zown).o Tryd.underlying32 rfl (by rw [vrow_len, zown_len]; kernel_rfl) ⟨rfl, ((HT6.out.row zfld).row2 zown).b⟩
                    · obtain rfl : x = m := by omega
                      rw [List.drop_eq_nil_iff.2 (by omega)] at hR
                      simp only [rowO, Option.bind_some] at hR
                      go_wp2
                      go_roundw
                      case rel => exact ⟨y + 1, os2, hlt, by go_num, ho2, by rw [hrest]; exact hR, HK2, HB2⟩
                      case measure => simp only [intOf]; omega
              · obtain rfl : y = U.length := by omega
                rw [List.drop_length] at hR
                simp only [linesO] at hR
                subst hR
                obtain rfl : Z = some (F, os) := hZ
                have HTr := Lib.hid (HT3.out.step HBr.out)
                have HFr := Lib.hid (HF3.out.below' HBr.out)
                have hfl : (vrow .i8 os).length = 100 := by rw [vrow_len, ho.len]
                go_upto_region 30 with (fail)
                refine wp_region_K 2 5 #[false, false, false, false, false] (by kernel_rfl) (by kernel_rfl) (fun _ _ _ _ hd h => ⟨hd.symm.trans h.1, h.2⟩) (fun hPB => ?_)
                refine wpK_take (i := 0) (v := .agg F.vals.toArray) #[true, false, false, false, false] rfl (by kernel_rfl) hPB (y_load rfl 30 (.tmp 8) rfl (w2.heap.size) 0 (by kernel_rfl) F.vals _ HFr.out (by rw [List.drop_zero, List.take_length]) Tryd.underlying30 rfl (by rw [hFl]; kernel_rfl)) ?_
                simp only [List.getElem_toArray, List.getElem_cons_zero, List.getElem_cons_succ, Act.put, List.setIfInBounds_toArray, List.set_cons_zero, List.set_cons_succ]
                refine wpK_two (i := 1) (j := 2) #[true, true, false, false, false] #[true, false, true, false, false] (by kernel_rfl) (fun wa hu => ?_) (fun wa hu => ?_)
                · have HTa : Hid (Two w wa zfld zown) := Lib.hid (HTr.out.step ((below_drew1 (Below.refl _ _)).trans hu))
                  have HKa := Lib.hid (HK.out.below ((below_drew1 (Below.refl _ _)).trans hu) HK.out.lt)
                  clear hu
                  refine k_value rfl rfl (.agg (vrow .i8 os).toArray) (k_load 32 (.tmp 10) rfl (w3.heap.size) (vrow .i8 os) (by kernel_rfl) HKa.out Tryd.underlying32 rfl (by rw [hfl]; kernel_rfl)) ⟨fun _ => WUp.refl _, ?_⟩
                  simp only [List.getElem_toArray, List.getElem_cons_zero, List.getElem_cons_succ, Act.put, List.setIfInBounds_toArray, List.set_cons_zero, List.set_cons_succ]
                  refine wpK_only (i := 2) #[true, true, true, false, false] (by kernel_rfl) (fun wb hu => ?_)
                  have HTb : Hid (Two w wb zfld zown) := Lib.hid (HTa.out.step hu)
                  clear hu
                  refine k_store_all rfl rfl 30 (.tmp 2) (.tmp 120) rfl w.heap.size F.vals (by kernel_rfl) (by kernel_rfl) HTb.out.f (by rw [hFl, zfld_ok.len]) (by rw [hFl]; kernel_rfl) F.one ⟨fun h => absurd h (by decide), ?_⟩
                  simp only [List.getElem_toArray, List.getElem_cons_zero, List.getElem_cons_succ, Act.put, List.setIfInBounds_toArray, List.set_cons_zero, List.set_cons_succ]
                  refine wpK_only (i := 3) #[true, true, true, true, false] (by kernel_rfl) (fun wc hu => ?_)
                  have HTc : Hid (Two w wc F zown) := Lib.hid ((HTb.out.row F).step hu)
                  clear hu
                  refine k_store_all rfl rfl 32 (.tmp 3) (.tmp 121) rfl (w.heap.size + 1) (vrow .i8 os) (by kernel_rfl) (by kernel_rfl) HTc.out.o (by rw [hfl, vrow_len, zown_len]) (by rw [hfl]; kernel_rfl) (vrow_one _ _) ⟨fun h => absurd h (by decide), ?_⟩
                  simp only [List.getElem_toArray, List.getElem_cons_zero, List.getElem_cons_succ, Act.put, List.setIfInBounds_toArray, List.set_cons_zero, List.set_cons_succ]
                  refine wpK_only (i := 4) #[true, true, true, true, true] (by kernel_rfl) (fun wd hu => ?_)
                  have HTd : Hid (Two w wd F os) := Lib.hid ((HTc.out.row2 os).step hu)
                  clear hu
                  refine k_assign rfl rfl (.const (.int .i64 0)) rfl (.int .i64 0) (by kernel_rfl) ⟨fun h => absurd h (by decide), ?_⟩
                  simp only [List.getElem_toArray, List.getElem_cons_zero, List.getElem_cons_succ, Act.put, List.setIfInBounds_toArray, List.set_cons_zero, List.set_cons_succ]
                  refine wpK_done (by kernel_rfl) (fun we hu => ?_)
                  have HTe : Hid (Two w we F os) := Lib.hid (HTd.out.step hu)
                  clear hu
                  go_wp2
                  exact post_blk3 (p := 2) (q := 3) (r := 4) (T := 30) (T2 := 32) rfl rfl rfl rfl rfl HTe.out.f Tryd.underlying30 rfl (by rw [hFl]; kernel_rfl) HTe.out.o Tryd.underlying32 rfl (by rw [hfl]; kernel_rfl) ⟨rfl, HTe.out.b⟩
                · have HTa : Hid (Two w wa zfld zown) := Lib.hid (HTr.out.step ((below_drew1 (Below.refl _ _)).trans hu))
                  have HKa := Lib.hid (HK.out.below ((below_drew1 (Below.refl _ _)).trans hu) HK.out.lt)
                  clear hu
                  refine k_store_all rfl rfl 30 (.tmp 2) (.tmp 120) rfl w.heap.size F.vals (by kernel_rfl) (by kernel_rfl) HTa.out.f (by rw [hFl, zfld_ok.len]) (by rw [hFl]; kernel_rfl) F.one ⟨fun h => absurd h (by decide), ?_⟩
                  simp only [List.getElem_toArray, List.getElem_cons_zero, List.getElem_cons_succ, Act.put, List.setIfInBounds_toArray, List.set_cons_zero, List.set_cons_succ]
                  refine wpK_only (i := 1) #[true, true, true, false, false] (by kernel_rfl) (fun wb hu => ?_)
                  have HTb : Hid (Two w wb F zown) := Lib.hid ((HTa.out.row F).step hu)
                  have HKb := Lib.hid ((HKa.out.rowOther (Nat.ne_of_gt (Nat.lt_of_lt_of_le (Nat.lt_succ_self _) (Nat.le_of_lt hltA))) F.vals.toArray).below hu (HKa.out.rowOther (Nat.ne_of_gt (Nat.lt_of_lt_of_le (Nat.lt_succ_self _) (Nat.le_of_lt hltA))) F.vals.toArray).lt)
                  clear hu
                  refine k_value rfl rfl (.agg (vrow .i8 os).toArray) (k_load 32 (.tmp 10) rfl (w3.heap.size) (vrow .i8 os) (by kernel_rfl) HKb.out Tryd.underlying32 rfl (by rw [hfl]; kernel_rfl)) ⟨fun _ => WUp.refl _, ?_⟩
                  simp only [List.getElem_toArray, List.getElem_cons_zero, List.getElem_cons_succ, Act.put, List.setIfInBounds_toArray, List.set_cons_zero, List.set_cons_succ]
                  refine wpK_only (i := 3) #[true, true, true, true, false] (by kernel_rfl) (fun wc hu => ?_)
                  have HTc : Hid (Two w wc F zown) := Lib.hid (HTb.out.step hu)
                  clear hu
                  refine k_store_all rfl rfl 32 (.tmp 3) (.tmp 121) rfl (w.heap.size + 1) (vrow .i8 os) (by kernel_rfl) (by kernel_rfl) HTc.out.o (by rw [hfl, vrow_len, zown_len]) (by rw [hfl]; kernel_rfl) (vrow_one _ _) ⟨fun h => absurd h (by decide), ?_⟩
                  simp only [List.getElem_toArray, List.getElem_cons_zero, List.getElem_cons_succ, Act.put, List.setIfInBounds_toArray, List.set_cons_zero, List.set_cons_succ]
                  refine wpK_only (i := 4) #[true, true, true, true, true] (by kernel_rfl) (fun wd hu => ?_)
                  have HTd : Hid (Two w wd F os) := Lib.hid ((HTc.out.row2 os).step hu)
                  clear hu
                  refine k_assign rfl rfl (.const (.int .i64 0)) rfl (.int .i64 0) (by kernel_rfl) ⟨fun h => absurd h (by decide), ?_⟩
                  simp only [List.getElem_toArray, List.getElem_cons_zero, List.getElem_cons_succ, Act.put, List.setIfInBounds_toArray, List.set_cons_zero, List.set_cons_succ]
                  refine wpK_done (by kernel_rfl) (fun we hu => ?_)
                  have HTe : Hid (Two w we F os) := Lib.hid (HTd.out.step hu)
                  clear hu
                  go_wp2
                  exact post_blk3 (p := 2) (q := 3) (r := 4) (T := 30) (T2 := 32) rfl rfl rfl rfl rfl HTe.out.f Tryd.underlying30 rfl (by rw [hFl]; kernel_rfl) HTe.out.o Tryd.underlying32 rfl (by rw [hfl]; kernel_rfl) ⟨rfl, HTe.out.b⟩
/-- The reference's ReadOwners. -/
theorem sReadOwners_long (t : ByteArray) (hs : t.size ≤ 1048576) (w : World) :
    Calls Tryd.prog 9 #[.string t] w fun e w' => e = .returned (readOut2 (sOwn t)) ∧ Below w.heap.size w w' := by
  unfold sOwn
  by_cases hA : t.size < lensOf (upTo (cutS 10 t)) + 1
  · rw [if_pos hA]
    exact sReadOwners_short t hs w hA
  · rw [if_neg hA]
    cases h : sRead (t.extract (lensOf (upTo (cutS 10 t)) + 1) t.size) with
    | none => exact sReadOwners_none t hs w hA h
    | some F => exact sReadOwners_some t hs w hA F h
end Go.Proofs.YtfeniekapmbjjaaDoor
