/- TurnBeat, by the program and by the reference: the same. No condition but that the numbers are within their kinds. -/
import Derived.Test.YtmhkechkkpppaaaB2
import Derived.Test.YtmhkechkkpppaaaGR
import Derived.Test.YtmhkechkkpppaaaG3
namespace Go.Proofs.Ytmhkechkkpppaaa
open Go.RowKit Go.Proofs.YtmhkechkkpppaaaW.PrintWords Go.Proofs.YtmhkechkkpppaaaW.PrintLast Go.Proofs.YtmhkechkkpppaaaW.PrintMore Go.Proofs.Ytmhkechkkpppaaa.PAll
set_option linter.unusedSimpArgs false
set_option linter.unusedVariables false

section
variable {P : Program} {ops : Array Oper} {Q : Exit → Act → World → Prop} {S : World → Prop} {i f : Nat} {oi : Oper} {l : Array Bool} {a : Act} {α : Type} {W w0 : World}
/-- A literal slice in a region that draws its order. -/
theorem la_lit (l' : Array Bool) (N : Tmp) (hi : ops[i]? = some oi) (hN : oi.dst = some N) (hc : Go.Proofs.YtmhkechkkpppaaaW.PrintLast.readyB .any ops l l' i = true) (hw : Region.wanted oi (yielded ops a.tmps) = true)
    (d : Kd α) (base e : Nat) {xs : List α} {inner : List Value} {ok okp : Nat → Prop}
    (hrun : (execOp a.eval oi).run P W = .ok (.value (.slice (some ⟨W.heap.size, 0, none⟩) xs.length xs.length)) (W.alloc (.cells inner.toArray e)))
    (hrep : Reps (d.M W base okp) d.sz xs inner) (hok : ∀ k, okp k → ok k) (hfresh : ok W.heap.size) (HB : Below base w0 W) (hbase : base ≤ W.heap.size) (hm : xs.length ≤ 9223372036854775807)
    (h : ∀ v1 w1, d.R e w1 base ok v1 xs → Below base w0 w1 → S w1 ∧ wpAnyLast P .any ops Q S [] f l' (a.put (some N) v1) w1) : wpAnyLast P .any ops Q S [] (f + 1) l a W :=
  la_one l' (some N) hi hN hc hw fun K hK => by
    have key := Kd.R_lit_step (Kc := K) (Q := Q) (P := P) (ops := ops) (a := a) (o := oi) (w0 := w0) d base e hw hN hrun hrep hok hfresh HB hbase hm (fun v1 w1 h1 h2 _ _ => by
      obtain ⟨hS, hk⟩ := h v1 w1 h1 h2
      rw [hN]
      exact hK _ _ hS hk)
    rw [if_pos hw] at key
    exact key
/-- An append of a slice's elements in a region that draws its order. -/
theorem la_rows (l' : Array Bool) (N : Option Tmp) (hi : ops[i]? = some oi) (hN : oi.dst = N) (hc : Go.Proofs.YtmhkechkkpppaaaW.PrintLast.readyB .any ops l l' i = true) (hw : Region.wanted oi (yielded ops a.tmps) = true)
    (d : Kd α) {Rr : α → List Value → Prop} (base : Nat) (s x : Operand) (t e : TypeId) (z : Value) (bytes : Nat)
    (ho : oi.op = .call { callee := .builtin .append, args := #[s, x], argTypes := #[t, t] })
    (ht : P.underlying t = some (.slice e)) (hinfo : (P.info? e).map (fun i => (i.zero, i.size, i.bytes)) = some (some z, d.sz, bytes)) (hz : z.cells.size = d.sz) (hs0 : 0 < d.sz) (hb0 : 0 < bytes)
    (v : Value) (xs ys : List α) (A : Option Addr) (m c : Nat) (ok okp : Nat → Prop) (hs : a.eval s = v) (hx : a.eval x = .slice A m c)
    (HO : d.R e W base ok v xs) (HR : ReadsRow Rr d.sz W A m ys) (hKM : ∀ x cs, Rr x cs → d.M W base okp x cs) (hokp : ∀ k, okp k → ok k ∧ some k ≠ v.ownBlock) (hfresh : ∀ k, W.heap.size ≤ k → ok k)
    (HB : Below base w0 W) (hbase : base ≤ W.heap.size) (hl : (xs.length + m) * bytes ≤ 140737488355328)
    (h : ∀ v1 w1, d.R e w1 base ok v1 (xs ++ ys) → Below base w0 w1 → S w1 ∧ wpAnyLast P .any ops Q S [] f l' (a.put N v1) w1) : wpAnyLast P .any ops Q S [] (f + 1) l a W :=
  la_one l' N hi hN hc hw fun K hK => by
    have key := Kd.R_append_rows_step (Kc := K) (Q := Q) (P := P) (ops := ops) (a := a) (o := oi) (w0 := w0) d base hw s x t e z bytes ho ht hinfo hz hs0 hb0 v xs ys A m c ok okp hs hx HO HR hKM hokp hfresh HB hbase hl (fun v1 w1 h1 h2 _ _ => by
      obtain ⟨hS, hk⟩ := h v1 w1 h1 h2
      rw [hN]
      exact hK _ _ hS hk)
    rw [if_pos hw] at key
    exact key
end
theorem concat_at (xs ys : List Int) (n1 n2 : Nat) (e1 : xs.length = n1) (e2 : ys.length = n2) (A B : Option Addr) (c d : Nat) (g : Nat) (cc : Nat) (w : World) (h0 : w.cell? ⟨g, 0, none⟩ = some (.slice A n1 c)) (h1 : w.cell? ⟨g, 1, none⟩ = some (.slice B n2 d)) (hp : g < w.heap.size)
    (hA : Kd.C (Kd.int .i16) w A xs.length xs) (hB : Kd.C (Kd.int .i16) w B ys.length ys) (hl : 1 ≤ xs.length + ys.length) (hu : xs.length + ys.length ≤ 100) :
    Calls Try.prog 48 #[.slice (some ⟨g, 0, none⟩) 2 cc] w fun e w' => ∃ v : Value, e = .returned v ∧ MadeB w w' (xs ++ ys) v ∧ Below w.heap.size w w' := by
  subst e1 e2
  exact concat_any xs ys A B c d g cc w h0 h1 hp hA hB hl hu

def tbB (b : List Int) (y : Int) : Bool := inB y 0 ((b.length : Int) - 1)
/-- The beat that begins later, and the code. -/
noncomputable def tbRes (F : Fld) (b : List Int) (y : Int) : List Int × Int := if codeB F b (tbB b y) = 0 then (b.drop y.toNat ++ b.take y.toNat, 0) else ([], codeB F b (tbB b y))
theorem tbRes_len (F : Fld) (b : List Int) (y : Int) : (tbRes F b y).1.length ≤ 1048576 := by
  unfold tbRes
  split
  · rename_i h
    have h1 := (beat_cells (codeB_zero h).1).2.1
    show (b.drop y.toNat ++ b.take y.toNat).length ≤ _
    rw [List.length_append, List.length_drop, List.length_take]
    omega
  · simp
theorem tb_at {F : Fld} {b : List Int} {y : Int} (h : codeB F b (tbB b y) = 0) : ∃ i : Nat, y = (i : Int) ∧ i < b.length ∧ b.length ≤ 40 := by
  obtain ⟨hv, hq⟩ := codeB_zero h
  have h2 := inB_iff.1 hq
  exact ⟨y.toNat, by omega, by omega, (beat_cells hv).2.1⟩
theorem tbClo_any (b : List Int) (y : Int) (d1 d2 : Nat) (A : Option Addr) (n : Nat) (w : World) (h1 : Blk w d1 [.int .i64 y] 2) (h2 : Blk w d2 [.slice A b.length n] 29) (hl : b.length ≤ 40) :
    Calls Try.prog 57 #[.pointer (some ⟨d1, 0, none⟩), .pointer (some ⟨d2, 0, none⟩)] w fun e w' => e = .returned (.bool (tbB b y)) ∧ Below w.heap.size w w' := by
  have c1 := h1.cell (i := 0) rfl
  have c2 := h2.cell (i := 0) rfl
  clear h1 h2
  go_enter Try.func57, Try.ntmps57
  go_wp2_with (go_at_call 55; refine (within_any _ _ _ _).mono ?_; rintro e w' ⟨rfl, rfl⟩)
  go_ret
  exact ⟨rfl, Below.refl _ _⟩


theorem ex_load {P : Program} {a : Act} {oi : Oper} {w : World} {v : Value} (ty : TypeId) (x : Operand) (ho : oi.op = .load ty x) (p : Addr) (hx : a.eval x = .pointer (some p)) (h : (Instr.loadAt ty (.pointer (some p))).run P w = .ok v w) : (execOp a.eval oi).run P w = .ok (.value v) w := by
  unfold execOp
  simp only [ho, hx, Sem.run_bind, h, Sem.run_pure, Result.andThen_ok]
set_option maxHeartbeats 4000000 in
theorem iTurnBeat_any (F : Fld) (hF : F.Ok) (b : List Int) (hb : BtOk b) (y : Int) (A : Option Addr) (n : Nat) (w : World) (hA : BtAt w A b) (hlc : b.length ≤ n) :
    Calls Try.prog 24 #[.agg F.vals.toArray, .slice A b.length n, .int .i64 y] w fun e w' => ∃ v : Value, e = .returned (.tuple #[v, .int .i64 (tbRes F b y).2]) ∧ MadeB w w' (tbRes F b y).1 v ∧ Below w.heap.size w w' := by
  have HO := Lib.hid hF
  have HBO := Lib.hid hb
  have HA := Lib.hid hA
  have HLC := Lib.hid hlc
  clear hF hb hA hlc
  have hmf : ∀ (fn : Fn) (first cap : Array Value) (w : World), (Instr.makeFunc fn first cap).run Try.prog w = .ok (.func fn first cap) w := fun _ _ _ _ => rfl
  go_enter Try.func24, Try.ntmps24
  go_upto_region 1 with (fail)
  obtain ⟨W, hW⟩ : ∃ W, W = ((w.alloc (.cells F.vals.toArray 32)).alloc (.cells [Value.slice A b.length n].toArray 29)).alloc (.cells [Value.int .i64 y].toArray 2) := ⟨_, rfl⟩
  have HC := Lib.hid (boxed3 w F.vals [.slice A b.length n] [.int .i64 y] 32 29 2)
  rw [← hW] at HC ⊢
  clear hW
  have k1 : W.cell? ⟨w.heap.size + 1, 0, none⟩ = some (.slice A b.length n) := (HC.out.blk (w.heap.size + 1, [.slice A b.length n], 29) (by simp)).cell rfl
  by_cases hq : codeB F b (tbB b y) = 0
  · have HQ := Lib.hid hq
    obtain ⟨i, rfl, hi, hb40⟩ := tb_at hq
    have HR : Hid (tbRes F b (i : Int) = (b.drop i ++ b.take i, 0)) := Lib.hid (by unfold tbRes; rw [if_pos hq, Int.toNat_natCast])
    clear hq
    obtain ⟨ad, hA2, hx⟩ := Kd.at_int HA.out (i : Int) (by omega) (by omega)
    subst hA2
    clear hx
    go_upto_region 4 with (first
      | (go_at_call 52; refine (beatCode_any F HO.out b HBO.out _ (some ad) n 57 _ (tbB b (i : Int)) _ (HC.out.blk (w.heap.size, F.vals, 32) (by simp)) (Kd.C_below HA.out HC.out.below) (enters_of Try.func57 (by kernel_rfl) rfl) (fun hv w1 hb => tbClo_any b (i : Int) _ _ (some ad) n w1 ((HC.out.step hb).blk (w.heap.size + 1 + 1, [.int .i64 (i : Int)], 2) (by simp)) ((HC.out.step hb).blk (w.heap.size + 1, [.slice (some ad) b.length n], 29) (by simp)) (beat_cells hv).2.1)).mono ?_; rintro e w2 ⟨rfl, hb⟩; rw [HQ.out]; have HC1 := Lib.hid (HC.out.step hb); clear hb))
    have HDr : Hid (Kd.C (Kd.int .i16) w (some (ad.add i)) (b.drop i).length (b.drop i)) := Lib.hid (by
      have h := Kd.C_drop HA.out (m := i) (c := n) (by omega) HLC.out
      rw [if_neg (by have := HLC.out; omega)] at h
      have e : (Option.map (fun x => x.add (i * (Kd.int .i16).sz)) (some ad)) = some (ad.add i) := by
        show some (ad.add (i * 1)) = some (ad.add i)
        rw [Nat.mul_one]
      rw [e] at h
      exact h)
    have HTk : Hid (Kd.C (Kd.int .i16) w (some ad) (b.take i).length (b.take i)) := Lib.hid (Kd.C_take HA.out (by omega))
    have hn := HLC.out
    have hi2 : i ≤ b.length := by omega
    have hi3 : i ≤ n := by omega
    have hni : (n = i) = False := by simp; omega
    refine la_start (S := fun w' => Below w2.heap.size w2 w') (n := 10) #[false, false, false, false, false, false, false, false, false, false] (by kernel_rfl) (by kernel_rfl) (below_drewN (Below.refl _ _) 1) (fun _ _ _ _ hd h => ⟨hd.symm.trans h.1, h.2⟩) (fun hPB => ?_)
    have HLB := Lib.hid (fun (w' : World) (h : Below w2.heap.size w2 w') => run_loadc_slice (P := Try.prog) 29 Try.underlying29 (((HC1.out.step h).blk (w.heap.size + 1, [.slice (some ad) b.length n], 29) (by simp)).cell (i := 0) rfl))
    have HLY := Lib.hid (fun (w' : World) (h : Below w2.heap.size w2 w') => run_loadc_int (P := Try.prog) 2 Try.underlying2 (((HC1.out.step h).blk (w.heap.size + 1 + 1, [.int .i64 (i : Int)], 2) (by simp)).cell (i := 0) rfl))
    have HS : Hid (Below w2.heap.size w2 { w2 with drawn := w2.drawn + 1 }) := Lib.hid (below_drewN (Below.refl _ _) 1)
    refine la_take (i := 0) #[true, false, false, false, false, false, false, false, false, false] (some 15) rfl rfl (by kernel_rfl) hPB rfl (.slice (some ad) b.length n) (fun w' h => ex_load 29 (.tmp 4) rfl _ (by kernel_rfl) (HLB.out w' h)) HS.out ?_
    simp only [Act.put, List.setIfInBounds_toArray, List.set_cons_zero, List.set_cons_succ]
    refine la_take (i := 1) #[true, true, false, false, false, false, false, false, false, false] (some 16) rfl rfl (by kernel_rfl) hPB rfl (.int .i64 (i : Int)) (fun w' h => ex_load 2 (.tmp 5) rfl _ (by kernel_rfl) (HLY.out w' h)) HS.out ?_
    simp only [Act.put, List.setIfInBounds_toArray, List.set_cons_zero, List.set_cons_succ]
    refine la_take (i := 3) #[true, true, false, true, false, false, false, false, false, false] (some 18) rfl rfl (by kernel_rfl) hPB rfl (.slice (some ad) b.length n) (fun w' h => ex_load 29 (.tmp 4) rfl _ (by kernel_rfl) (HLB.out w' h)) HS.out ?_
    simp only [Act.put, List.setIfInBounds_toArray, List.set_cons_zero, List.set_cons_succ]
    refine la_take (i := 4) #[true, true, false, true, true, false, false, false, false, false] (some 19) rfl rfl (by kernel_rfl) hPB rfl (.int .i64 (i : Int)) (fun w' h => ex_load 2 (.tmp 5) rfl _ (by kernel_rfl) (HLY.out w' h)) HS.out ?_
    simp only [Act.put, List.setIfInBounds_toArray, List.set_cons_zero, List.set_cons_succ]
    refine la_auto (i := 2) #[true, true, true, true, true, false, false, false, false, false] rfl (by kernel_rfl) hPB (fun K hK => ?_)
    go_simp
    refine hK _ ?_
    clear hK K
    refine la_auto (i := 5) #[true, true, true, true, true, true, false, false, false, false] rfl (by kernel_rfl) hPB (fun K hK => ?_)
    go_simp
    refine hK _ ?_
    clear hK K
    refine la_value (i := 6) #[true, true, true, true, true, true, true, false, false, false] (some 21) rfl rfl (by kernel_rfl) (by kernel_rfl) (.slice (some ⟨w2.heap.size, 0, none⟩) 2 2) ({ w2 with drawn := w2.drawn + 1 }.alloc (.cells [Value.slice (some (ad.add i)) (b.length - i) (n - i), Value.slice (some ad) i n].toArray 29)) (by first | (go_simp; done) | (go_simp; rfl)) (HS.out.alloc (Nat.le_refl _) _) ?_
    simp only [Act.put, List.setIfInBounds_toArray, List.set_cons_zero, List.set_cons_succ]
    have HB6 : Hid (Below w2.heap.size w2 ({ w2 with drawn := w2.drawn + 1 }.alloc (.cells [Value.slice (some (ad.add i)) (b.length - i) (n - i), Value.slice (some ad) i n].toArray 29))) := Lib.hid (HS.out.alloc (Nat.le_refl _) _)
    have HC6 := Lib.hid (HC1.out.step HB6.out)
    refine la_call (i := 7) #[true, true, true, true, true, true, true, true, false, false] (some 22) rfl rfl (by kernel_rfl) (by kernel_rfl) Try.func48 (by kernel_rfl) rfl #[.slice (some ⟨w2.heap.size, 0, none⟩) 2 2] rfl (by simp only [List.map_toArray, List.map_cons, List.map_nil]; kernel_rfl) ?_
    refine (concat_at (b.drop i) (b.take i) (b.length - i) i (by rw [List.length_drop]) (by rw [List.length_take]; omega) (some (ad.add i)) (some ad) (n - i) n w2.heap.size 2 _ ((Blk.new' { w2 with drawn := w2.drawn + 1 } [Value.slice (some (ad.add i)) (b.length - i) (n - i), Value.slice (some ad) i n] 29).cell rfl) ((Blk.new' { w2 with drawn := w2.drawn + 1 } [Value.slice (some (ad.add i)) (b.length - i) (n - i), Value.slice (some ad) i n] 29).cell rfl) (by simp) (Kd.C_below HDr.out HC6.out.below) (Kd.C_below HTk.out HC6.out.below) (by rw [List.length_drop, List.length_take]; omega) (by rw [List.length_drop, List.length_take]; omega)).mono ?_
    rintro e w4 ⟨v4, rfl, hm, hb⟩
    have HM := Lib.hid (Kd.R_lower hm HC6.out.below.size)
    have HC4 := Lib.hid (HC6.out.step hb)
    have HB4 : Hid (Below w2.heap.size w2 w4) := Lib.hid (HB6.out.trans (hb.mono HB6.out.size))
    clear hb hm
    refine ⟨v4, rfl, HB4.out, ?_⟩
    simp only [Act.put, List.setIfInBounds_toArray, List.set_cons_zero, List.set_cons_succ]
    refine la_assign (i := 8) #[true, true, true, true, true, true, true, true, true, false] (some 6) rfl rfl (by kernel_rfl) rfl (.tmp 22) rfl v4 (by kernel_rfl) HB4.out ?_
    simp only [Act.put, List.setIfInBounds_toArray, List.set_cons_zero, List.set_cons_succ]
    refine la_assign (i := 9) #[true, true, true, true, true, true, true, true, true, true] (some 7) rfl rfl (by kernel_rfl) rfl (.const (.int .i64 0)) rfl (.int .i64 0) (by kernel_rfl) HB4.out ?_
    simp only [Act.put, List.setIfInBounds_toArray, List.set_cons_zero, List.set_cons_succ]
    refine la_done (by kernel_rfl) ?_
    clear hPB
    go_wp2
    go_ret2
    exact ⟨v4, by rw [HR.out]; rfl, by rw [HR.out]; exact HM.out, HC4.out.below⟩
  · have HR : Hid (tbRes F b y = ([], codeB F b (tbB b y))) := Lib.hid (by unfold tbRes; rw [if_neg hq])
    have hq' : (codeB F b (tbB b y) != 0) = true := by simpa using hq
    go_wp2_with (first
      | (go_at_call 52; refine (beatCode_any F HO.out b HBO.out _ A n 57 _ (tbB b y) _ (HC.out.blk (w.heap.size, F.vals, 32) (by simp)) (Kd.C_below HA.out HC.out.below) (enters_of Try.func57 (by kernel_rfl) rfl) (fun hv w1 hb => tbClo_any b y _ _ A n w1 ((HC.out.step hb).blk (w.heap.size + 1 + 1, [.int .i64 y], 2) (by simp)) ((HC.out.step hb).blk (w.heap.size + 1, [.slice A b.length n], 29) (by simp)) (beat_cells hv).2.1)).mono ?_; rintro e w2 ⟨rfl, hb⟩; have HC1 := Lib.hid (HC.out.step hb); clear hb))
    go_ret2
    exact ⟨.slice none 0 0, by rw [HR.out]; rfl, by rw [HR.out]; exact Kd.R_nil _ _ _ _ _, HC1.out.below⟩


set_option maxHeartbeats 4000000 in
theorem sTurnBeat_any (F : Fld) (hF : F.Ok) (b : List Int) (hb : BtOk b) (y : Int) (A : Option Addr) (n : Nat) (w : World) (hA : BtAt w A b) (hlc : b.length ≤ n) :
    Calls Try.prog 23 #[.agg F.vals.toArray, .slice A b.length n, .int .i64 y] w fun e w' => ∃ v : Value, e = .returned (.tuple #[v, .int .i64 (tbRes F b y).2]) ∧ MadeB w w' (tbRes F b y).1 v ∧ Below w.heap.size w w' := by
  have HO := Lib.hid hF
  have HBO := Lib.hid hb
  have HA := Lib.hid hA
  have HLC := Lib.hid hlc
  have hbl := hA.2.1
  clear hF hb hA hlc
  go_enter Try.func23, Try.ntmps23
  go_upto_region 1 with (fail)
  obtain ⟨W, hW⟩ : ∃ W, W = w.alloc (.cells F.vals.toArray 32) := ⟨_, rfl⟩
  have HC := Lib.hid (boxed1 w F.vals 32)
  rw [← hW] at HC ⊢
  clear hW
  have HS0 : Hid (∀ q : Bool, (inB 0 0 50 && q) = q) := Lib.hid (fun q => by cases q <;> rfl)
  by_cases hq : codeB F b (tbB b y) = 0
  · have HQ := Lib.hid hq
    obtain ⟨i, rfl, hi, hb40⟩ := tb_at hq
    have HWB : Hid (inB (i : Int) 0 ((b.length : Int) - 1) = tbB b (i : Int)) := Lib.hid rfl
    have HR : Hid (tbRes F b (i : Int) = (b.drop i ++ b.take i, 0)) := Lib.hid (by unfold tbRes; rw [if_pos hq, Int.toNat_natCast])
    clear hq
    obtain ⟨ad, hA2, hx⟩ := Kd.at_int HA.out (i : Int) (by omega) (by omega)
    subst hA2
    clear hx
    go_upto_region 4 with (first
      | (go_at_call 50; refine (in_any _ _ _ _).mono ?_; rintro e w' ⟨rfl, rfl⟩)
      | (go_at_call 49; rw [HWB.out]; refine (l05Asked_any F HO.out b HBO.out _ (some ad) n 0 (tbB b (i : Int)) _ (HC.out.blk (w.heap.size, F.vals, 32) (by simp)) (Kd.C_below HA.out HC.out.below)).mono ?_; rintro e w2 ⟨rfl, m1, hw⟩; rw [HS0.out, HQ.out]; have HC1 := Lib.hid (HC.out.step (show Below W.heap.size W w2 by rw [hw]; exact below_drewN (Below.refl _ _) _)); clear hw))
    have HDr : Hid (Kd.C (Kd.int .i16) w (some (ad.add i)) (b.drop i).length (b.drop i)) := Lib.hid (by
      have h := Kd.C_drop HA.out (m := i) (c := n) (by omega) HLC.out
      rw [if_neg (by have := HLC.out; omega)] at h
      have e : (Option.map (fun x => x.add (i * (Kd.int .i16).sz)) (some ad)) = some (ad.add i) := by
        show some (ad.add (i * 1)) = some (ad.add i)
        rw [Nat.mul_one]
      rw [e] at h
      exact h)
    have HTk : Hid (Kd.C (Kd.int .i16) w (some ad) (b.take i).length (b.take i)) := Lib.hid (Kd.C_take HA.out (by omega))
    have hld : (b.drop i).length = b.length - i := by rw [List.length_drop]
    have hlt : (b.take i).length = i := by rw [List.length_take]; omega
    rw [hld] at HDr
    rw [hlt] at HTk
    have hn := HLC.out
    have hi2 : i ≤ b.length := by omega
    have hi3 : i ≤ n := by omega
    have hni : (n = i) = False := by simp; omega
    refine la_start (S := fun w' => Below w.heap.size w w') (n := 11) #[false, false, false, false, false, false, false, false, false, false, false] (by kernel_rfl) (by kernel_rfl) (below_drewN HC1.out.below 1) (fun _ _ _ _ hd h => ⟨hd.symm.trans h.1, h.2⟩) (fun hPB => ?_)
    have HS : Hid (Below w.heap.size w { w2 with drawn := w2.drawn + 1 }) := Lib.hid (below_drewN HC1.out.below 1)
    refine la_auto (i := 1) #[false, true, false, false, false, false, false, false, false, false, false] rfl (by kernel_rfl) hPB (fun K hK => ?_)
    go_simp
    refine hK _ ?_
    clear hK K
    refine la_auto (i := 2) #[false, true, true, false, false, false, false, false, false, false, false] rfl (by kernel_rfl) hPB (fun K hK => ?_)
    go_simp
    refine hK _ ?_
    clear hK K
    refine la_auto (i := 3) #[false, true, true, true, false, false, false, false, false, false, false] rfl (by kernel_rfl) hPB (fun K hK => ?_)
    go_simp
    refine hK _ ?_
    clear hK K
    refine la_auto (i := 5) #[false, true, true, true, false, true, false, false, false, false, false] rfl (by kernel_rfl) hPB (fun K hK => ?_)
    go_simp
    refine hK _ ?_
    clear hK K
    refine la_auto (i := 6) #[false, true, true, true, false, true, true, false, false, false, false] rfl (by kernel_rfl) hPB (fun K hK => ?_)
    go_simp
    refine hK _ ?_
    clear hK K
    refine la_auto (i := 7) #[false, true, true, true, false, true, true, true, false, false, false] rfl (by kernel_rfl) hPB (fun K hK => ?_)
    go_simp
    refine hK _ ?_
    clear hK K
    refine la_lit (i := 0) #[true, true, true, true, false, true, true, true, false, false, false] 20 rfl rfl (by kernel_rfl) (by kernel_rfl) (Kd.int .i16) (w0 := w) w.heap.size 24 (xs := ([] : List Int)) (inner := []) (ok := fun _ => True) (okp := fun _ => True) (by first | (go_simp; done) | (go_simp; rfl)) (Reps.none _ _) (fun _ hk => hk) trivial HS.out HS.out.size (by simp) (fun v4 w4 ho hb => ⟨hb, ?_⟩)
    have HR4 := Lib.hid ho
    have HB4 := Lib.hid hb
    clear ho hb
    simp only [Act.put, List.setIfInBounds_toArray, List.set_cons_zero, List.set_cons_succ]
    refine la_rows (i := 4) #[true, true, true, true, true, true, true, true, false, false, false] (some 24) rfl rfl (by kernel_rfl) (by kernel_rfl) (Kd.int .i16) (w0 := w) w.heap.size (.tmp 20) (.tmp 23) 29 24 (.int .i16 0) 2 rfl Try.underlying29 info_i16 rfl (by decide) (by omega) v4 [] (b.drop i) (some (ad.add i)) (b.length - i) (n - i) (fun _ => True) (fun _ => False) (by kernel_rfl) (by kernel_rfl) HR4.out (Kd.C_below HDr.out HB4.out) (fun _ _ h => h) (fun _ h => h.elim) (fun _ _ => trivial) HB4.out HB4.out.size (by simp; omega) (fun v5 w5 ho hb => ⟨hb, ?_⟩)
    have HR5 := Lib.hid ho
    have HB5 := Lib.hid hb
    clear ho hb
    simp only [Act.put, List.setIfInBounds_toArray, List.set_cons_zero, List.set_cons_succ]
    refine la_rows (i := 8) #[true, true, true, true, true, true, true, true, true, false, false] (some 28) rfl rfl (by kernel_rfl) (by kernel_rfl) (Kd.int .i16) (w0 := w) w.heap.size (.tmp 24) (.tmp 27) 29 24 (.int .i16 0) 2 rfl Try.underlying29 info_i16 rfl (by decide) (by omega) v5 ([] ++ b.drop i) (b.take i) (some ad) i n (fun _ => True) (fun _ => False) (by kernel_rfl) (by kernel_rfl) HR5.out (Kd.C_below HTk.out HB5.out) (fun _ _ h => h) (fun _ h => h.elim) (fun _ _ => trivial) HB5.out HB5.out.size (by rw [List.nil_append, hld]; omega) (fun v6 w6 ho hb => ⟨hb, ?_⟩)
    have HR6 := Lib.hid ho
    have HB6 := Lib.hid hb
    clear ho hb
    simp only [Act.put, List.setIfInBounds_toArray, List.set_cons_zero, List.set_cons_succ]
    refine la_assign (i := 9) #[true, true, true, true, true, true, true, true, true, true, false] (some 6) rfl rfl (by kernel_rfl) rfl (.tmp 28) rfl v6 (by kernel_rfl) HB6.out ?_
    simp only [Act.put, List.setIfInBounds_toArray, List.set_cons_zero, List.set_cons_succ]
    refine la_assign (i := 10) #[true, true, true, true, true, true, true, true, true, true, true] (some 7) rfl rfl (by kernel_rfl) rfl (.const (.int .i64 0)) rfl (.int .i64 0) (by kernel_rfl) HB6.out ?_
    simp only [Act.put, List.setIfInBounds_toArray, List.set_cons_zero, List.set_cons_succ]
    refine la_done (by kernel_rfl) ?_
    clear hPB
    go_wp2
    go_ret2
    exact ⟨v6, by rw [HR.out]; rfl, by rw [HR.out]; exact HR6.out, HB6.out⟩
  · have HR : Hid (tbRes F b y = ([], codeB F b (tbB b y))) := Lib.hid (by unfold tbRes; rw [if_neg hq])
    have HWB : Hid (inB y 0 ((b.length : Int) - 1) = tbB b y) := Lib.hid rfl
    have hq' : (codeB F b (tbB b y) != 0) = true := by simpa using hq
    go_wp2_with (first
      | (go_at_call 50; refine (in_any _ _ _ _).mono ?_; rintro e w' ⟨rfl, rfl⟩)
      | (go_at_call 49; rw [HWB.out]; refine (l05Asked_any F HO.out b HBO.out _ A n 0 (tbB b y) _ (HC.out.blk (w.heap.size, F.vals, 32) (by simp)) (Kd.C_below HA.out HC.out.below)).mono ?_; rintro e w2 ⟨rfl, m1, hw⟩; rw [HS0.out]; have HC1 := Lib.hid (HC.out.step (show Below W.heap.size W w2 by rw [hw]; exact below_drewN (Below.refl _ _) _)); clear hw)
      | ((with_reducible refine gate_dst (N := 18) rfl ?_); refine Kd.R_lit (Kd.int .i16) (w0 := w) w.heap.size 24 ?hg (N := 18) ?hd (xs := ([] : List Int)) (inner := []) (ok := fun _ => True) (okp := fun _ => True) ?hr ?hp (fun _ hk => hk) trivial HC1.out.below (below_size HC1.out.below) (by simp) ?_; (case hd => rfl); (case hg => rfl); (case hr => first | (go_simp; done) | (go_simp; rfl)); (case hp => exact (Reps.none _ _)); intro v3 w3 ho1 hb1 hg1 hn1; clear hg1 hn1; have HR3 := Lib.hid ho1; have HB3 := Lib.hid hb1; clear ho1 hb1))
    go_ret2
    exact ⟨v3, by rw [HR.out]; rfl, by rw [HR.out]; exact HR3.out, HB3.out⟩

end Go.Proofs.Ytmhkechkkpppaaa
