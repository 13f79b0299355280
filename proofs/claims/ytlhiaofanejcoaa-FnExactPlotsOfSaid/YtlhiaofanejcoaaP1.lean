/- A number put into a set of numbers, by the program and by the reference: the same. No condition but that the number is below 100. -/
import Derived.Test.YtlhiaofanejcoaaC1
import Derived.Test.YtlhiaofanejcoaaL3
namespace Go.Proofs.Ytlhiaofanejcoaa
open Go.RowKit
set_option linter.unusedSimpArgs false
set_option linter.unusedVariables false

/-- The set U with n put into it. -/
def putN (U : List Int) (n : Nat) : List Int := U.set (n / 64) (bits BinOp.or IntKind.u64 (nth U (n / 64)) (IntKind.u64.wrap (2 ^ (n % 64))))
def putV (U : List Int) (n : Nat) : Value := .int .u64 (bits BinOp.or IntKind.u64 (nth U (n / 64)) (IntKind.u64.wrap (2 ^ (n % 64))))
theorem putN_len (U : List Int) (n : Nat) : (putN U n).length = U.length := by simp [putN]
theorem putN_row (U : List Int) (n : Nat) : (vrow .u64 U).set (n / 64) (putV U n) = vrow .u64 (putN U n) := by simp [vrow, putN, putV, List.map_set]
theorem post_none {P : Program} {fn : Func} {R : Ending → World → Prop} {a : Act} {w : World} (hr : fn.results = #[]) (hd : a.defers = []) (h : R (.returned (.tuple #[])) w) : bodyPost P fn R .normal a w := by
  refine ⟨hd, _, ?_, h⟩
  simp [results, hr]

set_option maxHeartbeats 1000000 in
theorem put_any (U : List Int) (hU : U.length = 2) (b : Nat) (n : Nat) (hn : n < 100) (w : World) (hB : Blk w b (vrow .u64 U) 49) :
    Calls Try.prog 93 #[.pointer (some ⟨b, 0, none⟩), .int .i64 n] w fun e w' => e = .returned (.tuple #[]) ∧ ∃ k, w' = (w.setCell ⟨b, n / 64, none⟩ (putV U n)).drewN k := by
  unfold putV
  obtain ⟨q, hq⟩ : ∃ q, q = n / 64 := ⟨_, rfl⟩
  obtain ⟨r, hr'⟩ : ∃ r, r = n % 64 := ⟨_, rfl⟩
  have hd : (n : Int).tdiv 64 = (q : Int) := by rw [Int.tdiv_eq_ediv_of_nonneg (by omega)]; omega
  have hd2 : (n : Int) / 64 = (q : Int) := by omega
  have hm : (n : Int).tmod 64 = (r : Int) := by rw [Int.tmod_eq_emod_of_nonneg (by omega)]; omega
  have hm2 : (n : Int) % 64 = (r : Int) := by omega
  have hr64 : r < 64 := by omega
  have hlt : q < 2 := by omega
  have c1 := hB.cell (show (vrow .u64 U)[q]? = some (.int .u64 (nth U q)) from by
    simp [vrow, nth, List.getElem?_eq_getElem (show q < U.length by omega)])
  have f1 := hB.free q
  rw [← hq, ← hr']
  clear hq hr'
  go_enter Try.func93, Try.ntmps93
  go_region
  all_goals
    go_wp2
    exact post_none rfl rfl ⟨rfl, 1, rfl⟩

set_option maxHeartbeats 1000000 in
theorem sPut_any (U : List Int) (hU : U.length = 2) (b : Nat) (n : Nat) (hn : n < 100) (w : World) (hB : Blk w b (vrow .u64 U) 49) :
    Calls Try.prog 70 #[.pointer (some ⟨b, 0, none⟩), .int .i64 n] w fun e w' => e = .returned (.tuple #[]) ∧ ∃ k, w' = (w.setCell ⟨b, n / 64, none⟩ (putV U n)).drewN k := by
  unfold putV
  obtain ⟨q, hq⟩ : ∃ q, q = n / 64 := ⟨_, rfl⟩
  obtain ⟨r, hr'⟩ : ∃ r, r = n % 64 := ⟨_, rfl⟩
  have hd : (n : Int).tdiv 64 = (q : Int) := by rw [Int.tdiv_eq_ediv_of_nonneg (by omega)]; omega
  have hd2 : (n : Int) / 64 = (q : Int) := by omega
  have hm : (n : Int).tmod 64 = (r : Int) := by rw [Int.tmod_eq_emod_of_nonneg (by omega)]; omega
  have hm2 : (n : Int) % 64 = (r : Int) := by omega
  have hr64 : r < 64 := by omega
  have hlt : q < 2 := by omega
  have c1 := hB.cell (show (vrow .u64 U)[q]? = some (.int .u64 (nth U q)) from by
    simp [vrow, nth, List.getElem?_eq_getElem (show q < U.length by omega)])
  have f1 := hB.free q
  rw [← hq, ← hr']
  clear hq hr'
  go_enter Try.func70, Try.ntmps70
  go_region
  all_goals
    go_wp2
    exact post_none rfl rfl ⟨rfl, 1, rfl⟩

end Go.Proofs.Ytlhiaofanejcoaa
