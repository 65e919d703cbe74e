/-
  NamesNumbers: the walks: Errno's Error at 13 and at 0; the row of numbers; the loop.
-/
import Derived.Test.YtjllejlgclfahaaDoorBase
import Derived.WalkKit
import Derived.BigQuiet
import Derived.Deep.QuietTactic
import Derived.Lib.Hide
namespace Go.Proofs.YtjllejlgclfahaaDoor
open Go.RowKit

set_option maxRecDepth 100000 in
set_option maxHeartbeats 2000000 in
theorem small13 (w : World) : Calls Tryd.prog 9 #[.int .i64 13] w fun e w' => e = .returned (.string ⟨#[49, 51]⟩) ∧ w = w' := by
  go_enter Tryd.func9, Tryd.ntmps9
  go_wp2_with fail
  go_ret
  exact ⟨by kernel_rfl, rfl⟩
set_option maxRecDepth 100000 in
theorem format13 (w : World) : Calls Tryd.prog 8 #[.int .i64 13, .int .i64 10] w fun e w' => e = .returned (.string ⟨#[49, 51]⟩) ∧ w = w' := by
  go_enter Tryd.func8, Tryd.ntmps8
  go_wp2_with fail
  refine (small13 w).mono ?_
  rintro e _ ⟨rfl, rfl⟩
  go_wp2_with fail
  go_ret
  exact ⟨rfl, rfl⟩
theorem itoaI13 (w : World) : Calls Tryd.prog 7 #[.int .i64 13] w fun e w' => e = .returned (.string ⟨#[49, 51]⟩) ∧ w = w' := by
  go_enter Tryd.func7, Tryd.ntmps7
  go_wp2_with fail
  refine (format13 w).mono ?_
  rintro e _ ⟨rfl, rfl⟩
  go_wp2_with fail
  go_ret
  exact ⟨rfl, rfl⟩
theorem itoa13 (w : World) : Calls Tryd.prog 6 #[.int .i64 13] w fun e w' => e = .returned (.string ⟨#[49, 51]⟩) ∧ w = w' := by
  go_enter Tryd.func6, Tryd.ntmps6
  go_wp2_with fail
  refine (itoaI13 w).mono ?_
  rintro e _ ⟨rfl, rfl⟩
  go_wp2_with fail
  go_ret
  exact ⟨rfl, rfl⟩
theorem error13 (w : World) : Calls Tryd.prog 5 #[.int .i64 13] w fun e w' => e = .returned (.string ⟨#[101, 114, 114, 111, 114, 32, 49, 51]⟩) ∧ w = w' := by
  go_enter Tryd.func5, Tryd.ntmps5
  go_wp2_with fail
  refine (itoa13 w).mono ?_
  rintro e _ ⟨rfl, rfl⟩
  go_wp2_with fail
  go_ret
  exact ⟨by kernel_rfl, rfl⟩
set_option maxRecDepth 100000 in
set_option maxHeartbeats 2000000 in
theorem small0 (w : World) : Calls Tryd.prog 9 #[.int .i64 0] w fun e w' => e = .returned (.string ⟨#[48]⟩) ∧ w = w' := by
  go_enter Tryd.func9, Tryd.ntmps9
  go_wp2_with fail
  go_ret
  exact ⟨by kernel_rfl, rfl⟩
set_option maxRecDepth 100000 in
theorem format0 (w : World) : Calls Tryd.prog 8 #[.int .i64 0, .int .i64 10] w fun e w' => e = .returned (.string ⟨#[48]⟩) ∧ w = w' := by
  go_enter Tryd.func8, Tryd.ntmps8
  go_wp2_with fail
  refine (small0 w).mono ?_
  rintro e _ ⟨rfl, rfl⟩
  go_wp2_with fail
  go_ret
  exact ⟨rfl, rfl⟩
theorem itoaI0 (w : World) : Calls Tryd.prog 7 #[.int .i64 0] w fun e w' => e = .returned (.string ⟨#[48]⟩) ∧ w = w' := by
  go_enter Tryd.func7, Tryd.ntmps7
  go_wp2_with fail
  refine (format0 w).mono ?_
  rintro e _ ⟨rfl, rfl⟩
  go_wp2_with fail
  go_ret
  exact ⟨rfl, rfl⟩
theorem itoa0 (w : World) : Calls Tryd.prog 6 #[.int .i64 0] w fun e w' => e = .returned (.string ⟨#[48]⟩) ∧ w = w' := by
  go_enter Tryd.func6, Tryd.ntmps6
  go_wp2_with fail
  refine (itoaI0 w).mono ?_
  rintro e _ ⟨rfl, rfl⟩
  go_wp2_with fail
  go_ret
  exact ⟨rfl, rfl⟩
theorem error0 (w : World) : Calls Tryd.prog 5 #[.int .i64 0] w fun e w' => e = .returned (.string ⟨#[101, 114, 114, 111, 114, 32, 48]⟩) ∧ w = w' := by
  go_enter Tryd.func5, Tryd.ntmps5
  go_wp2_with fail
  refine (itoa0 w).mono ?_
  rintro e _ ⟨rfl, rfl⟩
  go_wp2_with fail
  go_ret
  exact ⟨by kernel_rfl, rfl⟩
def nums : List Int := [0, 1, 2, 3, 4, 5, 6, 7, 8, 9, 10, 11, 12, 13, 1048576, 4611686018427387904, 1000, 0, 1, 1, 2, 3, 4, 5, 6, 0, 1, 2, 3, 4, 5, 6, 7, 8, 1, 2, 3, 4, 5, 6, 7, 8, 1, 2, 3, 4, 5, 6]
def cells : Array Value := (nums.flatMap fun n => [Value.int .i64 n, Value.int .i64 n]).toArray
theorem pair_at (l : List Int) (i : Nat) (h : i < l.length) : (l.flatMap fun n => [Value.int .i64 n, Value.int .i64 n])[i * 2]? = some (.int .i64 l[i]) ∧ (l.flatMap fun n => [Value.int .i64 n, Value.int .i64 n])[i * 2 + 1]? = some (.int .i64 l[i]) := by
  induction l generalizing i with
  | nil => simp at h
  | cons q l ih =>
    cases i with
    | zero => simp
    | succ i =>
      have := ih i (by simpa using h)
      have e1 : (i + 1) * 2 = i * 2 + 2 := by omega
      have e2 : (i + 1) * 2 + 1 = (i * 2 + 1) + 2 := by omega
      constructor
      · rw [e1]; simpa using this.1
      · rw [e2]; simpa using this.2
theorem cells_at (j : Nat) (hj : j < 48) : ∃ n, cells[j * 2]? = some (.int .i64 n) ∧ cells[j * 2 + 1]? = some (.int .i64 n) := by
  have hl : nums.length = 48 := by decide
  have h := pair_at nums j (by omega)
  refine ⟨nums[j]'(by omega), ?_, ?_⟩
  · unfold cells; rw [List.getElem?_toArray]; exact h.1
  · unfold cells; rw [List.getElem?_toArray]; exact h.2
set_option maxRecDepth 100000 in
set_option maxHeartbeats 4000000 in
theorem all_ (w : World) : Calls Tryd.prog 4 #[] w fun e w' => e = .returned (.slice (some ⟨w.heap.size, 0, none⟩) 48 48) ∧ w' = w.alloc (.cells cells 25 (0, 0)) := by
  go_enter Tryd.func4, Tryd.ntmps4
  go_wp2_with fail
  go_ret
  exact ⟨by kernel_rfl, by kernel_rfl⟩
set_option maxRecDepth 100000 in
set_option maxHeartbeats 4000000 in
theorem walk (w : World) : Calls Tryd.prog 3 #[] w fun e w' => e = .returned (.bool true) ∧ Below w.heap.size w w' := by
  go_enter Tryd.func3, Tryd.ntmps3
  go_wp2_with fail
  refine (all_ w).mono ?_
  rintro e w1 ⟨rfl, hw1⟩
  obtain ⟨g, hg⟩ : ∃ g, g = w.heap.size := ⟨_, rfl⟩
  have hb : w1.heap[g]? = some (.cells cells 25 (0, 0)) := by rw [hw1]; exact alloc_new w _ _ hg
  have hB : Below w.heap.size w w1 := by rw [hw1]; exact (Below.refl _ _).alloc (Nat.le_refl _) _
  rw [← hg]
  have HB := Lib.hid hb
  have HBB := Lib.hid hB
  clear hw1 hb hB hg
  go_wp2_with fail
  go_loopw [2] (fun i wr => ∃ j : Nat, j ≤ 48 ∧ i = .int .i64 j ∧ wr.heap[g]? = some (.cells cells 25 (0, 0)) ∧ Below w.heap.size w wr) (fun i _ => 48 - (intOf i).toNat)
  case atStart => exact ⟨0, by omega, rfl, HB.out, HBB.out⟩
  case round =>
    clear HB HBB
    obtain ⟨j, hj, rfl, hb, hB⟩ := hrel
    by_cases hlt : j < 48
    · obtain ⟨n, e0, e1⟩ := cells_at j hlt
      have k0 : wr.cell? ⟨g, j * 2, none⟩ = some (.int .i64 n) := (cell_of_blk hb _).trans e0
      have k1 : wr.cell? ⟨g, j * 2 + 1, none⟩ = some (.int .i64 n) := (cell_of_blk hb _).trans e1
      have hd : decide ((j : Int) < 48) = true := by simp; omega
      have hj1 : (j : Int) < 48 := by omega
      have HB := Lib.hid hb
      have HBB := Lib.hid hB
      clear hb hB e0 e1
      go_wp2_with fail
      go_quiet (fail)
      go_wp2_with fail
      go_roundw
      case rel => exact ⟨j + 1, by omega, by go_num, HB.out, below_drewn HBB.out nq⟩
      case measure => simp [intOf]; omega
    · have : j = 48 := by omega
      subst this
      clear hb
      go_wp2_with fail
      refine (error13 wr).mono ?_
      rintro e _ ⟨rfl, rfl⟩
      go_wp2_with fail
      refine (error0 wr).mono ?_
      rintro e _ ⟨rfl, rfl⟩
      go_wp2_with fail
      go_ret
      exact ⟨rfl, hB⟩
end Go.Proofs.YtjllejlgclfahaaDoor
