/-
  slices.Clone of whole numbers that are only read.
-/
import Derived.Test.YtcfhkpjheemkgaaCells
import Derived.Test.YtcfhkpjheemkgaaSys
namespace Go.Proofs.Ytcfhkpjheemkgaa
set_option linter.unusedSectionVars false
set_option linter.unnecessarySimpa false
set_option linter.unusedSimpArgs false
set_option linter.unusedVariables false
open Go.RowKit Go.MapKept

set_option maxHeartbeats 800000 in
theorem clone_ints_at (a : Option Addr) (c n : Nat) (l : List Int) (w : World) (h : IntsAt w a l) (hln : l.length = n) (hnil : a = none → n = 0) (h4 : n ≤ 1000000) :
    Calls Try.prog 84 #[.slice a n c] w (ClonedR 3 1 n (l.map (Value.int .i64)) w) := by
  cases a with
  | none =>
    have hl := hnil rfl
    subst hl
    obtain rfl : l = [] := List.length_eq_zero_iff.1 hln
    have heq := Lib.run_eql_slice_nil (P := Try.prog) w 23 3 none 0 c 0 0 Try.underlying23
    clear h hnil hln
    go_enter Try.func84, Try.ntmps84
    go_wp2_with fail
    go_ret
    exact ⟨_, rfl, Own.nil _ _ _, (by intro k hk; cases hk), Below.refl _ _⟩
  | some ad =>
    have heq := Lib.run_eql_slice_nil (P := Try.prog) w 23 3 (some ad) n c 0 0 Try.underlying23
    have hs : l.map (Value.int .i64) = [] ∨ ∃ b off, some ad = some ⟨b, off, none⟩ ∧ ∀ (j : Nat) (u : Value), (l.map (Value.int .i64))[j]? = some u → w.cell? ⟨b, off + j, none⟩ = some u := by
      rcases h with rfl | ⟨b, off, e, h⟩
      · exact .inl rfl
      · refine .inr ⟨b, off, e, fun j u hu => ?_⟩
        have hj : j < l.length := by have := (List.getElem?_eq_some_iff.1 hu).1; simpa using this
        rw [h j hj]
        simp [hj] at hu
        rw [← hu]; simp [List.getD, hj]
    obtain ⟨v', w', ha, hfin⟩ := clone_run (E := 3) (size := 1) (bytes := 8) (z := .int .i64 0) (n := n) Try.underlying23 (by kernel_rfl) rfl (by decide) (by omega) (c := c) hs (by simp [hln]) (by intro u hu; obtain ⟨x, _, rfl⟩ := List.mem_map.1 hu; rfl) h4 (by intro h; rw [← hln]; simpa using h)
    have HF := Lib.hid hfin
    clear h hs hln hfin
    generalize l.map (Value.int .i64) = xs at *
    go_enter Try.func84, Try.ntmps84
    go_wp2_with (at_builtin; refine wpl_append rfl _ _ _ rfl rfl rfl ha ?_)
    go_ret
    exact HF.out
end Go.Proofs.Ytcfhkpjheemkgaa
