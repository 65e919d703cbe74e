/-
  Rows of cells laid into a block; clear of one element of several cells.
-/
import Derived.Test.YtcfhkpjheemkgaaGreatCells
namespace Go.Proofs.YtcfhkpjheemkgaaGreat
set_option linter.unusedSectionVars false
set_option linter.unnecessarySimpa false
set_option linter.unusedSimpArgs false
set_option linter.unusedVariables false
open Go.RowKit Go.MapKept

/-- The cells vs laid into cs from o on. -/
def setAll (cs : Array Value) : Nat → List Value → Array Value
  | _, [] => cs
  | o, v :: r => setAll (cs.setIfInBounds o v) (o + 1) r
theorem setAll_size (vs : List Value) : ∀ (cs : Array Value) (o : Nat), (setAll cs o vs).size = cs.size := by
  induction vs with
  | nil => intro cs o; rfl
  | cons v r ih => intro cs o; rw [setAll, ih, Array.size_setIfInBounds]
theorem setAll_out (vs : List Value) : ∀ (cs : Array Value) (o j : Nat), (j < o ∨ o + vs.length ≤ j) → (setAll cs o vs)[j]? = cs[j]? := by
  induction vs with
  | nil => intro cs o j h; rfl
  | cons v r ih =>
    intro cs o j h
    simp only [List.length_cons] at h
    rw [setAll, ih _ _ _ (by omega), Array.getElem?_setIfInBounds]
    rw [if_neg (by omega)]
theorem setAll_in (vs : List Value) : ∀ (cs : Array Value) (o j : Nat), j < vs.length → o + vs.length ≤ cs.size → (setAll cs o vs)[o + j]? = vs[j]? := by
  induction vs with
  | nil => intro cs o j h; simp at h
  | cons v r ih =>
    intro cs o j h hs
    simp only [List.length_cons] at h hs
    cases j with
    | zero =>
      rw [setAll, setAll_out _ _ _ _ (by omega), Nat.add_zero, Array.getElem?_setIfInBounds, if_pos rfl, if_pos (by omega)]
      rfl
    | succ j =>
      rw [setAll, show o + (j + 1) = (o + 1) + j by omega, ih _ _ _ (by omega) (by rw [Array.size_setIfInBounds]; omega)]
      rfl
theorem setCells_blk (b : Nat) (t : TypeId) (fr : Nat × Nat) (vs : List Value) : ∀ (w : World) (o : Nat) (cs : Array Value), w.heap[b]? = some (.cells cs t fr) → (w.setCells b o vs).heap[b]? = some (.cells (setAll cs o vs) t fr) := by
  induction vs with
  | nil => intro w o cs h; exact h
  | cons v r ih => intro w o cs h; exact ih _ _ _ (setCell_same v h)
theorem Chg.cells {b : Nat} {x : World} (vs : List Value) : ∀ {y : World} (o : Nat), Chg (· = b) x y → Chg (· = b) x (y.setCells b o vs) := by
  induction vs with
  | nil => intro y o h; exact h
  | cons v r ih => intro y o h; exact ih (o + 1) (h.put o v)

/-- clear(s), s one element of several cells. -/
theorem run_clear_one {P : Program} (w : World) (t e ty : TypeId) (z : Value) (zs : List Value) (ht : P.underlying t = some (.slice e)) (hv : (zeroValue e).run P w = .ok z w) (hz : z.cells = zs.toArray) (h1 : ∀ v ∈ zs, v.oneCell' = true) (b o c : Nat)
    (hc : ∀ j, j < zs.length → (w.cell? ⟨b, o + j, none⟩).isSome = true) (hf : ∀ j, j < zs.length → w.frozen? ⟨b, o + j, none⟩ = false) :
    (Builtin.clear_ #[t] ty #[.slice (some ⟨b, o, none⟩) 1 c]).run P w = .ok (.tuple #[]) (w.setCells b o zs) := by
  have hzc : (Builtin.zeroCells z.cells 1).toList = zs := by
    rw [hz]
    simp [Builtin.zeroCells]
    apply List.ext_getElem
    · simp
    · intro i h1 h2
      simp at h1
      simp [Nat.mod_eq_of_lt h1, h1]
  have hst := run_storeCells_cells (P := P) b o zs 0 w (by simpa using hc) (by simpa using hf) h1
  simp only [Nat.add_zero] at hst
  simp [Builtin.clear_, run_underlying ht, hv, hzc, hst]
end Go.Proofs.YtcfhkpjheemkgaaGreat
