/-
  slices.Sorted(maps.Keys(m)) at a map of certificates.
-/
import Derived.Test.YtcfhkpjheemkgaaSorted
namespace Go.Proofs.Ytcfhkpjheemkgaa
set_option linter.unusedSectionVars false
set_option linter.unnecessarySimpa false
set_option linter.unusedSimpArgs false
set_option linter.unusedVariables false
open Go.RowKit Go.MapKept

theorem keys_TryB (mb : Option Nat) (w : World) : Calls Try.prog 85 #[.map mb] w fun e w' =>
    e = .returned (.func (.func 111) #[] #[.pointer (some ⟨w.heap.size, 0, none⟩)]) ∧ w' = w.alloc (.cells #[.map mb] 153) :=
  callsIn_wide.1 (AnyZI.keys_in Try.keysB Fence.wide 5 trivial rfl mb w)

set_option maxHeartbeats 1000000 in
/-- slices.Sorted at what maps.Keys handed back of a map that is not nil. -/
theorem sorted_TryB (b : Nat) (m : List (Int × Value)) (w : World) (h : MapOf intKey w b m) (hw : ∀ p ∈ m, (Lit.int .i64 p.1).wf = true) (hmax : m.length * 8 ≤ 140737488355328) :
    Calls Try.prog 81 #[.func (.func 111) #[] #[.pointer (some ⟨w.heap.size, 0, none⟩)]] (w.alloc (.cells #[.map (some b)] 153))
      fun e w' => ∃ v, e = .returned v ∧ NewInts w' (w.heap.size + 1) v (rising (m.map (·.1))) ∧ Below (w.heap.size + 1) (w.alloc (.cells #[.map (some b)] 153)) w' := by
  have hml : m.length ≤ maxLen := by unfold maxLen; omega
  obtain ⟨D0, hown, hsz, hperm⟩ := h.owns Try.underlying3 hw hml
  have hbl := hown.lt
  have hseq : SeqGives Fence.wide 2 Try.prog 111 #[.pointer (some ⟨w.heap.size, 0, none⟩)] encZ (fun ss => ss.Perm (intKeys D0)) (Maps.size D0) (w.alloc (.cells #[.map (some b)] 153)) :=
    AnyZI.keys_gives (ρ := Try.keysB_ren) { Try.keysB with } Fence.wide _ trivial rfl (by omega) w.heap.size b _ D0 _ (by simp) (by simp) (by
      obtain ⟨es, clock, hb, Ft, hs, hD⟩ := hown
      exact ⟨es, clock, (Below.heap_alloc _ _ b hbl).trans hb, Ft, hs, hD⟩)
  have cS := AnyZI.sorted_in Try.sortedA Fence.wide 5 trivial trivial trivial trivial rfl (by omega) (sortsA _) (enters_of Try.func109 (by kernel_rfl) rfl) 111 #[.pointer (some ⟨w.heap.size, 0, none⟩)] trivial (enters_of Try.func111 (by kernel_rfl) rfl) _ _ (by rw [hsz]; exact hml) (by rw [hsz]; exact hmax) _ hseq
  change CallsIn _ _ Try.prog 81 _ _ _ at cS
  refine (callsIn_wide.1 cS).mono ?_
  rintro e w' ⟨v, ss, rfl, hS, hrow, _, hb⟩
  have hr : rising ss = rising (m.map (·.1)) := rising_of_perm (hS.trans hperm)
  have hrow' : w'.ownsRow (w.heap.size + 1) 3 1 v ss.length ((rising ss).map (Value.int .i64)) := by
    have h0 : (w.alloc (.cells #[.map (some b)] 153)).heap.size = w.heap.size + 1 := by simp
    rw [← h0]; exact hrow
  rw [hr] at hrow'
  exact ⟨v, rfl, (NewInts.of_own hrow').1, by simpa using hb⟩

end Go.Proofs.Ytcfhkpjheemkgaa
