/-
  slices.Sort, slices.Compact on a row of numbers of the code's own.
-/
import Derived.Test.YtcfhkpjheemkgaaGreatBatch
import Derived.Lib.RowBridge
namespace Go.Proofs.YtcfhkpjheemkgaaGreat
set_option linter.unusedSectionVars false
set_option linter.unnecessarySimpa false
set_option linter.unusedSimpArgs false
set_option linter.unusedVariables false
open Go.RowKit Go.MapKept Go.Sort

section
variable {w w' : World} {m : Nat → Thing} {l : List Thing} {g k cap : Nat} {L L' : List Int} {v : Value}
theorem putCells_at (d : Array Int) (c : Array Value) (j : Nat) : (putCells (Value.int .i64) 0 d c)[j]? = (c[j]?).map fun x => if j < d.size then Value.int .i64 d[j]! else x := by
  unfold putCells
  rw [Array.getElem?_mapIdx]
  simp
theorem Own.putRow (h : Own 3 1 w (.slice (some ⟨g, 0, none⟩) k cap) k (L.map (Value.int .i64))) (hl : L'.length = L.length) (n : Nat) (os : Array Obj) :
    Own 3 1 (grow (putRow (Value.int .i64) (Sort.ahead w n) g 0 L'.toArray) os) (.slice (some ⟨g, 0, none⟩) k cap) k (L'.map (Value.int .i64)) ∧ Chg (· = g) w (grow (putRow (Value.int .i64) (Sort.ahead w n) g 0 L'.toArray) os) := by
  obtain ⟨_, _, e, hnc, hcm, hxl, ha⟩ := h.open
  cases e
  rcases ha with ⟨e, _⟩ | ⟨_, cs, e, hg, hcs, ht⟩
  · cases e
  · cases e
    have hgl := blk_lt hg
    have hLk : L.length = k := by simpa using hxl
    have hb : (grow (Go.Sort.putRow (Value.int .i64) (Sort.ahead w n) g 0 L'.toArray) os).heap[g]? = some (.cells (putCells (Value.int .i64) 0 L'.toArray cs) 3 (0, 0)) := by
      rw [heap_grow_old _ _ (by rw [size_putRow]; exact hgl)]
      show (w.heap.modify g _)[g]? = _
      rw [Array.getElem?_modify, if_pos rfl, hg]
      rfl
    have hcs' : (putCells (Value.int .i64) 0 L'.toArray cs).size = cap * 1 := by unfold putCells; rw [Array.size_mapIdx, hcs]
    refine ⟨⟨by simp [hl, hLk], .inr ⟨g, cap, _, rfl, Nat.zero_le _, hb, hnc, hcm, hcs', ?_⟩⟩, ⟨rfl, rfl, rfl, by rw [size_grow, size_putRow]; exact Nat.le_add_right _ _, fun j hj hne => ?_⟩⟩
    · apply List.ext_getElem?
      intro j
      rw [List.getElem?_take]
      by_cases hj : j < k * 1
      · rw [if_pos hj, Array.getElem?_toList, putCells_at, List.getElem?_map]
        have h1 : j < L'.length := by omega
        have h2 : j < cs.size := by rw [hcs]; omega
        rw [Array.getElem?_eq_getElem h2, List.getElem?_eq_getElem h1]
        simp [h1]
      · rw [if_neg hj, List.getElem?_eq_none (by simp; omega)]
    · rw [heap_grow_old _ _ (by rw [size_putRow]; exact hj)]
      show (w.heap.modify g _)[j]? = _
      rw [Array.getElem?_modify, if_neg (fun e => hne e.symm)]
theorem Own.holds (h : Own 3 1 w (.slice (some ⟨g, 0, none⟩) k cap) k (L.map (Value.int .i64))) : Holds (Value.int .i64) w g 0 L.toArray := by
  intro j hj
  have hj' : j < L.length := by simpa using hj
  have := h.at_ j (.int .i64 L[j]) (by rw [List.getElem?_map, List.getElem?_eq_getElem hj']; rfl)
  have e : L.toArray[j]! = L[j] := by simp [hj']
  rw [Nat.zero_add, e]
  exact this
theorem Own.shape {n : Nat} {xs : List Value} {E s : Nat} (h : Own E s w v n xs) : (v = .slice none 0 0 ∧ n = 0 ∧ xs = []) ∨ ∃ g cap, v = .slice (some ⟨g, 0, none⟩) n cap ∧ g < w.heap.size := by
  obtain ⟨a, c, rfl, hnc, hcm, hxl, ha⟩ := h.open
  rcases ha with ⟨rfl, rfl, rfl⟩ | ⟨g, cs, rfl, hg, _, _⟩
  · exact .inl ⟨rfl, rfl, List.length_eq_zero_iff.1 (by simpa using hxl)⟩
  · exact .inr ⟨g, c, rfl, blk_lt hg⟩
theorem ints_sort (h : Sys w m (own 3 1 v k (L.map (Value.int .i64)) :: l)) (hk : L.length = k) (hk2 : k ≤ 1000000) :
    Calls Tryz.prog 72 #[v] w fun z w' => z = .returned (.tuple #[]) ∧ Sys w' m (own 3 1 v k ((rising L).map (Value.int .i64)) :: l) := by
  rcases h.getOwn.shape with ⟨rfl, rfl, hx⟩ | ⟨g, cap, rfl, hg⟩
  · have hL : L = [] := by simpa using hx
    subst hL
    refine (AnyM.slices_Sort_int_none Tryz.sortA none 0 w).mono fun z w' ⟨h1, h2⟩ => ⟨h1, ?_⟩
    subst h2
    rw [show rising [] = [] by simp [rising]]
    exact h
  · have hL : (L.length : Nat) = k := hk
    have hs := AnyM.slices_Sort_int Tryz.sortA g 0 cap L w h.getOwn.holds hg (by omega)
    rw [hL] at hs
    refine hs.mono fun z w' ⟨h1, n, os, h2⟩ => ⟨h1, ?_⟩
    subst h2
    obtain ⟨ho, hc⟩ := h.getOwn.putRow (L' := rising L) (rising_length L) n os
    exact h.ownTo ho hc.own (.inl rfl)
theorem compact_len (L : List Int) : (Lib.compact L).length ≤ L.length := Lib.compact_length_le L
theorem ints_compact (h : Sys w m (own 3 1 v k (L.map (Value.int .i64)) :: l)) (hk : L.length = k) (hk2 : k ≤ 1000000) :
    Calls Tryz.prog 73 #[v] w fun z w' => ∃ v', z = .returned v' ∧ Sys w' m (own 3 1 v' (Lib.compact L).length ((Lib.compact L).map (Value.int .i64)) :: l) := by
  rcases h.getOwn.shape with ⟨rfl, rfl, hx⟩ | ⟨g, cap, rfl, hg⟩
  · have hL : L = [] := by simpa using hx
    subst hL
    refine (Any.slices_Compact_int_empty Tryz.compactA none 0 w).mono fun z w' ⟨h1, h2⟩ => ⟨_, h1, ?_⟩
    subst h2
    exact h
  · have hL : (L.length : Nat) = k := hk
    have hcap : k ≤ cap := by
      obtain ⟨_, _, e, hnc, _⟩ := h.getOwn.open
      cases e; exact hnc
    have hs := Any.slices_Compact_int Tryz.compactA g 0 cap L w h.getOwn.holds (by omega) (by omega)
    rw [hL] at hs
    refine hs.mono fun z w' ⟨h1, n, h2⟩ => ⟨_, h1, ?_⟩
    have hcl := compact_len L
    obtain ⟨ho, hc⟩ := h.getOwn.putRow (L' := Lib.compact L ++ List.replicate (k - (Lib.compact L).length) 0) (by simp; omega) n #[]
    rw [grow_empty] at ho hc
    have ho2 := ho.shrink (k := (Lib.compact L).length) (by omega)
    rw [List.map_append, Nat.mul_one, List.take_append_of_le_length (by simp), List.take_of_length_le (by simp)] at ho2
    subst h2
    exact h.ownTo ho2 hc.own (.inl rfl)
end
end Go.Proofs.YtcfhkpjheemkgaaGreat
