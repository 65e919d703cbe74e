/-
  slices.Delete of one envelope out of a row that the code owns.
-/
import Derived.Test.YtcfhkpjheemkgaaGreatLog
import Derived.Test.YtcfhkpjheemkgaaGreatSetAll
namespace Go.Proofs.YtcfhkpjheemkgaaGreat
set_option linter.unusedSectionVars false
set_option linter.unnecessarySimpa false
set_option linter.unusedSimpArgs false
set_option linter.unusedVariables false
open Go.RowKit Go.MapKept

def zeroEnv : List Value := [.int .i64 0, .int .u64 0, .int .u64 0, .int .i64 0]

set_option maxRecDepth 100000 in
set_option maxHeartbeats 4000000 in
theorem env_delete (g n cap i : Nat) (xs : List Value) (w : World) (h : Own 55 4 w (.slice (some ⟨g, 0, none⟩) n cap) n xs) (hi : i < n) (hn : n ≤ 1000000) (h1 : ∀ u ∈ xs, u.oneCell' = true) :
    Calls Tryz.prog 58 #[.slice (some ⟨g, 0, none⟩) n cap, .int .i64 i, .int .i64 ((i : Int) + 1)] w fun e w' =>
      e = .returned (.slice (some ⟨g, 0, none⟩) (n - 1) cap) ∧ Own 55 4 w' (.slice (some ⟨g, 0, none⟩) (n - 1) cap) (n - 1) (xs.take (i * 4) ++ xs.drop ((i + 1) * 4)) ∧ Chg (· = g) w w' := by
  obtain ⟨_, _, e', hnc, hcm, hxl, ha⟩ := h.open
  cases e'
  rcases ha with ⟨h0, _⟩ | ⟨_, cs, e', hg, hcs, ht⟩
  · cases h0
  cases e'
  have hi0 : (0 : Int) ≤ (i : Int) := by omega
  have hi1 : (i : Int) ≤ (i : Int) + 1 := by omega
  have hi2 : (i : Int) + 1 ≤ (n : Int) := by omega
  have hi3 : (n : Int) ≤ (cap : Int) := by omega
  have hne : ((i : Int) == (i : Int) + 1) = false := by simp; omega
  obtain ⟨ii, hi9, hz9, hs9, hby9⟩ := info_parts' (P := Tryz.prog) (e := 55) (z := some (.agg zeroEnv.toArray)) (s := 4) (b := 32) (by kernel_rfl)
  have hzv : ∀ x, (zeroValue 55).run Tryz.prog x = .ok (.agg zeroEnv.toArray) x := fun x => by simp [zeroValue, typeInfo, hi9, hz9]
  have q1 : i ≤ cap := by omega
  have q2 : i + 1 ≤ n := by omega
  have q3 : i + 1 ≤ cap := by omega
  have q4 : (0 : Int) ≤ (i : Int) + 1 := by omega
  have hll : i + (n - (i + 1)) = n - 1 := by omega
  have hnl : (xs.drop ((i + 1) * 4)).length = (n - (i + 1)) * 4 := by rw [List.length_drop, hxl, Nat.sub_mul]
  have hgd : w.drew.heap[g]? = some (.cells cs 55 (0, 0)) := hg
  have hin : ∀ j, j < cap * 4 → (w.drew.cell? ⟨g, j, none⟩).isSome = true := fun j hj => by
    rw [cell_of_blk hgd j, Array.getElem?_eq_getElem (by omega)]; rfl
  have hsp : ∀ j, j < (xs.drop ((i + 1) * 4)).length → (w.drew.cell? ⟨g, 0 + i * 4 + j, none⟩).isSome = true ∧ w.drew.frozen? ⟨g, 0 + i * 4 + j, none⟩ = false := fun j hj => ⟨hin _ (by rw [hnl] at hj; have : (i + (n - (i + 1))) * 4 ≤ cap * 4 := Nat.mul_le_mul_right _ (by omega); rw [Nat.add_mul] at this; omega), frozen_of_blk hgd _⟩
  have h1d : ∀ u ∈ xs.drop ((i + 1) * 4), u.oneCell' = true := fun u hu => h1 u (List.mem_of_mem_drop hu)
  have hb1 := setCells_blk g _ _ (xs.drop ((i + 1) * 4)) w.drew (0 + i * 4) cs hgd
  obtain ⟨w1, hw1⟩ : ∃ w1, w1 = w.drew.setCells g (0 + i * 4) (xs.drop ((i + 1) * 4)) := ⟨_, rfl⟩
  have hy1 : Chg (· = g) w w1 := by rw [hw1]; exact Chg.cells _ _ (Chg.refl _ _).drew
  rw [← hw1] at hb1
  have hclr := run_clear_one (P := Tryz.prog) w1 39 55 0 (.agg zeroEnv.toArray) zeroEnv Tryz.underlying39 (hzv _) rfl (by intro v hv; simp only [zeroEnv, List.mem_cons, List.not_mem_nil, or_false] at hv; rcases hv with rfl | rfl | rfl | rfl | rfl | rfl | rfl | rfl | rfl | rfl | rfl | rfl | rfl | rfl | rfl | rfl | rfl | rfl | rfl <;> rfl) g ((n - 1) * 4) (cap - (n - 1))
    (fun j hj => by
      have hj' : j < 4 := hj
      have : (n - 1 + 1) * 4 ≤ cap * 4 := Nat.mul_le_mul_right _ (by omega)
      rw [cell_of_blk hb1, Array.getElem?_eq_getElem (by rw [setAll_size]; omega)]; rfl) (fun j hj => frozen_of_blk hb1 _)
  have hb2 := setCells_blk g _ _ zeroEnv w1 ((n - 1) * 4) _ hb1
  obtain ⟨w2, hw2⟩ : ∃ w2, w2 = w1.setCells g ((n - 1) * 4) zeroEnv := ⟨_, rfl⟩
  have hy2 : Chg (· = g) w w2 := by rw [hw2]; exact Chg.cells _ _ hy1
  rw [← hw2] at hb2 hclr
  have hlen9 : (xs.take (i * 4) ++ xs.drop ((i + 1) * 4)).length = (n - 1) * 4 := by
    rw [List.length_append, hnl, List.length_take, hxl, Nat.min_eq_left (Nat.mul_le_mul_right _ (by omega)), ← Nat.add_mul, hll]
  have hfin : Own 55 4 w2 (.slice (some ⟨g, 0, none⟩) (n - 1) cap) (n - 1) (xs.take (i * 4) ++ xs.drop ((i + 1) * 4)) := by
    refine ⟨hlen9, .inr ⟨g, cap, _, rfl, Nat.zero_le _, hb2, by omega, hcm, by rw [setAll_size, setAll_size, hcs], ?_⟩⟩
    refine List.ext_getElem? fun j => ?_
    rw [List.getElem?_take]
    have hsz : (n - 1 + 1) * 4 ≤ cs.size := by rw [hcs]; exact Nat.mul_le_mul_right _ (by omega)
    have hm : i * 4 + (n - (i + 1)) * 4 = (n - 1) * 4 := by rw [← Nat.add_mul, hll]
    by_cases hj : j < (n - 1) * 4
    · rw [if_pos hj, Array.getElem?_toList, setAll_out _ _ _ _ (.inl hj)]
      by_cases hji : j < i * 4
      · rw [setAll_out _ _ _ _ (.inl (by omega)), List.getElem?_append_left (by rw [List.length_take, hxl, Nat.min_eq_left (Nat.mul_le_mul_right _ (by omega))]; exact hji), List.getElem?_take, if_pos hji, ← ht, List.getElem?_take, if_pos (by have : i * 4 ≤ n * 4 := Nat.mul_le_mul_right _ (by omega); omega), Array.getElem?_toList]
      · rw [List.getElem?_append_right (by rw [List.length_take, hxl, Nat.min_eq_left (Nat.mul_le_mul_right _ (by omega))]; omega), List.length_take, hxl, Nat.min_eq_left (Nat.mul_le_mul_right _ (by omega))]
        obtain ⟨r, rfl⟩ : ∃ r, j = (0 + i * 4) + r := ⟨j - i * 4, by omega⟩
        rw [setAll_in _ _ _ _ (by rw [hnl]; omega) (by rw [hnl]; omega)]
        congr 1; omega
    · rw [if_neg hj]
      exact (List.getElem?_eq_none (by rw [hlen9]; omega)).symm
  have HFIN := Lib.hid hfin
  have HB1 := Lib.hid hb1
  have HY2 := Lib.hid hy2
  have HNL := Lib.hid hnl
  have H1D := Lib.hid h1d
  have HSP := Lib.hid hsp
  have HT := Lib.hid ht
  have HGD := Lib.hid hgd
  have HW1 : Hid (w1 = w.drew.setCells g (i * 4) (xs.drop ((i + 1) * 4))) := by rw [Nat.zero_add] at hw1; exact hw1
  have HCLR := Lib.hid hclr
  clear hfin hb1 hb2 hy1 hy2 hlen9 hin hzv hw1 hclr hsp h1d ht hgd hg h h1 hxl hcs hz9 hby9 hw2
  by_cases hcap : cap = i + 1
  · have hnn : n = i + 1 := by omega
    subst hnn
    subst hcap
    have hnw : ∀ (j : Nat) (u : Value), (xs.drop ((i + 1) * 4))[j]? = some u → w.drew.cell? ((⟨g, 0, none⟩ : Addr).add j) = some u := fun j u hu => by
      have := (List.getElem?_eq_some_iff.1 hu).1; rw [hnl] at this; omega
    have HNW := Lib.hid hnw
    have hn0 : (xs.drop ((i + 1) * 4)).length = 0 * 4 := by rw [hnl, Nat.sub_self]
    have HNL0 := Lib.hid hn0
    have q6 : i + 1 - 1 = i := by omega
    have q7 : i + 1 - i = 1 := by omega
    rw [q6, q7] at HCLR
    rw [q6] at HFIN
    clear hnw hnl hn0 hi2 hi3 hll hnc
    go_enter Tryz.func58, Tryz.ntmps58
    go_wp2_with fail
    go_region_law (refine step_append_room rfl (.tmp 22) (.tmp 25) 39 rfl 55 ii 4 Tryz.underlying39 hi9 hs9 g 0 i (i + 1) (by simp [Act.eval, Act.put]) ⟨g, 0, none⟩ 0 0 (xs.drop ((i + 1) * 4)) (by simp [Act.eval, Act.put]) HNL0.out HNW.out H1D.out (by omega) HSP.out ?_)
    all_goals
      rw [← HW1.out]
      have hclr := HCLR.out
      go_wp2_with fail
      go_ret
      exact ⟨rfl, HFIN.out, HY2.out⟩
  · have hnw : ∀ (j : Nat) (u : Value), (xs.drop ((i + 1) * 4))[j]? = some u → w.drew.cell? ((⟨g, (i + 1) * 4, none⟩ : Addr).add j) = some u := fun j u hu => by
      have hjl := (List.getElem?_eq_some_iff.1 hu).1
      rw [hnl] at hjl
      have e1 : (⟨g, (i + 1) * 4, none⟩ : Addr).add j = ⟨g, (i + 1) * 4 + j, none⟩ := by unfold Addr.add; split <;> simp_all
      rw [e1, cell_of_blk HGD.out]
      rw [List.getElem?_drop, ← HT.out, List.getElem?_take] at hu
      split at hu
      · simpa using hu
      · cases hu
    have HNW := Lib.hid hnw
    clear hnw hnl
    go_enter Tryz.func58, Tryz.ntmps58
    go_wp2_with fail
    go_region_law (refine step_append_room rfl (.tmp 22) (.tmp 25) 39 rfl 55 ii 4 Tryz.underlying39 hi9 hs9 g 0 i cap (by simp [Act.eval, Act.put]) ⟨g, (i + 1) * 4, none⟩ (n - (i + 1)) (cap - (i + 1)) (xs.drop ((i + 1) * 4)) (by simp [Act.eval, Act.put]) HNL.out HNW.out H1D.out (by omega) HSP.out ?_)
    all_goals
      rw [← HW1.out]
      have q5 : (n : Int) - 1 = ((n - 1 : Nat) : Int) := by omega
      have q8 : n - (n - 1) = 1 := by omega
      have q9 : n - 1 ≤ cap := by omega
      have q10 : ¬ cap = n - 1 := by omega
      have q11 : n - 1 ≤ n := by omega
      have hclr := HCLR.out
      go_wp2_with fail
      go_ret
      exact ⟨rfl, HFIN.out, HY2.out⟩
end Go.Proofs.YtcfhkpjheemkgaaGreat
