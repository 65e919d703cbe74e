/-
  SetAll, Delete, Net, Build, NetSend, NetAwake, Same, SameMsg, NetD as one text.
-/
import Derived.Test.YtcfhkpjheemkgaaCells
import Derived.Test.YtcfhkpjheemkgaaMsg
import Derived.Test.YtcfhkpjheemkgaaSeq
import Derived.Test.YtcfhkpjheemkgaaBlok
import Derived.Test.YtcfhkpjheemkgaaTextArgs
namespace Go.Proofs.Ytcfhkpjheemkgaa
set_option linter.unusedSectionVars false
set_option linter.unnecessarySimpa false
set_option linter.unusedSimpArgs false
set_option linter.unusedVariables false
section
open Go.RowKit Go.MapKept

/-- The cells vs laid into cs from o on. -/
def setAll (cs : Array Value) : Nat → List Value → Array Value
  | _, [] => cs
  | o, v :: r => setAll (cs.setIfInBounds o v) (o + 1) r
theorem setAll_size (vs : List Value) : ∀ (cs : Array Value) (o : Nat), (setAll cs o vs).size = cs.size := by
  induction vs with
  | nil => intro cs o; rfl
  | cons v r ih => intro cs o; rw [setAll, ih, Array.size_setIfInBounds]
theorem setAll_out (vs : List Value) : ∀ (cs : Array Value) (o j : Nat), (j < o ∨ o + vs.length ≤ j) → (setAll cs o vs)[j]? = cs[j]? := by
  induction vs with
  | nil => intro cs o j h; rfl
  | cons v r ih =>
    intro cs o j h
    simp only [List.length_cons] at h
    rw [setAll, ih _ _ _ (by omega), Array.getElem?_setIfInBounds]
    rw [if_neg (by omega)]
theorem setAll_in (vs : List Value) : ∀ (cs : Array Value) (o j : Nat), j < vs.length → o + vs.length ≤ cs.size → (setAll cs o vs)[o + j]? = vs[j]? := by
  induction vs with
  | nil => intro cs o j h; simp at h
  | cons v r ih =>
    intro cs o j h hs
    simp only [List.length_cons] at h hs
    cases j with
    | zero =>
      rw [setAll, setAll_out _ _ _ _ (by omega), Nat.add_zero, Array.getElem?_setIfInBounds, if_pos rfl, if_pos (by omega)]
      rfl
    | succ j =>
      rw [setAll, show o + (j + 1) = (o + 1) + j by omega, ih _ _ _ (by omega) (by rw [Array.size_setIfInBounds]; omega)]
      rfl
theorem setCells_blk (b : Nat) (t : TypeId) (fr : Nat × Nat) (vs : List Value) : ∀ (w : World) (o : Nat) (cs : Array Value), w.heap[b]? = some (.cells cs t fr) → (w.setCells b o vs).heap[b]? = some (.cells (setAll cs o vs) t fr) := by
  induction vs with
  | nil => intro w o cs h; exact h
  | cons v r ih => intro w o cs h; exact ih _ _ _ (setCell_same v h)
theorem Chg.cells {b : Nat} {x : World} (vs : List Value) : ∀ {y : World} (o : Nat), Chg (· = b) x y → Chg (· = b) x (y.setCells b o vs) := by
  induction vs with
  | nil => intro y o h; exact h
  | cons v r ih => intro y o h; exact ih (o + 1) (h.put o v)

/-- clear(s), s one element of several cells. -/
theorem run_clear_one {P : Program} (w : World) (t e ty : TypeId) (z : Value) (zs : List Value) (ht : P.underlying t = some (.slice e)) (hv : (zeroValue e).run P w = .ok z w) (hz : z.cells = zs.toArray) (h1 : ∀ v ∈ zs, v.oneCell' = true) (b o c : Nat)
    (hc : ∀ j, j < zs.length → (w.cell? ⟨b, o + j, none⟩).isSome = true) (hf : ∀ j, j < zs.length → w.frozen? ⟨b, o + j, none⟩ = false) :
    (Builtin.clear_ #[t] ty #[.slice (some ⟨b, o, none⟩) 1 c]).run P w = .ok (.tuple #[]) (w.setCells b o zs) := by
  have hzc : (Builtin.zeroCells z.cells 1).toList = zs := by
    rw [hz]
    simp [Builtin.zeroCells]
    apply List.ext_getElem
    · simp
    · intro i h1 h2
      simp at h1
      simp [Nat.mod_eq_of_lt h1, h1]
  have hst := run_storeCells_cells (P := P) b o zs 0 w (by simpa using hc) (by simpa using hf) h1
  simp only [Nat.add_zero] at hst
  simp [Builtin.clear_, run_underlying ht, hv, hzc, hst]
end
section
open Go.RowKit Go.MapKept

def zeroMsg : List Value := [.int .i64 0, .int .i64 0, .int .i64 0, .int .i64 0, .int .i64 0, .int .i64 0, .int .i64 0, .slice none 0 0, .int .i64 0, .slice none 0 0, .slice none 0 0, .int .i64 0, .int .i64 0, .slice none 0 0, .int .i64 0, .int .u64 0, .int .u64 0, .int .i64 0, .slice none 0 0]

set_option maxRecDepth 100000 in
set_option maxHeartbeats 4000000 in
theorem slices_delete (g n cap i : Nat) (xs : List Value) (w : World) (h : Own 36 19 w (.slice (some ⟨g, 0, none⟩) n cap) n xs) (hi : i < n) (hn : n ≤ 1000000) (h1 : ∀ u ∈ xs, u.oneCell' = true) :
    Calls Try.prog 52 #[.slice (some ⟨g, 0, none⟩) n cap, .int .i64 i, .int .i64 ((i : Int) + 1)] w fun e w' =>
      e = .returned (.slice (some ⟨g, 0, none⟩) (n - 1) cap) ∧ Own 36 19 w' (.slice (some ⟨g, 0, none⟩) (n - 1) cap) (n - 1) (xs.take (i * 19) ++ xs.drop ((i + 1) * 19)) ∧ Chg (· = g) w w' := by
  obtain ⟨_, _, e', hnc, hcm, hxl, ha⟩ := h.open
  cases e'
  rcases ha with ⟨h0, _⟩ | ⟨_, cs, e', hg, hcs, ht⟩
  · cases h0
  cases e'
  have hi0 : (0 : Int) ≤ (i : Int) := by omega
  have hi1 : (i : Int) ≤ (i : Int) + 1 := by omega
  have hi2 : (i : Int) + 1 ≤ (n : Int) := by omega
  have hi3 : (n : Int) ≤ (cap : Int) := by omega
  have hne : ((i : Int) == (i : Int) + 1) = false := by simp; omega
  obtain ⟨ii, hi9, hz9, hs9, hby9⟩ := info_parts' (P := Try.prog) (e := 36) (z := some (.agg zeroMsg.toArray)) (s := 19) (b := 232) (by kernel_rfl)
  have hzv : ∀ x, (zeroValue 36).run Try.prog x = .ok (.agg zeroMsg.toArray) x := fun x => by simp [zeroValue, typeInfo, hi9, hz9]
  have q1 : i ≤ cap := by omega
  have q2 : i + 1 ≤ n := by omega
  have q3 : i + 1 ≤ cap := by omega
  have q4 : (0 : Int) ≤ (i : Int) + 1 := by omega
  have hll : i + (n - (i + 1)) = n - 1 := by omega
  have hnl : (xs.drop ((i + 1) * 19)).length = (n - (i + 1)) * 19 := by rw [List.length_drop, hxl, Nat.sub_mul]
  have hgd : w.drew.heap[g]? = some (.cells cs 36 (0, 0)) := hg
  have hin : ∀ j, j < cap * 19 → (w.drew.cell? ⟨g, j, none⟩).isSome = true := fun j hj => by
    rw [cell_of_blk hgd j, Array.getElem?_eq_getElem (by omega)]; rfl
  have hsp : ∀ j, j < (xs.drop ((i + 1) * 19)).length → (w.drew.cell? ⟨g, 0 + i * 19 + j, none⟩).isSome = true ∧ w.drew.frozen? ⟨g, 0 + i * 19 + j, none⟩ = false := fun j hj => ⟨hin _ (by rw [hnl] at hj; have : (i + (n - (i + 1))) * 19 ≤ cap * 19 := Nat.mul_le_mul_right _ (by omega); rw [Nat.add_mul] at this; omega), frozen_of_blk hgd _⟩
  have h1d : ∀ u ∈ xs.drop ((i + 1) * 19), u.oneCell' = true := fun u hu => h1 u (List.mem_of_mem_drop hu)
  have hb1 := setCells_blk g _ _ (xs.drop ((i + 1) * 19)) w.drew (0 + i * 19) cs hgd
  obtain ⟨w1, hw1⟩ : ∃ w1, w1 = w.drew.setCells g (0 + i * 19) (xs.drop ((i + 1) * 19)) := ⟨_, rfl⟩
  have hy1 : Chg (· = g) w w1 := by rw [hw1]; exact Chg.cells _ _ (Chg.refl _ _).drew
  rw [← hw1] at hb1
  have hclr := run_clear_one (P := Try.prog) w1 22 36 0 (.agg zeroMsg.toArray) zeroMsg Try.underlying22 (hzv _) rfl (by intro v hv; simp only [zeroMsg, List.mem_cons, List.not_mem_nil, or_false] at hv; rcases hv with rfl | rfl | rfl | rfl | rfl | rfl | rfl | rfl | rfl | rfl | rfl | rfl | rfl | rfl | rfl | rfl | rfl | rfl | rfl <;> rfl) g ((n - 1) * 19) (cap - (n - 1))
    (fun j hj => by
      have hj' : j < 19 := hj
      have : (n - 1 + 1) * 19 ≤ cap * 19 := Nat.mul_le_mul_right _ (by omega)
      rw [cell_of_blk hb1, Array.getElem?_eq_getElem (by rw [setAll_size]; omega)]; rfl) (fun j hj => frozen_of_blk hb1 _)
  have hb2 := setCells_blk g _ _ zeroMsg w1 ((n - 1) * 19) _ hb1
  obtain ⟨w2, hw2⟩ : ∃ w2, w2 = w1.setCells g ((n - 1) * 19) zeroMsg := ⟨_, rfl⟩
  have hy2 : Chg (· = g) w w2 := by rw [hw2]; exact Chg.cells _ _ hy1
  rw [← hw2] at hb2 hclr
  have hlen9 : (xs.take (i * 19) ++ xs.drop ((i + 1) * 19)).length = (n - 1) * 19 := by
    rw [List.length_append, hnl, List.length_take, hxl, Nat.min_eq_left (Nat.mul_le_mul_right _ (by omega)), ← Nat.add_mul, hll]
  have hfin : Own 36 19 w2 (.slice (some ⟨g, 0, none⟩) (n - 1) cap) (n - 1) (xs.take (i * 19) ++ xs.drop ((i + 1) * 19)) := by
    refine ⟨hlen9, .inr ⟨g, cap, _, rfl, Nat.zero_le _, hb2, by omega, hcm, by rw [setAll_size, setAll_size, hcs], ?_⟩⟩
    refine List.ext_getElem? fun j => ?_
    rw [List.getElem?_take]
    have hsz : (n - 1 + 1) * 19 ≤ cs.size := by rw [hcs]; exact Nat.mul_le_mul_right _ (by omega)
    have hm : i * 19 + (n - (i + 1)) * 19 = (n - 1) * 19 := by rw [← Nat.add_mul, hll]
    by_cases hj : j < (n - 1) * 19
    · rw [if_pos hj, Array.getElem?_toList, setAll_out _ _ _ _ (.inl hj)]
      by_cases hji : j < i * 19
      · rw [setAll_out _ _ _ _ (.inl (by omega)), List.getElem?_append_left (by rw [List.length_take, hxl, Nat.min_eq_left (Nat.mul_le_mul_right _ (by omega))]; exact hji), List.getElem?_take, if_pos hji, ← ht, List.getElem?_take, if_pos (by have : i * 19 ≤ n * 19 := Nat.mul_le_mul_right _ (by omega); omega), Array.getElem?_toList]
      · rw [List.getElem?_append_right (by rw [List.length_take, hxl, Nat.min_eq_left (Nat.mul_le_mul_right _ (by omega))]; omega), List.length_take, hxl, Nat.min_eq_left (Nat.mul_le_mul_right _ (by omega))]
        obtain ⟨r, rfl⟩ : ∃ r, j = (0 + i * 19) + r := ⟨j - i * 19, by omega⟩
        rw [setAll_in _ _ _ _ (by rw [hnl]; omega) (by rw [hnl]; omega)]
        congr 1; omega
    · rw [if_neg hj]
      exact (List.getElem?_eq_none (by rw [hlen9]; omega)).symm
  have HFIN := Lib.hid hfin
  have HB1 := Lib.hid hb1
  have HY2 := Lib.hid hy2
  have HNL := Lib.hid hnl
  have H1D := Lib.hid h1d
  have HSP := Lib.hid hsp
  have HT := Lib.hid ht
  have HGD := Lib.hid hgd
  have HW1 : Hid (w1 = w.drew.setCells g (i * 19) (xs.drop ((i + 1) * 19))) := by rw [Nat.zero_add] at hw1; exact hw1
  have HCLR := Lib.hid hclr
  clear hfin hb1 hb2 hy1 hy2 hlen9 hin hzv hw1 hclr hsp h1d ht hgd hg h h1 hxl hcs hz9 hby9 hw2
  by_cases hcap : cap = i + 1
  · have hnn : n = i + 1 := by omega
    subst hnn
    subst hcap
    have hnw : ∀ (j : Nat) (u : Value), (xs.drop ((i + 1) * 19))[j]? = some u → w.drew.cell? ((⟨g, 0, none⟩ : Addr).add j) = some u := fun j u hu => by
      have := (List.getElem?_eq_some_iff.1 hu).1; rw [hnl] at this; omega
    have HNW := Lib.hid hnw
    have hn0 : (xs.drop ((i + 1) * 19)).length = 0 * 19 := by rw [hnl, Nat.sub_self]
    have HNL0 := Lib.hid hn0
    have q6 : i + 1 - 1 = i := by omega
    have q7 : i + 1 - i = 1 := by omega
    rw [q6, q7] at HCLR
    rw [q6] at HFIN
    clear hnw hnl hn0 hi2 hi3 hll hnc
    go_enter Try.func52, Try.ntmps52
    go_wp2_with fail
    go_region_law (refine step_append_room rfl (.tmp 22) (.tmp 25) 22 rfl 36 ii 19 Try.underlying22 hi9 hs9 g 0 i (i + 1) (by simp [Act.eval, Act.put]) ⟨g, 0, none⟩ 0 0 (xs.drop ((i + 1) * 19)) (by simp [Act.eval, Act.put]) HNL0.out HNW.out H1D.out (by omega) HSP.out ?_)
    all_goals
      rw [← HW1.out]
      have hclr := HCLR.out
      go_wp2_with fail
      go_ret
      exact ⟨rfl, HFIN.out, HY2.out⟩
  · have hnw : ∀ (j : Nat) (u : Value), (xs.drop ((i + 1) * 19))[j]? = some u → w.drew.cell? ((⟨g, (i + 1) * 19, none⟩ : Addr).add j) = some u := fun j u hu => by
      have hjl := (List.getElem?_eq_some_iff.1 hu).1
      rw [hnl] at hjl
      have e1 : (⟨g, (i + 1) * 19, none⟩ : Addr).add j = ⟨g, (i + 1) * 19 + j, none⟩ := by unfold Addr.add; split <;> simp_all
      rw [e1, cell_of_blk HGD.out]
      rw [List.getElem?_drop, ← HT.out, List.getElem?_take] at hu
      split at hu
      · simpa using hu
      · cases hu
    have HNW := Lib.hid hnw
    clear hnw hnl
    go_enter Try.func52, Try.ntmps52
    go_wp2_with fail
    go_region_law (refine step_append_room rfl (.tmp 22) (.tmp 25) 22 rfl 36 ii 19 Try.underlying22 hi9 hs9 g 0 i cap (by simp [Act.eval, Act.put]) ⟨g, (i + 1) * 19, none⟩ (n - (i + 1)) (cap - (i + 1)) (xs.drop ((i + 1) * 19)) (by simp [Act.eval, Act.put]) HNL.out HNW.out H1D.out (by omega) HSP.out ?_)
    all_goals
      rw [← HW1.out]
      have q5 : (n : Int) - 1 = ((n - 1 : Nat) : Int) := by omega
      have q8 : n - (n - 1) = 1 := by omega
      have q9 : n - 1 ≤ cap := by omega
      have q10 : ¬ cap = n - 1 := by omega
      have q11 : n - 1 ≤ n := by omega
      have hclr := HCLR.out
      go_wp2_with fail
      go_ret
      exact ⟨rfl, HFIN.out, HY2.out⟩
end
section
open Go.RowKit Go.MapKept

def flatM (E : List (MsgX × List Value)) : List Value := E.flatMap (·.2)
theorem flatM_snoc (E : List (MsgX × List Value)) (e : MsgX × List Value) : flatM (E ++ [e]) = flatM E ++ e.2 := by simp [flatM]
theorem flatM_length (E : List (MsgX × List Value)) (h : ∀ e ∈ E, e.2.length = 19) : (flatM E).length = E.length * 19 := by
  induction E with
  | nil => rfl
  | cons e L ih =>
    simp only [flatM, List.flatMap_cons, List.length_append, List.length_cons] at *
    rw [ih (fun e he => h e (List.mem_cons_of_mem _ he)), h e List.mem_cons_self]; omega
theorem flatM_at (E : List (MsgX × List Value)) (h : ∀ e ∈ E, e.2.length = 19) (i : Nat) (hi : i < E.length) (j : Nat) (hj : j < 19) : (flatM E)[i * 19 + j]? = E[i].2[j]? := by
  induction E generalizing i with
  | nil => simp at hi
  | cons e L ih =>
    have hl : e.2.length = 19 := h e List.mem_cons_self
    cases i with
    | zero =>
      simp only [flatM, List.flatMap_cons, List.getElem_cons_zero]
      rw [Nat.zero_mul, Nat.zero_add, List.getElem?_append_left (by omega)]
    | succ i =>
      have := ih (fun e he => h e (List.mem_cons_of_mem _ he)) i (by simpa using hi)
      simp only [flatM, List.flatMap_cons, List.getElem_cons_succ] at *
      rw [List.getElem?_append_right (by omega), hl, show (i + 1) * 19 + j - 19 = i * 19 + j by omega]
      exact this
theorem flatM_erase (E : List (MsgX × List Value)) (h : ∀ e ∈ E, e.2.length = 19) (i : Nat) (hi : i < E.length) : (flatM E).take (i * 19) ++ (flatM E).drop ((i + 1) * 19) = flatM (E.eraseIdx i) := by
  induction E generalizing i with
  | nil => simp at hi
  | cons e L ih =>
    have hl : e.2.length = 19 := h e List.mem_cons_self
    have hf : flatM (e :: L) = e.2 ++ flatM L := by simp [flatM]
    cases i with
    | zero =>
      rw [hf, Nat.zero_mul, List.take_zero, Nat.zero_add, Nat.one_mul, List.nil_append, ← hl, List.drop_left]
      rfl
    | succ i =>
      have := ih (fun e he => h e (List.mem_cons_of_mem _ he)) i (by simpa using hi)
      rw [hf, List.eraseIdx_cons_succ, show flatM (e :: L.eraseIdx i) = e.2 ++ flatM (L.eraseIdx i) by simp [flatM], ← this]
      rw [List.take_append, List.drop_append, hl, List.take_of_length_le (by omega), List.drop_eq_nil_of_le (by omega), List.nil_append, List.append_assoc]
      congr 3 <;> omega
theorem map_erase (E : List (MsgX × List Value)) (i : Nat) : (E.map (·.1)).eraseIdx i = (E.eraseIdx i).map (·.1) := by
  induction E generalizing i with
  | nil => simp
  | cons e L ih =>
    cases i with
    | zero => rfl
    | succ i => simp [ih i]
theorem flatM_one (E : List (MsgX × List Value)) (h : ∀ e ∈ E, ∀ u ∈ e.2, u.oneCell' = true) : ∀ u ∈ flatM E, u.oneCell' = true := by
  intro u hu
  obtain ⟨e, he, hu⟩ := List.mem_flatMap.1 hu
  exact h e he u hu

/-- The net behind p: its messages L; its memory lies in F. -/
def NetAt (w : World) (p : Nat) (F : Nat → Prop) (v : Value) (E : List (MsgX × List Value)) : Prop :=
  w.heap[p]? = some (.cells #[v] 107 (0, 0)) ∧ Own 36 19 w v E.length (flatM E) ∧ v.ownBlock ≠ some p ∧ F p ∧ (∀ k, v.ownBlock = some k → F k) ∧ (∀ k, F k → k < w.heap.size) ∧ ∀ e ∈ E, MsgV (fun k => F k ∧ k ≠ p ∧ v.ownBlock ≠ some k) w e.2 e.1
def NetV (w : World) (p : Nat) (F : Nat → Prop) (L : List MsgX) : Prop := ∃ v E, L = E.map (·.1) ∧ NetAt w p F v E
section
variable {w w' x y z : World} {p : Nat} {F : Nat → Prop} {L : List MsgX} {v : Value} {E : List (MsgX × List Value)}
theorem NetAt.len19 (h : NetAt w p F v E) : ∀ e ∈ E, e.2.length = 19 := fun e he => (h.2.2.2.2.2.2 e he).length
theorem NetAt.chg {S : Nat → Prop} (h : NetAt w p F v E) (hc : Chg S w w') (hs : ∀ k, F k → ¬ S k) : NetAt w' p F v E := by
  obtain ⟨h1, h2, h3, h4, h5, h6, h7⟩ := h
  exact ⟨hc.blk h1 (hs p h4), h2.chg hc (fun k hk => hs k (h5 k hk)), h3, h4, h5, fun k hk => Nat.lt_of_lt_of_le (h6 k hk) hc.size, fun e he => (h7 e he).chg hc (fun k hk => hs k hk.1)⟩
theorem NetV.chg {S : Nat → Prop} (h : NetV w p F L) (hc : Chg S w w') (hs : ∀ k, F k → ¬ S k) : NetV w' p F L := by
  obtain ⟨v, E, e, h⟩ := h
  exact ⟨v, E, e, h.chg hc hs⟩
theorem NetV.chg0 (h : NetV w p F L) (hc : Chg none_ w w') : NetV w' p F L := h.chg hc fun _ _ h => h
theorem NetV.lt (h : NetV w p F L) : ∀ k, F k → k < w.heap.size := by obtain ⟨v, E, e, h⟩ := h; exact h.2.2.2.2.2.1
theorem NetV.here (h : NetV w p F L) : F p := by obtain ⟨v, E, e, h⟩ := h; exact h.2.2.2.1
/-- One more message, whose memory was made since B. -/
theorem NetAt.push (h : NetAt x p F v E) {B : Nat} (hB : B = x.heap.size) (hy : Chg none_ x y) {cs : List Value} {m : MsgX} (hm : MsgV (fun k => B ≤ k) y cs m)
    {v' : Value} (ho : Own 36 19 z v' (E.length + 1) (flatM E ++ cs)) (hz : Chg (fun k => v.ownBlock = some k) y z) (hb : v'.ownBlock = v.ownBlock ∨ ∃ k, v'.ownBlock = some k ∧ y.heap.size ≤ k) :
    ∃ F', NetAt (z.setCell ⟨p, 0, none⟩ v') p F' v' (E ++ [(m, cs)]) ∧ (∀ k, F' k → F k ∨ x.heap.size ≤ k) ∧ Chg F x (z.setCell ⟨p, 0, none⟩ v') := by
  obtain ⟨h1, h2, h3, h4, h5, h6, h7⟩ := h
  have hp := blk_lt h1
  have hsy := hy.size
  have hsz := hz.size
  have hv'p : v'.ownBlock ≠ some p := fun e => by
    rcases hb with hb | ⟨k, hk, hle⟩
    · exact h3 (hb ▸ e)
    · rw [hk] at e; cases e; omega
  have hzp : z.heap[p]? = some (.cells #[v] 107 (0, 0)) := hz.blk (hy.blk h1 (fun e => e)) h3
  have hc : Chg F x z := (hy.mono fun _ _ e => e.elim).step hz (fun k hk => .inl (h5 k hk))
  have hcp := (Chg.refl (· = p) z).put 0 v'
  have hs9 : (z.setCell ⟨p, 0, none⟩ v').heap.size = z.heap.size := by simp
  refine ⟨fun k => F k ∨ (x.heap.size ≤ k ∧ k < z.heap.size), ⟨setCell_same (i := 0) v' hzp, ?_, hv'p, .inl h4, fun k hk => ?_, fun k hk => ?_, fun e he => ?_⟩, fun k hk => hk.imp id (·.1), hc.setCell (.inl h4) v'⟩
  · rw [flatM_snoc, List.length_append, List.length_singleton]
    exact ho.chg hcp (fun k hk e => hv'p (e ▸ hk))
  · have hlt := ho.lt hk
    rcases hb with hb | ⟨k', hk', hle⟩
    · exact .inl (h5 k (hb ▸ hk))
    · rw [hk'] at hk; cases hk; exact .inr ⟨by omega, hlt⟩
  · rw [hs9]
    rcases hk with hk | hk
    · have := h6 k hk; omega
    · exact hk.2
  · rcases List.mem_append.1 he with he | he
    · refine ((((h7 e he).chg0 hy).mono (S' := fun k => (F k ∧ k ≠ p ∧ v.ownBlock ≠ some k) ∧ k < y.heap.size) (fun k hk hlt => ⟨hk, hlt⟩)).chg hz (fun k hk => hk.1.2.2)).chg hcp (fun k hk => hk.1.2.1) |>.mono (fun k hk _ => ⟨.inl hk.1.1, hk.1.2.1, fun e => ?_⟩)
      rcases hb with hb | ⟨k', hk', hle⟩
      · exact hk.1.2.2 (hb ▸ e)
      · rw [hk'] at e; cases e; have := hk.2; omega
    · simp at he; subst he
      refine ((hm.mono (S' := fun k => x.heap.size ≤ k ∧ k < y.heap.size) (fun k hk hlt => ⟨by omega, hlt⟩)).chg hz (fun k hk e => by have := h2.lt e; omega)).chg hcp (fun k hk e => by omega) |>.mono (fun k hk _ => ⟨.inr ⟨hk.1, by omega⟩, by omega, fun e => ?_⟩)
      rcases hb with hb | ⟨k', hk', hle⟩
      · have := h2.lt (hb ▸ e : v.ownBlock = some k); omega
      · rw [hk'] at e; cases e; omega
end
/-- The net has turned to L'. -/
def NetTo (w : World) (p : Nat) (F : Nat → Prop) (L' : List MsgX) (w' : World) : Prop := ∃ F', NetV w' p F' L' ∧ (∀ k, F' k → F k ∨ w.heap.size ≤ k) ∧ Chg F w w'

theorem net_new (w : World) : Calls Try.prog 10 #[] w fun e w' => ∃ p, e = .returned (.pointer (some ⟨p, 0, none⟩)) ∧ NetV w' p (fun k => w.heap.size ≤ k ∧ k < w'.heap.size) [] ∧ Below w.heap.size w w' := by
  go_enter Try.func10, Try.ntmps10
  go_wp2_with fail
  go_ret
  exact ⟨w.heap.size, rfl, ⟨.slice none 0 0, [], rfl, alloc_new w _ _ rfl, Own.nil _ _ _, (by intro h; cases h), ⟨Nat.le_refl _, by simp⟩, (by intro k h; cases h), fun k hk => hk.2, (by intro e h; cases h)⟩, (Below.refl _ _).alloc (Nat.le_refl _) _⟩
theorem net_len (p : Nat) (F : Nat → Prop) (L : List MsgX) (w : World) (h : NetV w p F L) : Calls Try.prog 18 #[.pointer (some ⟨p, 0, none⟩)] w fun e w' => e = .returned (.int .i64 L.length) ∧ w = w' := by
  obtain ⟨v, E, rfl, h1, h2, -⟩ := h
  obtain ⟨a, cap, rfl, -⟩ := h2.open
  have c0 : w.cell? ⟨p, 0, none⟩ = some (.slice a E.length cap) := (cell_of_blk h1 0).trans rfl
  rw [List.length_map]
  clear h1 h2
  go_enter Try.func18, Try.ntmps18
  go_wp2_with fail
  go_ret
  exact ⟨rfl, rfl⟩

theorem size19n : (Try.prog.info? 36).map (·.size) = some 19 := by kernel_rfl
set_option maxRecDepth 100000 in
set_option maxHeartbeats 2000000 in
theorem net_at_no (p : Nat) (F : Nat → Prop) (L : List MsgX) (i : Int) (w : World) (h : NetV w p F L) (hi : ¬ (0 ≤ i ∧ i < (L.length : Int))) :
    Calls Try.prog 17 #[.pointer (some ⟨p, 0, none⟩), .int .i64 i] w fun e w' => e = .returned (.tuple #[.agg zeroMsg.toArray, .bool false]) ∧ Below w.heap.size w w' := by
  obtain ⟨v, E, rfl, h1, h2, -⟩ := h
  obtain ⟨a, cap, rfl, -⟩ := h2.open
  have c0 : (w.alloc (.cells #[.int .i64 0, .int .i64 0, .int .i64 0, .int .i64 0, .int .i64 0, .int .i64 0, .int .i64 0, .slice none 0 0, .int .i64 0, .slice none 0 0, .slice none 0 0, .int .i64 0, .int .i64 0, .slice none 0 0, .int .i64 0, .int .u64 0, .int .u64 0, .int .i64 0, .slice none 0 0] 36 (0, 0))).cell? ⟨p, 0, none⟩ = some (.slice a E.length cap) := ((Chg.refl none_ w).alloc _).cell ((cell_of_blk h1 0).trans rfl) (fun h => h)
  rw [List.length_map] at hi
  clear h1 h2
  by_cases hn : i < 0
  · have hd : decide (i < 0) = true := by simpa using hn
    clear hi
    obtain ⟨wa, hwa⟩ : ∃ wa, wa = w.alloc (.cells #[.int .i64 0, .int .i64 0, .int .i64 0, .int .i64 0, .int .i64 0, .int .i64 0, .int .i64 0, .slice none 0 0, .int .i64 0, .slice none 0 0, .slice none 0 0, .int .i64 0, .int .i64 0, .slice none 0 0, .int .i64 0, .int .u64 0, .int .u64 0, .int .i64 0, .slice none 0 0] 36 (0, 0)) := ⟨_, rfl⟩
    obtain ⟨n4, hn4⟩ : ∃ n4, n4 = w.heap.size := ⟨_, rfl⟩
    have HWA := Lib.hid hwa
    have HN4 := Lib.hid hn4
    have hb4 : wa.heap[n4]? = some (.cells #[.int .i64 0, .int .i64 0, .int .i64 0, .int .i64 0, .int .i64 0, .int .i64 0, .int .i64 0, .slice none 0 0, .int .i64 0, .slice none 0 0, .slice none 0 0, .int .i64 0, .int .i64 0, .slice none 0 0, .int .i64 0, .int .u64 0, .int .u64 0, .int .i64 0, .slice none 0 0] 36 (0, 0)) := by rw [hwa]; exact alloc_new w _ _ hn4
    rw [← hwa] at c0
    clear hwa hn4
    have hzz := setRow_heap _ n4 _ #[.int .i64 0, .int .i64 0, .int .i64 0, .int .i64 0, .int .i64 0, .int .i64 0, .int .i64 0, .slice none 0 0, .int .i64 0, .slice none 0 0, .slice none 0 0, .int .i64 0, .int .i64 0, .slice none 0 0, .int .i64 0, .int .u64 0, .int .u64 0, .int .i64 0, .slice none 0 0] _ _ hb4
    have hyz := (Chg.refl (· = n4) wa).row #[.int .i64 0, .int .i64 0, .int .i64 0, .int .i64 0, .int .i64 0, .int .i64 0, .int .i64 0, .slice none 0 0, .int .i64 0, .slice none 0 0, .slice none 0 0, .int .i64 0, .int .i64 0, .slice none 0 0, .int .i64 0, .int .u64 0, .int .u64 0, .int .i64 0, .slice none 0 0]
    go_enter Try.func17, Try.ntmps17
    go_upto_region 1 with fail
    rw [← HWA.out, ← HN4.out]
    go_wp2_with (refine wpList_store_row rfl 36 _ _ rfl n4 #[.int .i64 0, .int .i64 0, .int .i64 0, .int .i64 0, .int .i64 0, .int .i64 0, .int .i64 0, .slice none 0 0, .int .i64 0, .slice none 0 0, .slice none 0 0, .int .i64 0, .int .i64 0, .slice none 0 0, .int .i64 0, .int .u64 0, .int .u64 0, .int .i64 0, .slice none 0 0] rfl rfl _ _ hb4 size19n rfl (by simp [Value.oneCell']) ?_)
    (try simp only [Exit.inBlock, Exit.then])
    refine bodyPost_ret (results_cell_tmp (cs := #[.int .i64 0, .int .i64 0, .int .i64 0, .int .i64 0, .int .i64 0, .int .i64 0, .int .i64 0, .slice none 0 0, .int .i64 0, .slice none 0 0, .slice none 0 0, .int .i64 0, .int .i64 0, .slice none 0 0, .int .i64 0, .int .u64 0, .int .u64 0, .int .i64 0, .slice none 0 0]) rfl _ _ n4 _ _ _ rfl hzz Try.underlying36 rfl size19n) rfl ?_
    have hn := HN4.out
    have hw := HWA.out
    have hB : Below w.heap.size w wa := by rw [hw]; exact (Below.refl _ _).alloc (Nat.le_refl _) _
    exact ⟨rfl, hB.trans (hyz.below hB.size (fun k e => by omega))⟩
  · have hd : decide (i < 0) = false := by simpa using hn
    have hd2 : decide ((E.length : Int) ≤ i) = true := by simp; omega
    clear hi
    obtain ⟨wa, hwa⟩ : ∃ wa, wa = w.alloc (.cells #[.int .i64 0, .int .i64 0, .int .i64 0, .int .i64 0, .int .i64 0, .int .i64 0, .int .i64 0, .slice none 0 0, .int .i64 0, .slice none 0 0, .slice none 0 0, .int .i64 0, .int .i64 0, .slice none 0 0, .int .i64 0, .int .u64 0, .int .u64 0, .int .i64 0, .slice none 0 0] 36 (0, 0)) := ⟨_, rfl⟩
    obtain ⟨n4, hn4⟩ : ∃ n4, n4 = w.heap.size := ⟨_, rfl⟩
    have HWA := Lib.hid hwa
    have HN4 := Lib.hid hn4
    have hb4 : wa.heap[n4]? = some (.cells #[.int .i64 0, .int .i64 0, .int .i64 0, .int .i64 0, .int .i64 0, .int .i64 0, .int .i64 0, .slice none 0 0, .int .i64 0, .slice none 0 0, .slice none 0 0, .int .i64 0, .int .i64 0, .slice none 0 0, .int .i64 0, .int .u64 0, .int .u64 0, .int .i64 0, .slice none 0 0] 36 (0, 0)) := by rw [hwa]; exact alloc_new w _ _ hn4
    rw [← hwa] at c0
    clear hwa hn4
    have hzz := setRow_heap _ n4 _ #[.int .i64 0, .int .i64 0, .int .i64 0, .int .i64 0, .int .i64 0, .int .i64 0, .int .i64 0, .slice none 0 0, .int .i64 0, .slice none 0 0, .slice none 0 0, .int .i64 0, .int .i64 0, .slice none 0 0, .int .i64 0, .int .u64 0, .int .u64 0, .int .i64 0, .slice none 0 0] _ _ hb4
    have hyz := (Chg.refl (· = n4) wa).row #[.int .i64 0, .int .i64 0, .int .i64 0, .int .i64 0, .int .i64 0, .int .i64 0, .int .i64 0, .slice none 0 0, .int .i64 0, .slice none 0 0, .slice none 0 0, .int .i64 0, .int .i64 0, .slice none 0 0, .int .i64 0, .int .u64 0, .int .u64 0, .int .i64 0, .slice none 0 0]
    go_enter Try.func17, Try.ntmps17
    go_upto_region 1 with fail
    rw [← HWA.out, ← HN4.out]
    go_wp2_with (refine wpList_store_row rfl 36 _ _ rfl n4 #[.int .i64 0, .int .i64 0, .int .i64 0, .int .i64 0, .int .i64 0, .int .i64 0, .int .i64 0, .slice none 0 0, .int .i64 0, .slice none 0 0, .slice none 0 0, .int .i64 0, .int .i64 0, .slice none 0 0, .int .i64 0, .int .u64 0, .int .u64 0, .int .i64 0, .slice none 0 0] rfl rfl _ _ hb4 size19n rfl (by simp [Value.oneCell']) ?_)
    (try simp only [Exit.inBlock, Exit.then])
    refine bodyPost_ret (results_cell_tmp (cs := #[.int .i64 0, .int .i64 0, .int .i64 0, .int .i64 0, .int .i64 0, .int .i64 0, .int .i64 0, .slice none 0 0, .int .i64 0, .slice none 0 0, .slice none 0 0, .int .i64 0, .int .i64 0, .slice none 0 0, .int .i64 0, .int .u64 0, .int .u64 0, .int .i64 0, .slice none 0 0]) rfl _ _ n4 _ _ _ rfl hzz Try.underlying36 rfl size19n) rfl ?_
    have hn := HN4.out
    have hw := HWA.out
    have hB : Below w.heap.size w wa := by rw [hw]; exact (Below.refl _ _).alloc (Nat.le_refl _) _
    exact ⟨rfl, hB.trans (hyz.below hB.size (fun k e => by omega))⟩

set_option maxRecDepth 100000 in
set_option maxHeartbeats 2000000 in
theorem net_at_yes (p : Nat) (F : Nat → Prop) (L : List MsgX) (i : Nat) (m : MsgX) (w : World) (h : NetV w p F L) (hm : L[i]? = some m) :
    Calls Try.prog 17 #[.pointer (some ⟨p, 0, none⟩), .int .i64 i] w fun e w' => ∃ cs, e = .returned (.tuple #[.agg cs.toArray, .bool true]) ∧ MsgV (fun k => w.heap.size ≤ k) w' cs m ∧ Below w.heap.size w w' := by
  obtain ⟨v, E, rfl, hN⟩ := h
  have h19 := hN.len19
  obtain ⟨h1, h2, h3, h4, h5, h6, h7⟩ := hN
  obtain ⟨a, cap, rfl, hcap, hcm, hl, ha⟩ := h2.open
  obtain ⟨hiL, hmi⟩ := List.getElem?_eq_some_iff.1 hm
  rw [List.length_map] at hiL
  rw [List.getElem_map] at hmi
  rcases ha with ⟨_, h0, _⟩ | ⟨g, cs, rfl, hg, _, ht⟩
  · omega
  have hsrc : ∀ (j : Nat) (u : Value), (E[i].2)[j]? = some u → (w.alloc (.cells #[.int .i64 0, .int .i64 0, .int .i64 0, .int .i64 0, .int .i64 0, .int .i64 0, .int .i64 0, .slice none 0 0, .int .i64 0, .slice none 0 0, .slice none 0 0, .int .i64 0, .int .i64 0, .slice none 0 0, .int .i64 0, .int .u64 0, .int .u64 0, .int .i64 0, .slice none 0 0] 36 (0, 0))).cell? ⟨g, i * 19 + j, none⟩ = some u := fun j u hu => by
    have hj : j < 19 := by have := (List.getElem?_eq_some_iff.1 hu).1; rw [h19 _ (List.getElem_mem hiL)] at this; exact this
    refine ((Chg.refl none_ w).alloc _).cell (own_cell hg ht ?_ ?_) (fun h => h)
    · have : (i + 1) * 19 ≤ E.length * 19 := Nat.mul_le_mul_right _ hiL; omega
    · rw [flatM_at E h19 i hiL j hj]; exact hu
  have hmv := (h7 _ (List.getElem_mem hiL)).chg0 ((Chg.refl none_ w).alloc (.cells #[.int .i64 0, .int .i64 0, .int .i64 0, .int .i64 0, .int .i64 0, .int .i64 0, .int .i64 0, .slice none 0 0, .int .i64 0, .slice none 0 0, .slice none 0 0, .int .i64 0, .int .i64 0, .slice none 0 0, .int .i64 0, .int .u64 0, .int .u64 0, .int .i64 0, .slice none 0 0] 36 (0, 0)))
  have hl19 : (Try.prog.info? 36).map (·.size) = some (E[i].2).length := size19n.trans (congrArg some (h19 _ (List.getElem_mem hiL)).symm)
  rw [hmi] at hmv
  have c0 : (w.alloc (.cells #[.int .i64 0, .int .i64 0, .int .i64 0, .int .i64 0, .int .i64 0, .int .i64 0, .int .i64 0, .slice none 0 0, .int .i64 0, .slice none 0 0, .slice none 0 0, .int .i64 0, .int .i64 0, .slice none 0 0, .int .i64 0, .int .u64 0, .int .u64 0, .int .i64 0, .slice none 0 0] 36 (0, 0))).cell? ⟨p, 0, none⟩ = some (.slice (some ⟨g, 0, none⟩) E.length cap) := ((Chg.refl none_ w).alloc _).cell ((cell_of_blk h1 0).trans rfl) (fun h => h)
  have hin : (i : Int) < (E.length : Int) := by omega
  have hd : decide ((i : Int) < 0) = false := by simp
  have hd2 : decide ((E.length : Int) ≤ (i : Int)) = false := by simp; omega
  have HSRC := Lib.hid hsrc
  have HMV := Lib.hid hmv
  have HL := Lib.hid hl19
  obtain ⟨es, hes⟩ : ∃ es, es = E[i].2 := ⟨_, rfl⟩
  rw [← hes] at HSRC HMV HL
  obtain ⟨n4, hn4⟩ : ∃ n4, n4 = w.heap.size := ⟨_, rfl⟩
  have hb4 : (w.alloc (.cells #[.int .i64 0, .int .i64 0, .int .i64 0, .int .i64 0, .int .i64 0, .int .i64 0, .int .i64 0, .slice none 0 0, .int .i64 0, .slice none 0 0, .slice none 0 0, .int .i64 0, .int .i64 0, .slice none 0 0, .int .i64 0, .int .u64 0, .int .u64 0, .int .i64 0, .slice none 0 0] 36 (0, 0))).heap[n4]? = some (.cells #[.int .i64 0, .int .i64 0, .int .i64 0, .int .i64 0, .int .i64 0, .int .i64 0, .int .i64 0, .slice none 0 0, .int .i64 0, .slice none 0 0, .slice none 0 0, .int .i64 0, .int .i64 0, .slice none 0 0, .int .i64 0, .int .u64 0, .int .u64 0, .int .i64 0, .slice none 0 0] 36 (0, 0)) := alloc_new w _ _ hn4
  have HB4 := Lib.hid hb4
  have HN4 := Lib.hid hn4
  have hszw : (w.alloc (.cells #[.int .i64 0, .int .i64 0, .int .i64 0, .int .i64 0, .int .i64 0, .int .i64 0, .int .i64 0, .slice none 0 0, .int .i64 0, .slice none 0 0, .slice none 0 0, .int .i64 0, .int .i64 0, .slice none 0 0, .int .i64 0, .int .u64 0, .int .u64 0, .int .i64 0, .slice none 0 0] 36 (0, 0))).heap.size = n4 + 1 := by rw [hn4]; simp
  have HSZ := Lib.hid hszw
  clear hsrc hmv hl19 h1 h2 h3 h4 h5 h6 h7 hg ht hl hm hmi h19 hes hcap hcm hb4 hszw hn4
  generalize E.length = n at *
  go_enter Try.func17, Try.ntmps17
  go_wp2_with (refine wpList_load_at rfl 36 _ rfl g (i * 19) rfl es _ HSRC.out Try.underlying36 rfl HL.out ?_)
  refine (mess_still _ es m _ HMV.out).mono ?_
  rintro e y ⟨cs', rfl, hm', hB'⟩
  have hb4 := (Chg.of_below (S := none_) hB').blk HB4.out (fun h => h)
  have hone : cs'.toArray.all (·.oneCell') = true := by rw [List.all_toArray]; exact List.all_eq_true.2 hm'.one
  have hcl : (Try.prog.info? 36).map (·.size) = some cs'.toArray.size := size19n.trans (congrArg some (by rw [List.size_toArray, hm'.length]))
  have hcz : (#[.int .i64 0, .int .i64 0, .int .i64 0, .int .i64 0, .int .i64 0, .int .i64 0, .int .i64 0, .slice none 0 0, .int .i64 0, .slice none 0 0, .slice none 0 0, .int .i64 0, .int .i64 0, .slice none 0 0, .int .i64 0, .int .u64 0, .int .u64 0, .int .i64 0, .slice none 0 0] : Array Value).size = cs'.toArray.size := by show 19 = cs'.toArray.size; rw [List.size_toArray, hm'.length]
  have hzz := setRow_heap _ n4 _ cs'.toArray _ _ hb4
  have hyz := (Chg.refl (· = n4) y).row cs'.toArray
  rw [← HN4.out]
  go_wp2_with (refine wpList_store_row rfl 36 _ _ rfl n4 cs'.toArray rfl rfl _ _ hb4 hcl hcz hone ?_)
  (try simp only [Exit.inBlock, Exit.then])
  refine bodyPost_ret (results_cell_tmp rfl _ _ n4 _ _ _ _ rfl hzz Try.underlying36 rfl hcl) rfl ?_
  have hn := HN4.out
  have hsz := HSZ.out
  have hsy := hB'.size
  refine ⟨cs', rfl, (hm'.chg hyz (fun k hk e => by omega)).mono (fun k hk _ => by omega), ?_⟩
  exact ((Below.refl _ _).alloc (Nat.le_refl _) _).trans ((hB'.mono (by omega)).trans (hyz.below (by omega) (fun k e => by omega)))

set_option maxRecDepth 100000 in
set_option maxHeartbeats 2000000 in
theorem net_take_no (p : Nat) (F : Nat → Prop) (L : List MsgX) (i : Int) (w : World) (h : NetV w p F L) (hi : ¬ (0 ≤ i ∧ i < (L.length : Int))) :
    Calls Try.prog 11 #[.pointer (some ⟨p, 0, none⟩), .int .i64 i] w fun e w' => e = .returned (.tuple #[.agg zeroMsg.toArray, .bool false]) ∧ Below w.heap.size w w' := by
  obtain ⟨wa, hwa⟩ : ∃ wa, wa = w.alloc (.cells #[.int .i64 0, .int .i64 0, .int .i64 0, .int .i64 0, .int .i64 0, .int .i64 0, .int .i64 0, .slice none 0 0, .int .i64 0, .slice none 0 0, .slice none 0 0, .int .i64 0, .int .i64 0, .slice none 0 0, .int .i64 0, .int .u64 0, .int .u64 0, .int .i64 0, .slice none 0 0] 36 (0, 0)) := ⟨_, rfl⟩
  obtain ⟨n4, hn4⟩ : ∃ n4, n4 = w.heap.size := ⟨_, rfl⟩
  have HWA := Lib.hid hwa
  have HN4 := Lib.hid hn4
  have hca : Chg none_ w wa := by rw [hwa]; exact (Chg.refl none_ w).alloc _
  have hb4 : wa.heap[n4]? = some (.cells #[.int .i64 0, .int .i64 0, .int .i64 0, .int .i64 0, .int .i64 0, .int .i64 0, .int .i64 0, .slice none 0 0, .int .i64 0, .slice none 0 0, .slice none 0 0, .int .i64 0, .int .i64 0, .slice none 0 0, .int .i64 0, .int .u64 0, .int .u64 0, .int .i64 0, .slice none 0 0] 36 (0, 0)) := by rw [hwa]; exact alloc_new w _ _ hn4
  have HB4 := Lib.hid hb4
  have HAT := Lib.hid (net_at_no p F L i wa (h.chg0 hca) hi)
  have HCA := Lib.hid hca
  clear hwa hn4 hb4 h hi hca
  go_enter Try.func11, Try.ntmps11
  go_upto_region 1 with fail
  rw [← HWA.out, ← HN4.out]
  go_wp2_with fail
  refine HAT.out.mono ?_
  rintro e y ⟨rfl, hB'⟩
  have hb6 : (y.alloc (.cells #[.int .i64 0, .int .i64 0, .int .i64 0, .int .i64 0, .int .i64 0, .int .i64 0, .int .i64 0, .slice none 0 0, .int .i64 0, .slice none 0 0, .slice none 0 0, .int .i64 0, .int .i64 0, .slice none 0 0, .int .i64 0, .int .u64 0, .int .u64 0, .int .i64 0, .slice none 0 0] 36 (0, 0))).heap[y.heap.size]? = some (.cells #[.int .i64 0, .int .i64 0, .int .i64 0, .int .i64 0, .int .i64 0, .int .i64 0, .int .i64 0, .slice none 0 0, .int .i64 0, .slice none 0 0, .slice none 0 0, .int .i64 0, .int .i64 0, .slice none 0 0, .int .i64 0, .int .u64 0, .int .u64 0, .int .i64 0, .slice none 0 0] 36 (0, 0)) := alloc_new y _ _ rfl
  have hb6' := setRow_heap _ y.heap.size _ #[.int .i64 0, .int .i64 0, .int .i64 0, .int .i64 0, .int .i64 0, .int .i64 0, .int .i64 0, .slice none 0 0, .int .i64 0, .slice none 0 0, .slice none 0 0, .int .i64 0, .int .i64 0, .slice none 0 0, .int .i64 0, .int .u64 0, .int .u64 0, .int .i64 0, .slice none 0 0] _ _ hb6
  have hcy : Chg none_ wa (y.alloc (.cells #[.int .i64 0, .int .i64 0, .int .i64 0, .int .i64 0, .int .i64 0, .int .i64 0, .int .i64 0, .slice none 0 0, .int .i64 0, .slice none 0 0, .slice none 0 0, .int .i64 0, .int .i64 0, .slice none 0 0, .int .i64 0, .int .u64 0, .int .u64 0, .int .i64 0, .slice none 0 0] 36 (0, 0))) := (Chg.of_below hB').alloc _
  have hc6 := (Chg.refl (· = y.heap.size) (y.alloc (.cells #[.int .i64 0, .int .i64 0, .int .i64 0, .int .i64 0, .int .i64 0, .int .i64 0, .int .i64 0, .slice none 0 0, .int .i64 0, .slice none 0 0, .slice none 0 0, .int .i64 0, .int .i64 0, .slice none 0 0, .int .i64 0, .int .u64 0, .int .u64 0, .int .i64 0, .slice none 0 0] 36 (0, 0)))).row #[.int .i64 0, .int .i64 0, .int .i64 0, .int .i64 0, .int .i64 0, .int .i64 0, .int .i64 0, .slice none 0 0, .int .i64 0, .slice none 0 0, .slice none 0 0, .int .i64 0, .int .i64 0, .slice none 0 0, .int .i64 0, .int .u64 0, .int .u64 0, .int .i64 0, .slice none 0 0]
  have hsz := hB'.size
  have hn4 := blk_lt HB4.out
  have hb4' := hc6.blk (hcy.blk HB4.out (fun h => h)) (by omega)
  have hzz := setRow_heap _ n4 _ #[.int .i64 0, .int .i64 0, .int .i64 0, .int .i64 0, .int .i64 0, .int .i64 0, .int .i64 0, .slice none 0 0, .int .i64 0, .slice none 0 0, .slice none 0 0, .int .i64 0, .int .i64 0, .slice none 0 0, .int .i64 0, .int .u64 0, .int .u64 0, .int .i64 0, .slice none 0 0] _ _ hb4'
  have hc4 := (Chg.refl (· = n4) ((y.alloc (.cells #[.int .i64 0, .int .i64 0, .int .i64 0, .int .i64 0, .int .i64 0, .int .i64 0, .int .i64 0, .slice none 0 0, .int .i64 0, .slice none 0 0, .slice none 0 0, .int .i64 0, .int .i64 0, .slice none 0 0, .int .i64 0, .int .u64 0, .int .u64 0, .int .i64 0, .slice none 0 0] 36 (0, 0))).setRow y.heap.size #[.int .i64 0, .int .i64 0, .int .i64 0, .int .i64 0, .int .i64 0, .int .i64 0, .int .i64 0, .slice none 0 0, .int .i64 0, .slice none 0 0, .slice none 0 0, .int .i64 0, .int .i64 0, .slice none 0 0, .int .i64 0, .int .u64 0, .int .u64 0, .int .i64 0, .slice none 0 0])).row #[.int .i64 0, .int .i64 0, .int .i64 0, .int .i64 0, .int .i64 0, .int .i64 0, .int .i64 0, .slice none 0 0, .int .i64 0, .slice none 0 0, .slice none 0 0, .int .i64 0, .int .i64 0, .slice none 0 0, .int .i64 0, .int .u64 0, .int .u64 0, .int .i64 0, .slice none 0 0]
  have HC6 := Lib.hid hc6
  have HC4 := Lib.hid hc4
  have HCY := Lib.hid hcy
  clear hc6 hc4 hcy hsz hn4
  go_wp2_with (first
    | (refine wpList_store_row rfl 36 _ _ rfl y.heap.size #[.int .i64 0, .int .i64 0, .int .i64 0, .int .i64 0, .int .i64 0, .int .i64 0, .int .i64 0, .slice none 0 0, .int .i64 0, .slice none 0 0, .slice none 0 0, .int .i64 0, .int .i64 0, .slice none 0 0, .int .i64 0, .int .u64 0, .int .u64 0, .int .i64 0, .slice none 0 0] rfl rfl _ _ hb6 size19n rfl (by simp [Value.oneCell']) ?_)
    | (refine wpList_load_row rfl 36 _ rfl y.heap.size rfl _ #[.int .i64 0, .int .i64 0, .int .i64 0, .int .i64 0, .int .i64 0, .int .i64 0, .int .i64 0, .slice none 0 0, .int .i64 0, .slice none 0 0, .slice none 0 0, .int .i64 0, .int .i64 0, .slice none 0 0, .int .i64 0, .int .u64 0, .int .u64 0, .int .i64 0, .slice none 0 0] _ _ hb6' Try.underlying36 rfl size19n ?_)
    | (refine wpList_store_row rfl 36 _ _ rfl n4 #[.int .i64 0, .int .i64 0, .int .i64 0, .int .i64 0, .int .i64 0, .int .i64 0, .int .i64 0, .slice none 0 0, .int .i64 0, .slice none 0 0, .slice none 0 0, .int .i64 0, .int .i64 0, .slice none 0 0, .int .i64 0, .int .u64 0, .int .u64 0, .int .i64 0, .slice none 0 0] rfl rfl _ _ hb4' size19n rfl (by simp [Value.oneCell']) ?_))
  (try simp only [Exit.inBlock, Exit.then])
  refine bodyPost_ret (results_cell_tmp (cs := #[.int .i64 0, .int .i64 0, .int .i64 0, .int .i64 0, .int .i64 0, .int .i64 0, .int .i64 0, .slice none 0 0, .int .i64 0, .slice none 0 0, .slice none 0 0, .int .i64 0, .int .i64 0, .slice none 0 0, .int .i64 0, .int .u64 0, .int .u64 0, .int .i64 0, .slice none 0 0]) rfl _ _ n4 _ _ _ rfl hzz Try.underlying36 rfl size19n) rfl ?_
  have hn := HN4.out
  have h1 := HCA.out.size
  have h2 := HCY.out.size
  have h3 := HC6.out.size
  have h4 := hB'.size
  exact ⟨rfl, (HCA.out.below (B := w.heap.size) (by omega) (fun _ e => e.elim)).trans ((HCY.out.below (by omega) (fun _ e => e.elim)).trans ((HC6.out.below (by omega) (fun k e => by omega)).trans (HC4.out.below (by omega) (fun k e => by omega))))⟩

set_option maxRecDepth 100000 in
set_option maxHeartbeats 4000000 in
theorem net_take_yes (p : Nat) (F : Nat → Prop) (L : List MsgX) (i : Nat) (m : MsgX) (w : World) (h : NetV w p F L) (hm : L[i]? = some m) (hL : L.length ≤ 1000000) :
    Calls Try.prog 11 #[.pointer (some ⟨p, 0, none⟩), .int .i64 i] w fun e w' => ∃ cs, e = .returned (.tuple #[.agg cs.toArray, .bool true]) ∧ MsgV (fun k => w.heap.size ≤ k) w' cs m ∧ NetV w' p F (L.eraseIdx i) ∧ Chg F w w' := by
  obtain ⟨wa, hwa⟩ : ∃ wa, wa = w.alloc (.cells #[.int .i64 0, .int .i64 0, .int .i64 0, .int .i64 0, .int .i64 0, .int .i64 0, .int .i64 0, .slice none 0 0, .int .i64 0, .slice none 0 0, .slice none 0 0, .int .i64 0, .int .i64 0, .slice none 0 0, .int .i64 0, .int .u64 0, .int .u64 0, .int .i64 0, .slice none 0 0] 36 (0, 0)) := ⟨_, rfl⟩
  obtain ⟨n4, hn4⟩ : ∃ n4, n4 = w.heap.size := ⟨_, rfl⟩
  have HWA := Lib.hid hwa
  have HN4 := Lib.hid hn4
  have hca : Chg none_ w wa := by rw [hwa]; exact (Chg.refl none_ w).alloc _
  have hb4 : wa.heap[n4]? = some (.cells #[.int .i64 0, .int .i64 0, .int .i64 0, .int .i64 0, .int .i64 0, .int .i64 0, .int .i64 0, .slice none 0 0, .int .i64 0, .slice none 0 0, .slice none 0 0, .int .i64 0, .int .i64 0, .slice none 0 0, .int .i64 0, .int .u64 0, .int .u64 0, .int .i64 0, .slice none 0 0] 36 (0, 0)) := by rw [hwa]; exact alloc_new w _ _ hn4
  have hsza : wa.heap.size = n4 + 1 := by rw [hwa, hn4]; simp
  have HSZA := Lib.hid hsza
  have HB4 := Lib.hid hb4
  have HAT := Lib.hid (net_at_yes p F L i m wa (h.chg0 hca) hm)
  have HCA := Lib.hid hca
  obtain ⟨v, E, rfl, hN⟩ := h
  have hwf := hN.2.2.2.2.2.1
  have hNa := hN.chg hca (fun _ _ h => h)
  have h19 := hN.len19
  obtain ⟨_, h2, _⟩ := hN
  obtain ⟨a, cap, rfl, hcap, hcm, hl, ha⟩ := h2.open
  obtain ⟨hiL, _⟩ := List.getElem?_eq_some_iff.1 hm
  rw [List.length_map] at hiL hL
  rcases ha with ⟨_, h0, _⟩ | ⟨g, cs, rfl, hg, _, ht⟩
  · omega
  have HNA := Lib.hid hNa
  have H19 := Lib.hid h19
  have HWF := Lib.hid hwf
  have hwr : IntKind.i64.wrap ((i : Int) + 1) = (i : Int) + 1 := by rw [IntKind.wrap_i64]; omega
  clear hwa hn4 hb4 hca hNa h19 h2 hg ht hl hcap hcm hsza hm hwf
  have HiL := Lib.hid hiL
  have hiL1 : (i : Int) < (E.length : Int) := by omega
  go_enter Try.func11, Try.ntmps11
  go_upto_region 1 with fail
  rw [← HWA.out, ← HN4.out]
  go_wp2_with fail
  refine HAT.out.mono ?_
  rintro e y ⟨cs, rfl, hmv, hB'⟩
  have hone : cs.toArray.all (·.oneCell') = true := by rw [List.all_toArray]; exact List.all_eq_true.2 hmv.one
  have hcl : (Try.prog.info? 36).map (·.size) = some cs.toArray.size := size19n.trans (congrArg some (by rw [List.size_toArray, hmv.length]))
  have hcz : (#[.int .i64 0, .int .i64 0, .int .i64 0, .int .i64 0, .int .i64 0, .int .i64 0, .int .i64 0, .slice none 0 0, .int .i64 0, .slice none 0 0, .slice none 0 0, .int .i64 0, .int .i64 0, .slice none 0 0, .int .i64 0, .int .u64 0, .int .u64 0, .int .i64 0, .slice none 0 0] : Array Value).size = cs.toArray.size := by show 19 = cs.toArray.size; rw [List.size_toArray, hmv.length]
  obtain ⟨n6, hn6⟩ : ∃ n6, n6 = y.heap.size := ⟨_, rfl⟩
  obtain ⟨ya, hya⟩ : ∃ ya, ya = y.alloc (.cells #[.int .i64 0, .int .i64 0, .int .i64 0, .int .i64 0, .int .i64 0, .int .i64 0, .int .i64 0, .slice none 0 0, .int .i64 0, .slice none 0 0, .slice none 0 0, .int .i64 0, .int .i64 0, .slice none 0 0, .int .i64 0, .int .u64 0, .int .u64 0, .int .i64 0, .slice none 0 0] 36 (0, 0)) := ⟨_, rfl⟩
  have hb6 : ya.heap[n6]? = some (.cells #[.int .i64 0, .int .i64 0, .int .i64 0, .int .i64 0, .int .i64 0, .int .i64 0, .int .i64 0, .slice none 0 0, .int .i64 0, .slice none 0 0, .slice none 0 0, .int .i64 0, .int .i64 0, .slice none 0 0, .int .i64 0, .int .u64 0, .int .u64 0, .int .i64 0, .slice none 0 0] 36 (0, 0)) := by rw [hya]; exact alloc_new y _ _ hn6
  have hcy0 : Chg none_ y ya := by rw [hya]; exact (Chg.refl none_ y).alloc _
  have hcy : Chg none_ wa ya := (Chg.of_below hB').trans hcy0
  have hsz := hB'.size
  have hsya : ya.heap.size = n6 + 1 := by rw [hya, hn6]; simp
  have hn4 := blk_lt HB4.out
  obtain ⟨yb, hyb⟩ : ∃ yb, yb = ya.setRow n6 cs.toArray := ⟨_, rfl⟩
  have hb6' : yb.heap[n6]? = some (.cells cs.toArray 36 (0, 0)) := by rw [hyb]; exact setRow_heap _ n6 _ cs.toArray _ _ hb6
  have hc6 : Chg (· = n6) ya yb := by rw [hyb]; exact (Chg.refl (· = n6) ya).row cs.toArray
  have hb4' := hc6.blk (hcy.blk HB4.out (fun h => h)) (by omega)
  have hcw : Chg none_ wa yb := hcy.step hc6 (fun k e => .inr (by omega))
  have hNy := HNA.out.chg hcw (fun _ _ h => h)
  have hmy : MsgV (fun k => wa.heap.size ≤ k ∧ k < n6) yb cs m := ((hmv.mono (S' := fun k => wa.heap.size ≤ k ∧ k < n6) (fun k hk hlt => ⟨hk, by omega⟩)).chg0 hcy0).chg hc6 (fun k hk e => by omega)
  have hgy : ∀ k, F k → k < n4 := fun k hk => by have := HWF.out k hk; have := HN4.out; omega
  have hpF := hNy.2.2.2.1
  have hgF := hNy.2.2.2.2.1 g rfl
  have hp4 := hgy p hpF
  have hg4 := hgy g hgF
  have hpg : p ≠ g := fun e => hNy.2.2.1 (by rw [e]; rfl)
  have c0 : yb.cell? ⟨p, 0, none⟩ = some (.slice (some ⟨g, 0, none⟩) E.length cap) := (cell_of_blk hNy.1 0).trans rfl
  have hn46 : n4 < n6 := by omega
  have HYA := Lib.hid hya
  have HYB := Lib.hid hyb
  have HN6 := Lib.hid hn6
  have HNY := Lib.hid hNy
  have HMY := Lib.hid hmy
  have HGY := Lib.hid hgy
  have HCW := Lib.hid hcw
  have HB6 := Lib.hid hb6'
  have HB4' := Lib.hid hb4'
  clear hya hyb hn6 hNy hmy hgy hcw hcy hcy0 hc6 hmv hB' hb6' hb4'
  go_wp2_with (first
    | (rw [← HYA.out, ← HN6.out]; refine wpList_store_row rfl 36 _ _ rfl n6 cs.toArray rfl rfl _ _ hb6 hcl hcz hone ?_; rw [← HYB.out]))
  refine (slices_delete g E.length cap i (flatM E) yb HNY.out.2.1 HiL.out hL (flatM_one E (fun e he => (HNY.out.2.2.2.2.2.2 e he).one))).mono ?_
  rintro e wd ⟨rfl, hod, hcd⟩
  rw [flatM_erase E H19.out i HiL.out] at hod
  have hpd := hcd.blk HNY.out.1 hpg
  have c0d : wd.cell? ⟨p, 0, none⟩ = some (.slice (some ⟨g, 0, none⟩) E.length cap) := (cell_of_blk hpd 0).trans rfl
  have f0d := frozen_of_blk hpd 0
  obtain ⟨we, hwe⟩ : ∃ we, we = wd.setCell ⟨p, 0, none⟩ (.slice (some ⟨g, 0, none⟩) (E.length - 1) cap) := ⟨_, rfl⟩
  have hce : Chg (· = p) wd we := by rw [hwe]; exact (Chg.refl (· = p) wd).put 0 _
  have hpe : we.heap[p]? = some (.cells #[.slice (some ⟨g, 0, none⟩) (E.length - 1) cap] 107 (0, 0)) := by rw [hwe]; exact setCell_same (i := 0) _ hpd
  have hs6 := blk_lt HB6.out
  have hb6e := hce.blk (hcd.blk HB6.out (by show ¬ (n6 = g); omega)) (by show ¬ (n6 = p); omega)
  have hb4e := hce.blk (hcd.blk HB4'.out (by show ¬ (n4 = g); omega)) (by show ¬ (n4 = p); omega)
  obtain ⟨wf, hwf⟩ : ∃ wf, wf = we.setRow n4 cs.toArray := ⟨_, rfl⟩
  have hcf : Chg (· = n4) we wf := by rw [hwf]; exact (Chg.refl (· = n4) we).row cs.toArray
  have hzz : wf.heap[n4]? = some (.cells cs.toArray 36 (0, 0)) := by rw [hwf]; exact setRow_heap _ n4 _ cs.toArray _ _ hb4e
  have HWE := Lib.hid hwe
  have HWFF := Lib.hid hwf
  have HOD := Lib.hid hod
  have HCE := Lib.hid hce
  have HCF := Lib.hid hcf
  have HPE := Lib.hid hpe
  have HCD := Lib.hid hcd
  clear hwe hwf hod hce hcf hpe hcd hpd c0
  go_wp2_with (first
    | (rw [← HWE.out]; refine wpList_load_row rfl 36 _ rfl n6 rfl _ cs.toArray _ _ hb6e Try.underlying36 rfl hcl ?_)
    | (refine wpList_store_row rfl 36 _ _ rfl n4 cs.toArray rfl rfl _ _ hb4e hcl hcz hone ?_; rw [← HWFF.out]))
  (try simp only [Exit.inBlock, Exit.then])
  refine bodyPost_ret (results_cell_tmp rfl _ _ n4 _ _ _ _ rfl hzz Try.underlying36 rfl hcl) rfl ?_
  have hn := HN4.out
  have hn6 := HN6.out
  have hsza := HSZA.out
  have hN := HNY.out
  have hmem : ∀ e ∈ E.eraseIdx i, e ∈ E := fun e he => List.mem_of_mem_eraseIdx he
  have hel : (E.eraseIdx i).length = E.length - 1 := by rw [List.length_eraseIdx, if_pos HiL.out]
  have h1 := HCW.out.size
  have h2 := HCD.out.size
  have h3 := HCE.out.size
  have h4 := HCF.out.size
  have h5 := HCA.out.size
  have hall : Chg F w wf := ((((((HCA.out.trans HCW.out).mono fun _ _ e => e.elim).step HCD.out (fun k e => .inl (by subst e; exact hgF))).step HCE.out (fun k e => .inl (by subst e; exact hpF)))).step HCF.out (fun k e => .inr (by omega)))
  refine ⟨cs, rfl, ?_, ⟨_, E.eraseIdx i, map_erase E i, HCF.out.blk HPE.out (by omega), ?_, hN.2.2.1, hpF, fun k hk => hN.2.2.2.2.1 k hk, fun k hk => ?_, fun e he => ?_⟩, hall⟩
  · refine (((HMY.out.chg HCD.out (fun k hk e => by omega)).chg HCE.out (fun k hk e => by omega)).chg HCF.out (fun k hk e => by omega)).mono (fun k hk _ => by omega)
  · rw [hel]
    refine (HOD.out.chg HCE.out (fun k hk e => ?_)).chg HCF.out (fun k hk e => ?_)
    · cases hk; exact hpg (show g = p from e).symm
    · cases hk; have e' : g = n4 := e; omega
  · have := HWF.out k hk; omega
  · refine (((hN.2.2.2.2.2.2 e (hmem e he)).chg HCD.out (fun k hk e => hk.2.2 (by rw [e]; rfl))).chg HCE.out (fun k hk e => hk.2.1 e)).chg HCF.out (fun k hk e => by have := HGY.out k hk.1; omega)
end
section
open Go.RowKit Go.MapKept

theorem fill_all (cs : List Value) : ∀ (o : Nat) (init : Array Value), (cs.zipIdx o).foldl (fun acc p => acc.setIfInBounds p.2 p.1) init = setAll init o cs := by
  induction cs with
  | nil => intro o init; rfl
  | cons v r ih => intro o init; simp only [List.zipIdx_cons, List.foldl_cons, setAll]; exact ih _ _
theorem setAll_whole (cs : List Value) (init : Array Value) (h : init.size = cs.length) : setAll init 0 cs = cs.toArray := by
  apply Array.ext_getElem?
  intro j
  by_cases hj : j < cs.length
  · have := setAll_in cs init 0 j hj (by omega)
    rw [Nat.zero_add] at this
    rw [this]; simp
  · rw [Array.getElem?_eq_none (by rw [setAll_size]; omega), Array.getElem?_eq_none (by simp; omega)]
theorem run_buildSlice_one {P : Program} (w : World) (T E s : Nat) (i : TypeInfo) (z : Value) (hT : P.underlying T = some (.slice E)) (hi : P.info? E = some i) (hs : i.size = s) (hz : i.zero = some z) (h0 : 0 < s) (h1 : s ≤ 1000) (cs : List Value) (hc : cs.length = s) :
    (Instr.buildSlice T 1 #[(0, .agg cs.toArray)]).run P w = .ok (.slice (some ⟨w.heap.size, 0, none⟩) 1 1) (w.alloc (.cells cs.toArray E)) := by
  have hsz : ∀ x, (sizeOf E).run P x = .ok s x := fun x => by simp [sizeOf, typeInfo, hi, hs]
  have hzv : ∀ x, (zeroValue E).run P x = .ok z x := fun x => by simp [zeroValue, typeInfo, hi, hz]
  have hfill : ∀ init : Array Value, init.size = s → Instr.fill (fun i => some (i * s, s)) init [(0, .agg cs.toArray)] = some cs.toArray := fun init hini => by
    have hcs : (Value.agg cs.toArray).cells = cs.toArray := rfl
    simp only [Instr.fill, hcs]
    rw [if_neg (by simp; omega)]
    simp only [Nat.zero_mul, Nat.zero_add]
    have := (fill_all cs 0 init).trans (setAll_whole cs init (by omega))
    refine congrArg some ?_
    simpa using this
  unfold Instr.buildSlice
  simp only [Sem.run_bind, run_underlying hT, Result.andThen, hsz]
  rw [if_neg (by omega), if_neg (by omega)]
  simp only [Sem.run_bind, hzv, Result.andThen, Sem.run_pure]
  rw [hfill _ (by simp)]
  simp [newRow]
theorem wp_buildSlice_one {P : Program} {o : Oper} {a : Act} {w : World} {K : Act → World → Prop} {Q : Exit → Act → World → Prop} (T E s : Nat) (x : Operand) (ho : o.op = .buildSlice T 1 #[(0, x)]) (cs : List Value) (hx : a.eval x = .agg cs.toArray)
    (i : TypeInfo) (z : Value) (hT : P.underlying T = some (.slice E)) (hi : P.info? E = some i) (hs : i.size = s) (hz : i.zero = some z) (h0 : 0 < s) (h1 : s ≤ 1000) (hc : cs.length = s)
    (h : K (a.put o.dst (.slice (some ⟨w.heap.size, 0, none⟩) 1 1)) (w.alloc (.cells cs.toArray E))) : o.wp P a w K Q := by
  have hrun := run_buildSlice_one (P := P) w T E s i z hT hi hs hz h0 h1 cs hc
  unfold Oper.wp execOp
  simp only [ho, List.map_toArray, List.map_cons, List.map_nil, hx, Sem.run_bind, hrun, Result.andThen]
  exact h
theorem setAll_two (c1 c2 : List Value) (init : Array Value) (h : init.size = c1.length + c2.length) : setAll (setAll init 0 c1) c1.length c2 = (c1 ++ c2).toArray := by
  apply Array.ext_getElem?
  intro j
  have e0 : (c1 ++ c2).toArray[j]? = (c1 ++ c2)[j]? := by simp
  rw [e0]
  by_cases hj : j < c1.length
  · rw [setAll_out _ _ _ _ (.inl hj), List.getElem?_append_left hj]
    have := setAll_in c1 init 0 j hj (by omega)
    rwa [Nat.zero_add] at this
  · rw [List.getElem?_append_right (by omega)]
    by_cases hk : j < c1.length + c2.length
    · obtain ⟨r, rfl⟩ : ∃ r, j = c1.length + r := ⟨j - c1.length, by omega⟩
      rw [setAll_in c2 _ c1.length r (by omega) (by rw [setAll_size]; omega), Nat.add_sub_cancel_left]
    · rw [Array.getElem?_eq_none (by rw [setAll_size, setAll_size]; omega), List.getElem?_eq_none (by omega)]
theorem run_buildSlice_two {P : Program} (w : World) (T E s : Nat) (i : TypeInfo) (z : Value) (hT : P.underlying T = some (.slice E)) (hi : P.info? E = some i) (hs : i.size = s) (hz : i.zero = some z) (h0 : 0 < s) (h1 : s ≤ 1000) (c1 c2 : List Value) (hc1 : c1.length = s) (hc2 : c2.length = s) :
    (Instr.buildSlice T 2 #[(0, .agg c1.toArray), (1, .agg c2.toArray)]).run P w = .ok (.slice (some ⟨w.heap.size, 0, none⟩) 2 2) (w.alloc (.cells (c1 ++ c2).toArray E)) := by
  have hsz : ∀ x, (sizeOf E).run P x = .ok s x := fun x => by simp [sizeOf, typeInfo, hi, hs]
  have hzv : ∀ x, (zeroValue E).run P x = .ok z x := fun x => by simp [zeroValue, typeInfo, hi, hz]
  have hfill : ∀ init : Array Value, init.size = 2 * s → Instr.fill (fun i => some (i * s, s)) init [(0, .agg c1.toArray), (1, .agg c2.toArray)] = some (c1 ++ c2).toArray := fun init hini => by
    have hcs1 : (Value.agg c1.toArray).cells = c1.toArray := rfl
    have hcs2 : (Value.agg c2.toArray).cells = c2.toArray := rfl
    have e1 : (Array.foldl (fun cs x => cs.setIfInBounds x.2 x.1) init c1.toArray.zipIdx) = setAll init 0 c1 := by
      have := fill_all c1 0 init
      simpa using this
    have e2 : ∀ a : Array Value, (Array.foldl (fun cs x => cs.setIfInBounds (s + x.2) x.1) a c2.toArray.zipIdx) = setAll a s c2 := fun a => by
      have h : ∀ (l : List Value) (o : Nat) (a : Array Value), (l.zipIdx o).foldl (fun acc p => acc.setIfInBounds (s + p.2) p.1) a = setAll a (s + o) l := by
        intro l
        induction l with
        | nil => intro o a; rfl
        | cons v r ih => intro o a; simp only [List.zipIdx_cons, List.foldl_cons, setAll]; rw [ih]; rfl
      have := h c2 0 a
      simpa using this
    simp only [Instr.fill, hcs1, hcs2]
    rw [if_neg (by simp; omega)]
    simp only [Nat.zero_mul, Nat.zero_add, Nat.one_mul]
    rw [e1, if_neg (by simp [setAll_size]; omega), e2]
    refine congrArg some ?_
    have := setAll_two c1 c2 init (by omega)
    rw [hc1] at this
    exact this
  unfold Instr.buildSlice
  simp only [Sem.run_bind, run_underlying hT, Result.andThen, hsz]
  rw [if_neg (by omega), if_neg (by omega)]
  simp only [Sem.run_bind, hzv, Result.andThen, Sem.run_pure]
  rw [hfill _ (by simp)]
  simp [newRow]
theorem wp_buildSlice_two {P : Program} {o : Oper} {a : Act} {w : World} {K : Act → World → Prop} {Q : Exit → Act → World → Prop} (T E s : Nat) (x y : Operand) (ho : o.op = .buildSlice T 2 #[(0, x), (1, y)]) (c1 c2 : List Value) (hx : a.eval x = .agg c1.toArray) (hy : a.eval y = .agg c2.toArray)
    (i : TypeInfo) (z : Value) (hT : P.underlying T = some (.slice E)) (hi : P.info? E = some i) (hs : i.size = s) (hz : i.zero = some z) (h0 : 0 < s) (h1 : s ≤ 1000) (hc1 : c1.length = s) (hc2 : c2.length = s)
    (h : K (a.put o.dst (.slice (some ⟨w.heap.size, 0, none⟩) 2 2)) (w.alloc (.cells (c1 ++ c2).toArray E))) : o.wp P a w K Q := by
  have hrun := run_buildSlice_two (P := P) w T E s i z hT hi hs hz h0 h1 c1 c2 hc1 hc2
  unfold Oper.wp execOp
  simp only [ho, List.map_toArray, List.map_cons, List.map_nil, hx, hy, Sem.run_bind, hrun, Result.andThen]
  exact h

/-- A message of a kind and a number alone. -/
def plainM (kind num : Int) : MsgX := ⟨⟨kind, 0, 0, 0, num, 0, 0, 0, 0, 0, 0, 0, 0, 0⟩, [], [], [], [], []⟩
def plainNC (kind num : Int) : List Value := msgCells ⟨kind, 0, 0, 0, num, 0, 0, 0, 0, 0, 0, 0, 0, 0⟩ (.slice none 0 0) (.slice none 0 0) (.slice none 0 0) (.slice none 0 0) (.slice none 0 0)
theorem plainV (S : Nat → Prop) (w : World) (kind num : Int) : MsgV S w (plainNC kind num) (plainM kind num) :=
  ⟨_, _, _, _, _, rfl, SliceIn.nil S w, SliceIn.nil S w, SliceIn.nil S w, SliceIn.nil S w, [], rfl, SliceIn.nil S w, fun e he => by cases he⟩
theorem MsgV.kind {S : Nat → Prop} {w : World} {cs : List Value} {x : MsgX} (h : MsgV S w cs x) : cs.toArray[0]? = some (.int .i64 x.i.kind) := by
  obtain ⟨a, b, c, d, e, rfl, _⟩ := h; rfl
theorem MsgV.num {S : Nat → Prop} {w : World} {cs : List Value} {x : MsgX} (h : MsgV S w cs x) : cs.toArray[4]? = some (.int .i64 x.i.num) := by
  obtain ⟨a, b, c, d, e, rfl, _⟩ := h; rfl
theorem MsgV.qby {S : Nat → Prop} {w : World} {cs : List Value} {x : MsgX} (h : MsgV S w cs x) : ∃ v, cs.toArray[7]? = some v ∧ IntsIn S w v x.qby := by
  obtain ⟨a, b, c, d, e, rfl, h1, _⟩ := h; exact ⟨a, rfl, h1⟩
end
section
open Go.RowKit Go.MapKept

set_option maxRecDepth 100000 in
set_option maxHeartbeats 2000000 in
theorem net_copy_no (p : Nat) (F : Nat → Prop) (L : List MsgX) (i : Int) (w : World) (h : NetV w p F L) (hi : ¬ (0 ≤ i ∧ i < (L.length : Int))) :
    Calls Try.prog 13 #[.pointer (some ⟨p, 0, none⟩), .int .i64 i] w fun e w' => e = .returned (.bool false) ∧ Below w.heap.size w w' := by
  have HAT := Lib.hid (net_at_no p F L i w h hi)
  clear h hi
  go_enter Try.func13, Try.ntmps13
  go_wp2_with fail
  refine HAT.out.mono ?_
  rintro e y ⟨rfl, hB'⟩
  obtain ⟨n5, hn5⟩ : ∃ n5, n5 = y.heap.size := ⟨_, rfl⟩
  obtain ⟨ya, hya⟩ : ∃ ya, ya = y.alloc (.cells #[.int .i64 0, .int .i64 0, .int .i64 0, .int .i64 0, .int .i64 0, .int .i64 0, .int .i64 0, .slice none 0 0, .int .i64 0, .slice none 0 0, .slice none 0 0, .int .i64 0, .int .i64 0, .slice none 0 0, .int .i64 0, .int .u64 0, .int .u64 0, .int .i64 0, .slice none 0 0] 36 (0, 0)) := ⟨_, rfl⟩
  have hb5 : ya.heap[n5]? = some (.cells #[.int .i64 0, .int .i64 0, .int .i64 0, .int .i64 0, .int .i64 0, .int .i64 0, .int .i64 0, .slice none 0 0, .int .i64 0, .slice none 0 0, .slice none 0 0, .int .i64 0, .int .i64 0, .slice none 0 0, .int .i64 0, .int .u64 0, .int .u64 0, .int .i64 0, .slice none 0 0] 36 (0, 0)) := by rw [hya]; exact alloc_new y _ _ hn5
  have HYA := Lib.hid hya
  have HN5 := Lib.hid hn5
  have HC := Lib.hid ((Chg.refl (· = n5) ya).row #[.int .i64 0, .int .i64 0, .int .i64 0, .int .i64 0, .int .i64 0, .int .i64 0, .int .i64 0, .slice none 0 0, .int .i64 0, .slice none 0 0, .slice none 0 0, .int .i64 0, .int .i64 0, .slice none 0 0, .int .i64 0, .int .u64 0, .int .u64 0, .int .i64 0, .slice none 0 0])
  have HY0 := Lib.hid (by rw [hya]; exact (Chg.refl none_ y).alloc _ : Chg none_ y ya)
  clear hya hn5
  go_wp2_with (rw [← HYA.out, ← HN5.out]; refine wpList_store_row rfl 36 _ _ rfl n5 #[.int .i64 0, .int .i64 0, .int .i64 0, .int .i64 0, .int .i64 0, .int .i64 0, .int .i64 0, .slice none 0 0, .int .i64 0, .slice none 0 0, .slice none 0 0, .int .i64 0, .int .i64 0, .slice none 0 0, .int .i64 0, .int .u64 0, .int .u64 0, .int .i64 0, .slice none 0 0] rfl rfl _ _ hb5 size19n rfl (by simp [Value.oneCell']) ?_)
  go_ret
  have h1 := HN5.out
  have h2 := hB'.size
  have h3 := HY0.out.size
  exact ⟨rfl, hB'.trans ((HY0.out.below (by omega) (fun _ e => e.elim)).trans (HC.out.below (by omega) (fun k e => by omega)))⟩

set_option maxRecDepth 100000 in
set_option maxHeartbeats 4000000 in
theorem net_copy_yes (p : Nat) (F : Nat → Prop) (L : List MsgX) (i : Nat) (m : MsgX) (w : World) (h : NetV w p F L) (hm : L[i]? = some m) (hL : L.length ≤ 1000000) :
    Calls Try.prog 13 #[.pointer (some ⟨p, 0, none⟩), .int .i64 i] w fun e w' => e = .returned (.bool true) ∧ NetTo w p F (L ++ [m]) w' := by
  have HAT := Lib.hid (net_at_yes p F L i m w h hm)
  obtain ⟨v, E, rfl, hN⟩ := h
  obtain ⟨a, cap, rfl, -⟩ := id hN.2.1.open
  rw [List.length_map] at hL
  have HN := Lib.hid hN
  clear hN hm
  obtain ⟨ii, hi9, hz9, hs9, hby9⟩ := info_parts' (P := Try.prog) (e := 36) (z := some (.agg zeroMsg.toArray)) (s := 19) (b := 232) (by kernel_rfl)
  have HI9 := Lib.hid hi9
  have HS9 := Lib.hid hs9
  have HZ9 := Lib.hid hz9
  have HBY9 := Lib.hid hby9
  clear hi9 hs9 hz9 hby9
  go_enter Try.func13, Try.ntmps13
  go_wp2_with fail
  refine HAT.out.mono ?_
  rintro e y ⟨cs, rfl, hmv, hB'⟩
  have hone : cs.toArray.all (·.oneCell') = true := by rw [List.all_toArray]; exact List.all_eq_true.2 hmv.one
  have hcl : (Try.prog.info? 36).map (·.size) = some cs.toArray.size := size19n.trans (congrArg some (by rw [List.size_toArray, hmv.length]))
  have hcz : (#[.int .i64 0, .int .i64 0, .int .i64 0, .int .i64 0, .int .i64 0, .int .i64 0, .int .i64 0, .slice none 0 0, .int .i64 0, .slice none 0 0, .slice none 0 0, .int .i64 0, .int .i64 0, .slice none 0 0, .int .i64 0, .int .u64 0, .int .u64 0, .int .i64 0, .slice none 0 0] : Array Value).size = cs.toArray.size := by show 19 = cs.toArray.size; rw [List.size_toArray, hmv.length]
  obtain ⟨n5, hn5⟩ : ∃ n5, n5 = y.heap.size := ⟨_, rfl⟩
  obtain ⟨ya, hya⟩ : ∃ ya, ya = y.alloc (.cells #[.int .i64 0, .int .i64 0, .int .i64 0, .int .i64 0, .int .i64 0, .int .i64 0, .int .i64 0, .slice none 0 0, .int .i64 0, .slice none 0 0, .slice none 0 0, .int .i64 0, .int .i64 0, .slice none 0 0, .int .i64 0, .int .u64 0, .int .u64 0, .int .i64 0, .slice none 0 0] 36 (0, 0)) := ⟨_, rfl⟩
  have hb5 : ya.heap[n5]? = some (.cells #[.int .i64 0, .int .i64 0, .int .i64 0, .int .i64 0, .int .i64 0, .int .i64 0, .int .i64 0, .slice none 0 0, .int .i64 0, .slice none 0 0, .slice none 0 0, .int .i64 0, .int .i64 0, .slice none 0 0, .int .i64 0, .int .u64 0, .int .u64 0, .int .i64 0, .slice none 0 0] 36 (0, 0)) := by rw [hya]; exact alloc_new y _ _ hn5
  obtain ⟨yb, hyb⟩ : ∃ yb, yb = ya.setRow n5 cs.toArray := ⟨_, rfl⟩
  have hb5' : yb.heap[n5]? = some (.cells cs.toArray 36 (0, 0)) := by rw [hyb]; exact setRow_heap _ n5 _ cs.toArray _ _ hb5
  have hy0 : Chg none_ y ya := by rw [hya]; exact (Chg.refl none_ y).alloc _
  have hc5 : Chg (· = n5) ya yb := by rw [hyb]; exact (Chg.refl (· = n5) ya).row cs.toArray
  have hsz := hB'.size
  have hcw : Chg none_ w yb := ((Chg.of_below hB').trans hy0).step hc5 (fun k e => .inr (by omega))
  have hmy : MsgV (fun k => w.heap.size ≤ k) yb cs m := (((hmv.mono (S' := fun k => w.heap.size ≤ k ∧ k < n5) (fun k hk hlt => ⟨hk, by omega⟩)).chg0 hy0).chg hc5 (fun k hk e => by omega)).mono (fun k hk _ => hk.1)
  have HYA := Lib.hid hya
  have HYB := Lib.hid hyb
  have HN5 := Lib.hid hn5
  have HONE := Lib.hid hmv.one
  have HLEN := Lib.hid hmv.length
  have hcwd : Chg none_ w yb.drew := hcw.drew
  have hmyd : MsgV (fun k => w.heap.size ≤ k) yb.drew cs m := hmy.chg0 (Chg.refl _ _).drew
  have hNd := HN.out.chg hcwd (fun _ _ h => h)
  have hS1 : yb.drew.cell? ⟨p, 0, none⟩ = some (.slice a E.length cap) ∧ yb.drew.heap[n5]? = some (.cells cs.toArray 36 (0, 0)) := ⟨(cell_of_blk hNd.1 0).trans rfl, hb5'⟩
  have HCWD := Lib.hid hcwd
  have HMYD := Lib.hid hmyd
  have HND := Lib.hid hNd
  have HSY := Lib.hid hsz
  clear hya hyb hn5 hcw hmy hcwd hmyd hNd hb5' hy0 hc5 hmv hB' hsz
  go_wp2_with (rw [← HYA.out, ← HN5.out]; refine wpList_store_row rfl 36 _ _ rfl n5 cs.toArray rfl rfl _ _ hb5 hcl hcz hone ?_; rw [← HYB.out])
  refine wp_region_stage (fun x : World => x.cell? ⟨p, 0, none⟩ = some (.slice a E.length cap) ∧ x.heap[n5]? = some (.cells cs.toArray 36 (0, 0))) [10] (by kernel_rfl) ?_
  refine takeW 0 (some 14) (v := ?_) rfl (by rfl) (by kernel_rfl) (by kernel_rfl) (by kernel_rfl) (fun _ _ _ h => h) (by kernel_rfl) (by kernel_rfl) ?_ (Stage.still (by assumption)) ?_
  rotate_left
  · (intro w; go_simp; try (with_reducible rfl))
  try simp only [Act.put, List.setIfInBounds_toArray, List.set_cons_zero, List.set_cons_succ]
  refine takeW 1 (some 15) (v := ?_) rfl (by rfl) (by kernel_rfl) (by kernel_rfl) (by kernel_rfl) (fun _ _ _ h => h) (by kernel_rfl) (by kernel_rfl) ?_ (Stage.still (by assumption)) ?_
  rotate_left
  · (intro w; go_simp; try (with_reducible rfl))
  try simp only [Act.put, List.setIfInBounds_toArray, List.set_cons_zero, List.set_cons_succ]
  refine takeW 2 (some 16) (v := ?_) rfl (by rfl) (by kernel_rfl) (by kernel_rfl) (by kernel_rfl) (fun _ _ _ h => h) (by kernel_rfl) (by kernel_rfl) ?_ (Stage.still (by assumption)) ?_
  rotate_left
  · (intro w; go_simp; try (with_reducible rfl))
  try simp only [Act.put, List.setIfInBounds_toArray, List.set_cons_zero, List.set_cons_succ]
  refine takeW 3 (some 17) (v := ?_) rfl (by rfl) (by kernel_rfl) (by kernel_rfl) (by kernel_rfl) (fun _ _ _ h => h) (by kernel_rfl) (by kernel_rfl) ?_ (Stage.still (by assumption)) ?_
  rotate_left
  · (intro w; go_simp; try (with_reducible rfl))
  try simp only [Act.put, List.setIfInBounds_toArray, List.set_cons_zero, List.set_cons_succ]
  refine takeS 4 (some 18) (v := ?_) rfl (by rfl) (by kernel_rfl) (by kernel_rfl) (by kernel_rfl) (fun _ _ _ h => h) (by kernel_rfl) (by kernel_rfl) (by kernel_rfl) ?_ (by assumption) ?_
  rotate_left
  · (intro w hSw; (try dsimp only at hSw); go_simp; try (with_reducible rfl))
  try simp only [Act.put, List.setIfInBounds_toArray, List.set_cons_zero, List.set_cons_succ]
  refine takeS 5 (some 19) (v := ?_) rfl (by rfl) (by kernel_rfl) (by kernel_rfl) (by kernel_rfl) (fun _ _ _ h => h) (by kernel_rfl) (by kernel_rfl) (by kernel_rfl) ?_ (by assumption) ?_
  rotate_left
  · (intro w hSw; refine exec_load_row 36 (.tmp 5) ?_ n5 ?_ _ _ _ _ hSw.2 Try.underlying36 ?_ hcl <;> rfl)
  try simp only [Act.put, List.setIfInBounds_toArray, List.set_cons_zero, List.set_cons_succ]
  refine oneT 6 (by kernel_rfl) rfl (fun K hK => ?_)
  refine if_wanted rfl (wp_buildSlice_one 22 36 19 (.tmp 19) rfl cs rfl ii (.agg zeroMsg.toArray) Try.underlying22 HI9.out HS9.out HZ9.out (by decide) (by decide) HLEN.out ?_)
  have hS2 : (yb.drew.alloc (.cells cs.toArray 36)).cell? ⟨p, 0, none⟩ = some (.slice a E.length cap) ∧ (yb.drew.alloc (.cells cs.toArray 36)).heap[n5]? = some (.cells cs.toArray 36 (0, 0)) := ⟨((Chg.refl none_ _).alloc _).cell hS1.1 (fun h => h), ((Chg.refl none_ _).alloc _).blk hS1.2 (fun h => h)⟩
  refine hK.out _ _ (Stage.still ?_) (fun hSt => ?_)
  · (try dsimp only); first | exact hS3 | exact hS2
  clear hK K hSt
  try simp only [Act.put, List.setIfInBounds_toArray, List.set_cons_zero, List.set_cons_succ]
  refine oneT 7 (by kernel_rfl) rfl (fun K hK => ?_)
  refine step_own_append rfl (.tmp 18) (.tmp 20) 22 rfl Try.underlying22 HI9.out HZ9.out HS9.out HBY9.out rfl (by decide) rfl (HND.out.2.1.chg ((Chg.refl none_ _).alloc _) (fun _ _ h => h)) rfl cs (alloc_new _ _ _ rfl) HLEN.out HONE.out (by omega) (by unfold maxLen; omega) ?_
  intro v' wz' hv' hw' hb'
  obtain ⟨av', cv', rfl, -⟩ := id hv'.open
  have hpz := hw'.blk (((Chg.refl none_ _).alloc _).blk HND.out.1 (fun h => h)) HND.out.2.2.1
  have hS3 : wz'.cell? ⟨p, 0, none⟩ = some (.slice a E.length cap) ∧ wz'.heap[n5]? = some (.cells cs.toArray 36 (0, 0)) := ⟨(cell_of_blk hpz 0).trans rfl, hw'.blk hS2.2 (fun e => by have h1 := HND.out.2.1.lt e; have h2 := blk_lt hS1.2; have h3 := HN.out.2.1.lt e; have h4 := HN5.out; have h5 := HSY.out; omega)⟩
  have f0z := frozen_of_blk hpz 0
  refine hK.out _ _ (Stage.still ?_) (fun hSt => ?_)
  · (try dsimp only); first | exact hS3 | exact hS2
  clear hK K hSt
  try simp only [Act.put, List.setIfInBounds_toArray, List.set_cons_zero, List.set_cons_succ]
  refine takeW 8 (some 22) (v := ?_) rfl (by rfl) (by kernel_rfl) (by kernel_rfl) (by kernel_rfl) (fun _ _ _ h => h) (by kernel_rfl) (by kernel_rfl) ?_ (Stage.still (by assumption)) ?_
  rotate_left
  · (intro w; go_simp; try (with_reducible rfl))
  try simp only [Act.put, List.setIfInBounds_toArray, List.set_cons_zero, List.set_cons_succ]
  refine takeW 9 (some 23) (v := ?_) rfl (by rfl) (by kernel_rfl) (by kernel_rfl) (by kernel_rfl) (fun _ _ _ h => h) (by kernel_rfl) (by kernel_rfl) ?_ (Stage.still (by assumption)) ?_
  rotate_left
  · (intro w; go_simp; try (with_reducible rfl))
  try simp only [Act.put, List.setIfInBounds_toArray, List.set_cons_zero, List.set_cons_succ]
  refine oneT 10 (by kernel_rfl) rfl (fun K hK => ?_)
  go_simp
  refine hK.out _ _ (Stage.past (by kernel_rfl)) (fun hSt => ?_)
  clear hSt
  clear hK K
  try simp only [Act.put, List.setIfInBounds_toArray, List.set_cons_zero, List.set_cons_succ]
  refine doneT (by kernel_rfl) ?_ _
  obtain ⟨F', hN', hF', hcc⟩ := HN.out.push rfl (HCWD.out.alloc _) (HMYD.out.chg0 ((Chg.refl _ _).alloc _)) hv' hw' hb'
  have HN' := Lib.hid hN'
  generalize wz'.setCell ⟨p, 0, none⟩ (.slice av' (E.length + 1) cv') = wf at *
  clear hv' hw' hb' hS1 hS2 hS3 hN'
  go_wp2_with fail
  go_ret
  exact ⟨rfl, F', ⟨_, E ++ [(m, cs)], by simp, HN'.out⟩, hF', hcc⟩

/-- A row of messages behind a slice value. -/
def MsgsIn (S : Nat → Prop) (w : World) (v : Value) (A : List (MsgX × List Value)) : Prop := SliceIn S w v A.length (flatM A) ∧ ∀ e ∈ A, MsgV S w e.2 e.1
theorem MsgsIn.chg {S X : Nat → Prop} {w w' : World} {v : Value} {A : List (MsgX × List Value)} (h : MsgsIn S w v A) (hc : Chg X w w') (hs : ∀ b, S b → ¬ X b) : MsgsIn S w' v A := ⟨h.1.chg hc hs, fun e he => (h.2 e he).chg hc hs⟩
theorem NetTo.refl {w : World} {p : Nat} {F : Nat → Prop} {L : List MsgX} (h : NetV w p F L) : NetTo w p F L w := ⟨F, h, fun _ h => .inl h, Chg.refl _ _⟩

set_option maxRecDepth 100000 in
set_option maxHeartbeats 4000000 in
theorem net_send (p : Nat) (F S : Nat → Prop) (L : List MsgX) (vl : Value) (A : List (MsgX × List Value)) (w : World) (h : NetV w p F L) (hA : MsgsIn S w vl A) (hSF : ∀ k, S k → ¬ F k) (hL : L.length + A.length ≤ 900000) :
    Calls Try.prog 16 #[.pointer (some ⟨p, 0, none⟩), vl] w fun e w' => e = .returned (.tuple #[]) ∧ NetTo w p F (L ++ A.map (·.1)) w' := by
  obtain ⟨la, lc, rfl, -⟩ := id hA.1
  have HA := Lib.hid hA
  have H0 := Lib.hid (NetTo.refl h)
  clear hA h
  obtain ⟨ii, hi9, hz9, hs9, hby9⟩ := info_parts' (P := Try.prog) (e := 36) (z := some (.agg zeroMsg.toArray)) (s := 19) (b := 232) (by kernel_rfl)
  have HI9 := Lib.hid hi9
  have HS9 := Lib.hid hs9
  have HZ9 := Lib.hid hz9
  have HBY9 := Lib.hid hby9
  clear hi9 hs9 hz9 hby9
  go_enter Try.func16, Try.ntmps16
  go_wp2_with fail
  go_loopw [8] (fun i wr => ∃ j : Nat, j ≤ A.length ∧ i = .int .i64 j ∧ NetTo w p F (L ++ (A.take j).map (·.1)) wr) (fun i _ => A.length - (intOf i).toNat)
  case atStart => exact ⟨0, by omega, rfl, by simpa using H0.out⟩
  case round =>
    clear H0
    obtain ⟨j, hj, rfl, hT⟩ := hrel
    by_cases hlt : j < A.length
    · have hjl : (j : Int) < (A.length : Int) := by omega
      have hwj : IntKind.i64.wrap ((j : Int) + 1) = (j : Int) + 1 := by rw [IntKind.wrap_i64]; omega
      obtain ⟨F1, ⟨v, E, hLE, hN⟩, hF1, hC1⟩ := hT
      have hEl : E.length = L.length + j := by
        have := congrArg List.length hLE
        simp only [List.length_append, List.length_map, List.length_take] at this
        omega
      obtain ⟨a, cap, rfl, -⟩ := id hN.2.1.open
      have hAw := HA.out.chg hC1 hSF
      obtain ⟨_, _, e', hsrc, _⟩ := hAw.1
      cases e'
      rcases hsrc with hsrc | ⟨bA, offA, rfl, hsrc⟩
      · have := flatM_length A (fun e he => (HA.out.2 e he).length); rw [hsrc] at this; simp at this; omega
      obtain ⟨⟨m, es⟩, hem⟩ : ∃ e, e = A[j] := ⟨_, rfl⟩
      have hmv := hAw.2 A[j] (List.getElem_mem hlt)
      rw [← hem] at hmv
      dsimp only at hmv
      have hat : ∀ (k : Nat) (u : Value), es[k]? = some u → wr.cell? ⟨bA, offA + j * 19 + k, none⟩ = some u := fun k u hu => by
        have hk : k < 19 := by have := (List.getElem?_eq_some_iff.1 hu).1; rw [hmv.length] at this; exact this
        have := (hsrc (j * 19 + k) u (by rw [flatM_at A (fun e he => (HA.out.2 e he).length) j hlt k hk, ← hem]; exact hu)).1
        rwa [← Nat.add_assoc] at this
      have hone : es.toArray.all (·.oneCell') = true := by rw [List.all_toArray]; exact List.all_eq_true.2 hmv.one
      have hel : (Try.prog.info? 36).map (·.size) = some es.length := size19n.trans (congrArg some hmv.length.symm)
      have hcl : (Try.prog.info? 36).map (·.size) = some es.toArray.size := size19n.trans (congrArg some (by rw [List.size_toArray, hmv.length]))
      have hcz : (#[.int .i64 0, .int .i64 0, .int .i64 0, .int .i64 0, .int .i64 0, .int .i64 0, .int .i64 0, .slice none 0 0, .int .i64 0, .slice none 0 0, .slice none 0 0, .int .i64 0, .int .i64 0, .slice none 0 0, .int .i64 0, .int .u64 0, .int .u64 0, .int .i64 0, .slice none 0 0] : Array Value).size = es.toArray.size := by show 19 = es.toArray.size; rw [List.size_toArray, hmv.length]
      obtain ⟨n5, hn5⟩ : ∃ n5, n5 = wr.heap.size := ⟨_, rfl⟩
      obtain ⟨ya, hya⟩ : ∃ ya, ya = wr.alloc (.cells #[.int .i64 0, .int .i64 0, .int .i64 0, .int .i64 0, .int .i64 0, .int .i64 0, .int .i64 0, .slice none 0 0, .int .i64 0, .slice none 0 0, .slice none 0 0, .int .i64 0, .int .i64 0, .slice none 0 0, .int .i64 0, .int .u64 0, .int .u64 0, .int .i64 0, .slice none 0 0] 36 (0, 0)) := ⟨_, rfl⟩
      have hb5 : ya.heap[n5]? = some (.cells #[.int .i64 0, .int .i64 0, .int .i64 0, .int .i64 0, .int .i64 0, .int .i64 0, .int .i64 0, .slice none 0 0, .int .i64 0, .slice none 0 0, .slice none 0 0, .int .i64 0, .int .i64 0, .slice none 0 0, .int .i64 0, .int .u64 0, .int .u64 0, .int .i64 0, .slice none 0 0] 36 (0, 0)) := by rw [hya]; exact alloc_new wr _ _ hn5
      obtain ⟨yb, hyb⟩ : ∃ yb, yb = ya.setRow n5 es.toArray := ⟨_, rfl⟩
      have hb5' : yb.heap[n5]? = some (.cells es.toArray 36 (0, 0)) := by rw [hyb]; exact setRow_heap _ n5 _ es.toArray _ _ hb5
      have hy0 : Chg none_ wr ya := by rw [hya]; exact (Chg.refl none_ wr).alloc _
      have hc5 : Chg (· = n5) ya yb := by rw [hyb]; exact (Chg.refl (· = n5) ya).row es.toArray
      have hcw : Chg none_ wr yb.drew := (hy0.step hc5 (fun k e => .inr (by omega))).drew
      have hNd := hN.chg hcw (fun _ _ h => h)
      have hmd := hmv.chg0 hcw
      have hS1 : yb.drew.cell? ⟨p, 0, none⟩ = some (.slice a E.length cap) ∧ yb.drew.heap[n5]? = some (.cells es.toArray 36 (0, 0)) := ⟨(cell_of_blk hNd.1 0).trans rfl, hb5'⟩
      have hcl5 : ∀ z, Chg none_ yb.drew z → z.cell? ⟨p, 0, none⟩ = some (.slice a E.length cap) ∧ z.heap[n5]? = some (.cells es.toArray 36 (0, 0)) := fun z hz => ⟨hz.cell hS1.1 (fun h => h), hz.blk hS1.2 (fun h => h)⟩
      have HCL5 := Lib.hid hcl5
      have HYA := Lib.hid hya
      have HYB := Lib.hid hyb
      have HN5 := Lib.hid hn5
      have HMD := Lib.hid hmd
      have HND := Lib.hid hNd
      have HN := Lib.hid hN
      have HCW := Lib.hid hcw
      have HAT := Lib.hid hat
      have HEM := Lib.hid hem
      have HLE := Lib.hid hLE
      have HEL := Lib.hid hEl
      have HF1 := Lib.hid hF1
      have HC1 := Lib.hid hC1
      have hE9 : E.length ≤ 900000 := by omega
      clear hya hyb hn5 hcw hNd hmd hb5' hy0 hc5 hmv hN hat hem hsrc hAw hLE hEl hcl5 hF1 hC1
      go_wp2_with (first
        | (refine wpList_load_at rfl 36 _ rfl bA (offA + j * 19) rfl es _ HAT.out Try.underlying36 rfl hel ?_)
        | (rw [← HYA.out, ← HN5.out]; refine wpList_store_row rfl 36 _ _ rfl n5 es.toArray rfl rfl _ _ hb5 hcl hcz hone ?_; rw [← HYB.out]))
      refine wp_region_stage (fun x : World => x.cell? ⟨p, 0, none⟩ = some (.slice a E.length cap) ∧ x.heap[n5]? = some (.cells es.toArray 36 (0, 0))) [11] (by kernel_rfl) ?_
      refine takeW 0 (some 12) (v := ?_) rfl (by rfl) (by kernel_rfl) (by kernel_rfl) (by kernel_rfl) (fun _ _ _ h => h) (by kernel_rfl) (by kernel_rfl) ?_ (Stage.still (by assumption)) ?_
      rotate_left
      · (intro w; go_simp; try (with_reducible rfl))
      try simp only [Act.put, List.setIfInBounds_toArray, List.set_cons_zero, List.set_cons_succ]
      refine takeW 1 (some 13) (v := ?_) rfl (by rfl) (by kernel_rfl) (by kernel_rfl) (by kernel_rfl) (fun _ _ _ h => h) (by kernel_rfl) (by kernel_rfl) ?_ (Stage.still (by assumption)) ?_
      rotate_left
      · (intro w; go_simp; try (with_reducible rfl))
      try simp only [Act.put, List.setIfInBounds_toArray, List.set_cons_zero, List.set_cons_succ]
      refine takeW 2 (some 14) (v := ?_) rfl (by rfl) (by kernel_rfl) (by kernel_rfl) (by kernel_rfl) (fun _ _ _ h => h) (by kernel_rfl) (by kernel_rfl) ?_ (Stage.still (by assumption)) ?_
      rotate_left
      · (intro w; go_simp; try (with_reducible rfl))
      try simp only [Act.put, List.setIfInBounds_toArray, List.set_cons_zero, List.set_cons_succ]
      refine takeW 3 (some 15) (v := ?_) rfl (by rfl) (by kernel_rfl) (by kernel_rfl) (by kernel_rfl) (fun _ _ _ h => h) (by kernel_rfl) (by kernel_rfl) ?_ (Stage.still (by assumption)) ?_
      rotate_left
      · (intro w; go_simp; try (with_reducible rfl))
      try simp only [Act.put, List.setIfInBounds_toArray, List.set_cons_zero, List.set_cons_succ]
      refine takeS 4 (some 16) (v := ?_) rfl (by rfl) (by kernel_rfl) (by kernel_rfl) (by kernel_rfl) (fun _ _ _ h => h) (by kernel_rfl) (by kernel_rfl) (by kernel_rfl) ?_ (by assumption) ?_
      rotate_left
      · (intro w hSw; (try dsimp only at hSw); go_simp; try (with_reducible rfl))
      try simp only [Act.put, List.setIfInBounds_toArray, List.set_cons_zero, List.set_cons_succ]
      refine takeS 5 (some 17) (v := ?_) rfl (by rfl) (by kernel_rfl) (by kernel_rfl) (by kernel_rfl) (fun _ _ _ h => h) (by kernel_rfl) (by kernel_rfl) (by kernel_rfl) ?_ (by assumption) ?_
      rotate_left
      · (intro w hSw; refine exec_load_row 36 (.tmp 5) ?_ n5 ?_ _ _ _ _ hSw.2 Try.underlying36 ?_ hcl <;> rfl)
      try simp only [Act.put, List.setIfInBounds_toArray, List.set_cons_zero, List.set_cons_succ]
      refine oneT 6 (by kernel_rfl) rfl (fun K hK => ?_)
      go_simp
      go_at_call 56
      refine (mess_still _ es m _ HMD.out).mono ?_
      rintro e y6 ⟨cs6, rfl, hm6, hB6⟩
      have hS2 := HCL5.out y6 (Chg.of_below hB6)
      have HLEN := Lib.hid hm6.length
      have HONE := Lib.hid hm6.one
      go_wp2_with fail
      refine hK.out _ _ (Stage.still ?_) (fun hSt => ?_)
      · (try dsimp only); first | exact hS3 | exact hS2' | exact hS2
      clear hK K hSt
      try simp only [Act.put, List.setIfInBounds_toArray, List.set_cons_zero, List.set_cons_succ]
      refine oneT 7 (by kernel_rfl) rfl (fun K hK => ?_)
      refine if_wanted rfl (wp_buildSlice_one 22 36 19 (.tmp 18) rfl cs6 rfl ii (.agg zeroMsg.toArray) Try.underlying22 HI9.out HS9.out HZ9.out (by decide) (by decide) HLEN.out ?_)
      have hS2' : (y6.alloc (.cells cs6.toArray 36)).cell? ⟨p, 0, none⟩ = some (.slice a E.length cap) ∧ (y6.alloc (.cells cs6.toArray 36)).heap[n5]? = some (.cells es.toArray 36 (0, 0)) := ⟨((Chg.refl none_ _).alloc _).cell hS2.1 (fun h => h), ((Chg.refl none_ _).alloc _).blk hS2.2 (fun h => h)⟩
      refine hK.out _ _ (Stage.still ?_) (fun hSt => ?_)
      · (try dsimp only); first | exact hS3 | exact hS2' | exact hS2
      clear hK K hSt
      try simp only [Act.put, List.setIfInBounds_toArray, List.set_cons_zero, List.set_cons_succ]
      refine oneT 8 (by kernel_rfl) rfl (fun K hK => ?_)
      refine step_own_append rfl (.tmp 16) (.tmp 19) 22 rfl Try.underlying22 HI9.out HZ9.out HS9.out HBY9.out rfl (by decide) rfl (HND.out.2.1.chg ((Chg.of_below (S := none_) hB6).alloc _) (fun _ _ h => h)) rfl cs6 (alloc_new _ _ _ rfl) HLEN.out HONE.out (by omega) (by unfold maxLen; omega) ?_
      intro v' wz' hv' hw' hb'
      obtain ⟨av', cv', rfl, -⟩ := id hv'.open
      have hNz := HND.out.chg ((Chg.of_below (S := none_) hB6).alloc (.cells cs6.toArray 36 (0, 0))) (fun _ _ h => h)
      have hpz := hw'.blk hNz.1 hNz.2.2.1
      have hS3 : wz'.cell? ⟨p, 0, none⟩ = some (.slice a E.length cap) ∧ wz'.heap[n5]? = some (.cells es.toArray 36 (0, 0)) := ⟨(cell_of_blk hpz 0).trans rfl, hw'.blk hS2'.2 (fun e => by have h3 := HN.out.2.1.lt e; have h4 := HN5.out; omega)⟩
      have f0z := frozen_of_blk hpz 0
      refine hK.out _ _ (Stage.still ?_) (fun hSt => ?_)
      · (try dsimp only); first | exact hS3 | exact hS2' | exact hS2
      clear hK K hSt
      try simp only [Act.put, List.setIfInBounds_toArray, List.set_cons_zero, List.set_cons_succ]
      refine takeW 9 (some 21) (v := ?_) rfl (by rfl) (by kernel_rfl) (by kernel_rfl) (by kernel_rfl) (fun _ _ _ h => h) (by kernel_rfl) (by kernel_rfl) ?_ (Stage.still (by assumption)) ?_
      rotate_left
      · (intro w; go_simp; try (with_reducible rfl))
      try simp only [Act.put, List.setIfInBounds_toArray, List.set_cons_zero, List.set_cons_succ]
      refine takeW 10 (some 22) (v := ?_) rfl (by rfl) (by kernel_rfl) (by kernel_rfl) (by kernel_rfl) (fun _ _ _ h => h) (by kernel_rfl) (by kernel_rfl) ?_ (Stage.still (by assumption)) ?_
      rotate_left
      · (intro w; go_simp; try (with_reducible rfl))
      try simp only [Act.put, List.setIfInBounds_toArray, List.set_cons_zero, List.set_cons_succ]
      refine oneT 11 (by kernel_rfl) rfl (fun K hK => ?_)
      go_simp
      refine hK.out _ _ (Stage.past (by kernel_rfl)) (fun hSt => ?_)
      clear hSt
      clear hK K
      try simp only [Act.put, List.setIfInBounds_toArray, List.set_cons_zero, List.set_cons_succ]
      refine doneT (by kernel_rfl) ?_ _
      obtain ⟨F', hN', hF', hcc⟩ := HN.out.push rfl ((HCW.out.trans (Chg.of_below hB6)).alloc _) (hm6.chg0 ((Chg.refl _ _).alloc _) |>.mono (fun k hk _ => Nat.le_trans HCW.out.size hk)) hv' hw' hb'
      have HN' := Lib.hid hN'
      have HFF := Lib.hid hF'
      have HCC := Lib.hid hcc
      generalize wz'.setCell ⟨p, 0, none⟩ (.slice av' (E.length + 1) cv') = wf at *
      clear hv' hw' hb' hS1 hS2 hS2' hS3 hN' hF' hcc
      go_wp2_with fail
      go_roundw
      case rel =>
        refine ⟨j + 1, by omega, by go_num, F', ⟨_, E ++ [(m, cs6)], ?_, HN'.out⟩, fun k hk => ?_, HC1.out.step HCC.out (fun k hk => HF1.out k hk)⟩
        · rw [List.map_append, ← HLE.out, List.append_assoc, List.take_succ_eq_append_getElem hlt, List.map_append, ← HEM.out]
          rfl
        · rcases HFF.out k hk with hk | hk
          · exact HF1.out k hk
          · have := HC1.out.size; right; omega
      case measure => simp [intOf]; omega
    · have hje : j = A.length := by omega
      subst hje
      rw [List.take_length] at hT
      have HT := Lib.hid hT
      clear hT HA
      go_wp2_with fail
      go_end0
      exact ⟨rfl, HT.out⟩
end
section
open Go.RowKit Go.MapKept

set_option maxRecDepth 100000 in
set_option maxHeartbeats 4000000 in
theorem net_awake (w : World) : Calls Try.prog 15 #[] w fun e w' => e = .returned (.bool true) ∧ Below w.heap.size w w' := by
  obtain ⟨ii, hi9, hz9, hs9, hby9⟩ := info_parts' (P := Try.prog) (e := 36) (z := some (.agg zeroMsg.toArray)) (s := 19) (b := 232) (by kernel_rfl)
  have HI9 := Lib.hid hi9
  have HS9 := Lib.hid hs9
  have HZ9 := Lib.hid hz9
  clear hi9 hs9 hz9 hby9
  go_enter Try.func15, Try.ntmps15
  go_wp2_with fail
  refine (net_new w).mono ?_
  rintro e x1 ⟨p, rfl, h1, hB1⟩
  obtain ⟨F1, hF1⟩ : ∃ F1 : Nat → Prop, F1 = fun k => w.heap.size ≤ k ∧ k < x1.heap.size := ⟨_, rfl⟩
  rw [← hF1] at h1
  have hge1 : ∀ k, F1 k → w.heap.size ≤ k := fun k hk => by rw [hF1] at hk; exact hk.1
  clear hF1
  obtain ⟨x2, hx2⟩ : ∃ x2, x2 = x1.alloc (.cells (plainNC 8 1 ++ plainNC 8 2).toArray 36 (0, 0)) := ⟨_, rfl⟩
  obtain ⟨n2, hn2⟩ : ∃ n2, n2 = x1.heap.size := ⟨_, rfl⟩
  have hb2 : x2.heap[n2]? = some (.cells (plainNC 8 1 ++ plainNC 8 2).toArray 36 (0, 0)) := by rw [hx2]; exact alloc_new x1 _ _ hn2
  have hc2 : Chg none_ x1 x2 := by rw [hx2]; exact (Chg.refl none_ x1).alloc _
  have hA : MsgsIn (· = n2) x2 (.slice (some ⟨n2, 0, none⟩) 2 2) [(plainM 8 1, plainNC 8 1), (plainM 8 2, plainNC 8 2)] := by
    refine ⟨⟨_, _, rfl, .inr ⟨n2, 0, rfl, fun j u hu => ?_⟩, fun b off e => ?_, (by intro h; cases h), by simp⟩, fun e he => ?_⟩
    · refine ⟨?_, frozen_of_blk hb2 _⟩
      rw [Nat.zero_add, cell_of_blk hb2]
      simpa [flatM] using hu
    · cases e; exact fun _ => ⟨rfl, blk_lt hb2⟩
    · simp at he
      rcases he with rfl | rfl
      · exact plainV _ _ _ _
      · exact plainV _ _ _ _
  have hsf : ∀ k, (fun k => k = n2) k → ¬ F1 k := fun k e hk => by have := h1.lt k hk; have e' : k = n2 := e; omega
  have HS := Lib.hid (net_send p F1 (· = n2) [] _ _ x2 (h1.chg0 hc2) hA hsf (by simp))
  have HX2 := Lib.hid hx2
  have HN2 := Lib.hid hn2
  have hB2 : Below w.heap.size w x2 := hB1.trans (hc2.below hB1.size (fun _ e => e.elim))
  clear hA hsf hx2 hn2 hb2 hc2 h1
  go_wp2_with (refine wpList_plain rfl fun K hK => wp_buildSlice_two 22 36 19 (.tmp 14) (.tmp 15) rfl (plainNC 8 1) (plainNC 8 2) rfl rfl ii (.agg zeroMsg.toArray) Try.underlying22 HI9.out HS9.out HZ9.out (by decide) (by decide) rfl rfl (hK _ _ ?_))
  rw [← HX2.out, ← HN2.out]
  refine HS.out.mono ?_
  rintro e x3 ⟨rfl, F3, h3, hg3, hc3⟩
  have hB3 : Below w.heap.size w x3 := hB2.trans (hc3.below hB2.size hge1)
  have hge3 : ∀ k, F3 k → w.heap.size ≤ k := fun k hk => by rcases hg3 k hk with h | h; exact hge1 k h; have := hB2.size; omega
  have h3' : NetV x3 p F3 [plainM 8 1, plainM 8 2] := h3
  clear h3 hg3 hc3 HS
  go_wp2_with fail
  refine (net_copy_yes p F3 _ 0 (plainM 8 1) x3 h3' rfl (by simp)).mono ?_
  rintro e x4 ⟨rfl, F4, h4, hg4, hc4⟩
  have hB4 : Below w.heap.size w x4 := hB3.trans (hc4.below hB3.size hge3)
  have hge4 : ∀ k, F4 k → w.heap.size ≤ k := fun k hk => by rcases hg4 k hk with h | h; exact hge3 k h; have := hB3.size; omega
  have h4' : NetV x4 p F4 [plainM 8 1, plainM 8 2, plainM 8 1] := h4
  clear h4 hg4 hc4 h3'
  go_wp2_with fail
  refine (net_copy_no p F4 _ 5 x4 h4' (by simp)).mono ?_
  rintro e x5 ⟨rfl, hb5⟩
  have hB5 : Below w.heap.size w x5 := hB4.trans (hb5.mono hB4.size)
  have h5' := h4'.chg0 (Chg.of_below hb5)
  clear h4' hb5
  go_wp2_with fail
  refine (net_take_yes p F4 _ 1 (plainM 8 2) x5 h5' rfl (by simp)).mono ?_
  rintro e x6 ⟨cs6, rfl, hm6, h6, hc6⟩
  have hB6 : Below w.heap.size w x6 := hB5.trans (hc6.below hB5.size hge4)
  have h6' : NetV x6 p F4 [plainM 8 1, plainM 8 1] := h6
  clear h6 hc6 h5'
  obtain ⟨na, hna⟩ : ∃ n, n = x6.heap.size := ⟨_, rfl⟩
  obtain ⟨ua, hua⟩ : ∃ u, u = x6.alloc (.cells #[.int .i64 0, .int .i64 0, .int .i64 0, .int .i64 0, .int .i64 0, .int .i64 0, .int .i64 0, .slice none 0 0, .int .i64 0, .slice none 0 0, .slice none 0 0, .int .i64 0, .int .i64 0, .slice none 0 0, .int .i64 0, .int .u64 0, .int .u64 0, .int .i64 0, .slice none 0 0] 36 (0, 0)) := ⟨_, rfl⟩
  have hba : ua.heap[na]? = some (.cells #[.int .i64 0, .int .i64 0, .int .i64 0, .int .i64 0, .int .i64 0, .int .i64 0, .int .i64 0, .slice none 0 0, .int .i64 0, .slice none 0 0, .slice none 0 0, .int .i64 0, .int .i64 0, .slice none 0 0, .int .i64 0, .int .u64 0, .int .u64 0, .int .i64 0, .slice none 0 0] 36 (0, 0)) := by rw [hua]; exact alloc_new x6 _ _ hna
  obtain ⟨va, hva⟩ : ∃ v, v = ua.setRow na cs6.toArray := ⟨_, rfl⟩
  have hwa : va.heap[na]? = some (.cells cs6.toArray 36 (0, 0)) := by rw [hva]; exact setRow_heap _ na _ cs6.toArray _ _ hba
  have honea : cs6.toArray.all (·.oneCell') = true := by rw [List.all_toArray]; exact List.all_eq_true.2 hm6.one
  have hcla : (Try.prog.info? 36).map (·.size) = some cs6.toArray.size := size19n.trans (congrArg some (by rw [List.size_toArray, hm6.length]))
  have hcza : (#[.int .i64 0, .int .i64 0, .int .i64 0, .int .i64 0, .int .i64 0, .int .i64 0, .int .i64 0, .slice none 0 0, .int .i64 0, .slice none 0 0, .slice none 0 0, .int .i64 0, .int .i64 0, .slice none 0 0, .int .i64 0, .int .u64 0, .int .u64 0, .int .i64 0, .slice none 0 0] : Array Value).size = cs6.toArray.size := by show 19 = cs6.toArray.size; rw [List.size_toArray, hm6.length]
  have HCa : Hid (Chg none_ x6 va) := by
    have e : Chg none_ x6 ua := by rw [hua]; exact (Chg.refl none_ x6).alloc _
    exact e.step (by rw [hva]; exact (Chg.refl (· = na) ua).row cs6.toArray) (fun j e => .inr (by have e' : j = na := e; omega))
  have HWa := Lib.hid hwa
  have HUa := Lib.hid hua
  have HNa := Lib.hid hna
  have HVa := Lib.hid hva
  clear hwa hua hna hva
  have h6v := h6'.chg0 HCa.out
  have HK6 := Lib.hid hm6.num
  go_wp2_with (rw [← HUa.out, ← HNa.out]; refine wpList_store_row rfl 36 _ _ rfl na cs6.toArray rfl rfl _ _ hba hcla hcza honea ?_; rw [← HVa.out])
  refine (net_at_yes p F4 _ 1 (plainM 8 1) va h6v rfl).mono ?_
  rintro e x7 ⟨cs7, rfl, hm7, hb7⟩
  have h7 := h6v.chg0 (Chg.of_below hb7)
  have HB7 := Lib.hid hb7
  clear hb7
  obtain ⟨nb, hnb⟩ : ∃ n, n = x7.heap.size := ⟨_, rfl⟩
  obtain ⟨ub, hub⟩ : ∃ u, u = x7.alloc (.cells #[.int .i64 0, .int .i64 0, .int .i64 0, .int .i64 0, .int .i64 0, .int .i64 0, .int .i64 0, .slice none 0 0, .int .i64 0, .slice none 0 0, .slice none 0 0, .int .i64 0, .int .i64 0, .slice none 0 0, .int .i64 0, .int .u64 0, .int .u64 0, .int .i64 0, .slice none 0 0] 36 (0, 0)) := ⟨_, rfl⟩
  have hbb : ub.heap[nb]? = some (.cells #[.int .i64 0, .int .i64 0, .int .i64 0, .int .i64 0, .int .i64 0, .int .i64 0, .int .i64 0, .slice none 0 0, .int .i64 0, .slice none 0 0, .slice none 0 0, .int .i64 0, .int .i64 0, .slice none 0 0, .int .i64 0, .int .u64 0, .int .u64 0, .int .i64 0, .slice none 0 0] 36 (0, 0)) := by rw [hub]; exact alloc_new x7 _ _ hnb
  obtain ⟨vb, hvb⟩ : ∃ v, v = ub.setRow nb cs7.toArray := ⟨_, rfl⟩
  have hwb : vb.heap[nb]? = some (.cells cs7.toArray 36 (0, 0)) := by rw [hvb]; exact setRow_heap _ nb _ cs7.toArray _ _ hbb
  have honeb : cs7.toArray.all (·.oneCell') = true := by rw [List.all_toArray]; exact List.all_eq_true.2 hm7.one
  have hclb : (Try.prog.info? 36).map (·.size) = some cs7.toArray.size := size19n.trans (congrArg some (by rw [List.size_toArray, hm7.length]))
  have hczb : (#[.int .i64 0, .int .i64 0, .int .i64 0, .int .i64 0, .int .i64 0, .int .i64 0, .int .i64 0, .slice none 0 0, .int .i64 0, .slice none 0 0, .slice none 0 0, .int .i64 0, .int .i64 0, .slice none 0 0, .int .i64 0, .int .u64 0, .int .u64 0, .int .i64 0, .slice none 0 0] : Array Value).size = cs7.toArray.size := by show 19 = cs7.toArray.size; rw [List.size_toArray, hm7.length]
  have HCb : Hid (Chg none_ x7 vb) := by
    have e : Chg none_ x7 ub := by rw [hub]; exact (Chg.refl none_ x7).alloc _
    exact e.step (by rw [hvb]; exact (Chg.refl (· = nb) ub).row cs7.toArray) (fun j e => .inr (by have e' : j = nb := e; omega))
  have HWb := Lib.hid hwb
  have HUb := Lib.hid hub
  have HNb := Lib.hid hnb
  have HVb := Lib.hid hvb
  clear hwb hub hnb hvb
  have h7v := h7.chg0 HCb.out
  have HK7 := Lib.hid hm7.num
  go_wp2_with (rw [← HUb.out, ← HNb.out]; refine wpList_store_row rfl 36 _ _ rfl nb cs7.toArray rfl rfl _ _ hbb hclb hczb honeb ?_; rw [← HVb.out])
  refine (net_take_no p F4 _ 2 vb h7v (by simp)).mono ?_
  rintro e x8 ⟨rfl, hb8⟩
  have h8 := h7v.chg0 (Chg.of_below hb8)
  have HB8 := Lib.hid hb8
  clear hb8
  obtain ⟨nc, hnc⟩ : ∃ n, n = x8.heap.size := ⟨_, rfl⟩
  obtain ⟨uc, huc⟩ : ∃ u, u = x8.alloc (.cells #[.int .i64 0, .int .i64 0, .int .i64 0, .int .i64 0, .int .i64 0, .int .i64 0, .int .i64 0, .slice none 0 0, .int .i64 0, .slice none 0 0, .slice none 0 0, .int .i64 0, .int .i64 0, .slice none 0 0, .int .i64 0, .int .u64 0, .int .u64 0, .int .i64 0, .slice none 0 0] 36 (0, 0)) := ⟨_, rfl⟩
  have hbc : uc.heap[nc]? = some (.cells #[.int .i64 0, .int .i64 0, .int .i64 0, .int .i64 0, .int .i64 0, .int .i64 0, .int .i64 0, .slice none 0 0, .int .i64 0, .slice none 0 0, .slice none 0 0, .int .i64 0, .int .i64 0, .slice none 0 0, .int .i64 0, .int .u64 0, .int .u64 0, .int .i64 0, .slice none 0 0] 36 (0, 0)) := by rw [huc]; exact alloc_new x8 _ _ hnc
  obtain ⟨vc, hvc⟩ : ∃ v, v = uc.setRow nc zeroMsg.toArray := ⟨_, rfl⟩
  have hwc : vc.heap[nc]? = some (.cells zeroMsg.toArray 36 (0, 0)) := by rw [hvc]; exact setRow_heap _ nc _ zeroMsg.toArray _ _ hbc
  have honec : zeroMsg.toArray.all (·.oneCell') = true := by rw [List.all_toArray]; exact List.all_eq_true.2 (by intro u hu; simp only [zeroMsg, List.mem_cons, List.not_mem_nil, or_false] at hu; rcases hu with rfl | rfl | rfl | rfl | rfl | rfl | rfl | rfl | rfl | rfl | rfl | rfl | rfl | rfl | rfl | rfl | rfl | rfl | rfl <;> rfl)
  have hclc : (Try.prog.info? 36).map (·.size) = some zeroMsg.toArray.size := size19n.trans (congrArg some (by rw [List.size_toArray, show zeroMsg.length = 19 from rfl]))
  have hczc : (#[.int .i64 0, .int .i64 0, .int .i64 0, .int .i64 0, .int .i64 0, .int .i64 0, .int .i64 0, .slice none 0 0, .int .i64 0, .slice none 0 0, .slice none 0 0, .int .i64 0, .int .i64 0, .slice none 0 0, .int .i64 0, .int .u64 0, .int .u64 0, .int .i64 0, .slice none 0 0] : Array Value).size = zeroMsg.toArray.size := by show 19 = zeroMsg.toArray.size; rw [List.size_toArray, show zeroMsg.length = 19 from rfl]
  have HCc : Hid (Chg none_ x8 vc) := by
    have e : Chg none_ x8 uc := by rw [huc]; exact (Chg.refl none_ x8).alloc _
    exact e.step (by rw [hvc]; exact (Chg.refl (· = nc) uc).row zeroMsg.toArray) (fun j e => .inr (by have e' : j = nc := e; omega))
  have HWc := Lib.hid hwc
  have HUc := Lib.hid huc
  have HNc := Lib.hid hnc
  have HVc := Lib.hid hvc
  clear hwc huc hnc hvc
  have h8v := h8.chg0 HCc.out
  have hwa := ((((Chg.of_below (S := none_) HB7.out).trans HCb.out).trans (Chg.of_below HB8.out)).trans HCc.out).blk HWa.out (fun h => h)
  have hwb := ((Chg.of_below (S := none_) HB8.out).trans HCc.out).blk HWb.out (fun h => h)
  have d4 : vc.cell? ⟨na, 4, none⟩ = some (.int .i64 2) := (cell_of_blk hwa 4).trans HK6.out
  have d5 : vc.cell? ⟨nb, 4, none⟩ = some (.int .i64 1) := (cell_of_blk hwb 4).trans HK7.out
  clear hwa hwb hm6 hm7 h6' h6v h7 h7v h8
  go_wp2_with (rw [← HUc.out, ← HNc.out]; refine wpList_store_row rfl 36 _ _ rfl nc zeroMsg.toArray rfl rfl _ _ hbc hclc hczc honec ?_; rw [← HVc.out])
  refine (net_len p F4 _ vc h8v).mono ?_
  rintro e _ ⟨rfl, rfl⟩
  go_wp2_with fail
  go_ret
  have h1 := hB6.size
  have h2 := HCa.out.size
  have h3 := HB7.out.size
  have h4 := HCb.out.size
  have h5 := HB8.out.size
  exact ⟨rfl, hB6.trans ((HCa.out.below (B := w.heap.size) (by omega) (fun _ e => e.elim)).trans ((HB7.out.mono (by omega)).trans ((HCb.out.below (by omega) (fun _ e => e.elim)).trans ((HB8.out.mono (by omega)).trans (HCc.out.below (by omega) (fun _ e => e.elim))))))⟩
end
section
open Go.RowKit Go.MapKept

theorem IntsIn.at_ {S : Nat → Prop} {w : World} {v : Value} {l : List Int} (h : IntsIn S w v l) : ∃ a c, v = .slice a l.length c ∧ IntsAt w a l ∧ l.length ≤ 2000000 := by
  obtain ⟨a, c, rfl, hs, _, _, hn⟩ := h
  refine ⟨a, c, rfl, ?_, hn⟩
  rcases hs with hs | ⟨b, off, e, hs⟩
  · exact .inl (by simpa using hs)
  · exact .inr ⟨b, off, e, fun i hi => (hs i _ (by simp [List.getD, hi])).1⟩
set_option maxRecDepth 100000 in
set_option maxHeartbeats 2000000 in
theorem same_qc (S S' : Nat → Prop) (x y : Int) (u v : Value) (l : List Int) (w : World) (h1 : IntsIn S w u l) (h2 : IntsIn S' w v l) :
    Calls Try.prog 53 #[.agg #[.int .i64 x, .int .i64 y, u], .agg #[.int .i64 x, .int .i64 y, v]] w fun e w' => e = .returned (.bool true) ∧ Chg none_ w w' := by
  obtain ⟨a, c, rfl, ha, hn⟩ := h1.at_
  obtain ⟨b, d, rfl, hb, _⟩ := h2.at_
  have HA := Lib.hid ha
  have HB := Lib.hid hb
  clear ha hb h1 h2
  go_enter Try.func53, Try.ntmps53
  go_wp2_with fail
  have hc := ((Chg.refl none_ w).alloc (.cells #[.int .i64 x, .int .i64 y, .slice a l.length c] 28 (0, 0))).alloc (.cells #[.int .i64 x, .int .i64 y, .slice b l.length d] 28 (0, 0))
  refine (sameints_any a b l l c d _ (HA.out.chg0 hc) (HB.out.chg0 hc) (by omega) (by omega)).mono ?_
  rintro e z ⟨rfl, hz⟩
  rw [decide_eq_true (rfl : l = l)]
  go_wp2_with fail
  go_ret
  exact ⟨rfl, hc.trans hz⟩
set_option maxRecDepth 100000 in
set_option maxHeartbeats 4000000 in
theorem same_tc (S S' : Nat → Prop) (t x y : Int) (u1 u2 u3 v1 v2 v3 : Value) (l1 l2 l3 : List Int) (w : World) (h1 : IntsIn S w u1 l1) (h2 : IntsIn S w u2 l2) (h3 : IntsIn S w u3 l3) (k1 : IntsIn S' w v1 l1) (k2 : IntsIn S' w v2 l2) (k3 : IntsIn S' w v3 l3) :
    Calls Try.prog 54 #[.agg #[.int .i64 t, u1, u2, .int .i64 x, .int .i64 y, u3], .agg #[.int .i64 t, v1, v2, .int .i64 x, .int .i64 y, v3]] w fun e w' => e = .returned (.bool true) ∧ Chg none_ w w' := by
  obtain ⟨a1, c1, rfl, i1, n1⟩ := h1.at_
  obtain ⟨a2, c2, rfl, i2, n2⟩ := h2.at_
  obtain ⟨b1, d1, rfl, j1, _⟩ := k1.at_
  obtain ⟨b2, d2, rfl, j2, _⟩ := k2.at_
  obtain ⟨a3, c3, rfl, _⟩ := id h3
  obtain ⟨b3, d3, rfl, _⟩ := id k3
  have H1 := Lib.hid i1
  have H2 := Lib.hid i2
  have K1 := Lib.hid j1
  have K2 := Lib.hid j2
  have H3 := Lib.hid h3
  have K3 := Lib.hid k3
  clear i1 i2 j1 j2 h1 h2 h3 k1 k2 k3
  have hc := ((Chg.refl none_ w).alloc (.cells #[.int .i64 t, .slice a1 l1.length c1, .slice a2 l2.length c2, .int .i64 x, .int .i64 y, .slice a3 l3.length c3] 30 (0, 0))).alloc (.cells #[.int .i64 t, .slice b1 l1.length d1, .slice b2 l2.length d2, .int .i64 x, .int .i64 y, .slice b3 l3.length d3] 30 (0, 0))
  obtain ⟨na, hna⟩ : ∃ na, na = w.heap.size := ⟨_, rfl⟩
  obtain ⟨wb, hwb⟩ : ∃ wb, wb = (w.alloc (.cells #[.int .i64 t, .slice a1 l1.length c1, .slice a2 l2.length c2, .int .i64 x, .int .i64 y, .slice a3 l3.length c3] 30 (0, 0))).alloc (.cells #[.int .i64 t, .slice b1 l1.length d1, .slice b2 l2.length d2, .int .i64 x, .int .i64 y, .slice b3 l3.length d3] 30 (0, 0)) := ⟨_, rfl⟩
  have hba : wb.heap[na]? = some (.cells #[.int .i64 t, .slice a1 l1.length c1, .slice a2 l2.length c2, .int .i64 x, .int .i64 y, .slice a3 l3.length c3] 30 (0, 0)) := by rw [hwb]; exact ((Chg.refl none_ _).alloc _).blk (alloc_new w _ na hna) (fun h => h)
  have hbb : wb.heap[na + 1]? = some (.cells #[.int .i64 t, .slice b1 l1.length d1, .slice b2 l2.length d2, .int .i64 x, .int .i64 y, .slice b3 l3.length d3] 30 (0, 0)) := by rw [hwb]; exact alloc_new _ _ _ (by simp [hna])
  rw [← hwb] at hc
  have hcell : ∀ z, Chg none_ wb z → z.cell? ⟨na, 0, none⟩ = some (.int .i64 t) ∧ z.cell? ⟨na, 1, none⟩ = some (.slice a1 l1.length c1) ∧ z.cell? ⟨na, 2, none⟩ = some (.slice a2 l2.length c2) ∧ z.cell? ⟨na, 3, none⟩ = some (.int .i64 x) ∧ z.cell? ⟨na, 4, none⟩ = some (.int .i64 y) ∧ z.cell? ⟨na, 5, none⟩ = some (.slice a3 l3.length c3) ∧
      z.cell? ⟨na + 1, 0, none⟩ = some (.int .i64 t) ∧ z.cell? ⟨na + 1, 1, none⟩ = some (.slice b1 l1.length d1) ∧ z.cell? ⟨na + 1, 2, none⟩ = some (.slice b2 l2.length d2) ∧ z.cell? ⟨na + 1, 3, none⟩ = some (.int .i64 x) ∧ z.cell? ⟨na + 1, 4, none⟩ = some (.int .i64 y) ∧ z.cell? ⟨na + 1, 5, none⟩ = some (.slice b3 l3.length d3) := fun z hz => by
    have e1 := hz.blk hba (fun h => h)
    have e2 := hz.blk hbb (fun h => h)
    exact ⟨(cell_of_blk e1 0).trans rfl, (cell_of_blk e1 1).trans rfl, (cell_of_blk e1 2).trans rfl, (cell_of_blk e1 3).trans rfl, (cell_of_blk e1 4).trans rfl, (cell_of_blk e1 5).trans rfl, (cell_of_blk e2 0).trans rfl, (cell_of_blk e2 1).trans rfl, (cell_of_blk e2 2).trans rfl, (cell_of_blk e2 3).trans rfl, (cell_of_blk e2 4).trans rfl, (cell_of_blk e2 5).trans rfl⟩
  obtain ⟨q0, q1, q2, q3, q4, q5, r0, r1, r2, r3, r4, r5⟩ := hcell wb (Chg.refl _ _)
  have HCELL := Lib.hid hcell
  have HC := Lib.hid hc
  have HNA := Lib.hid hna
  have HWB := Lib.hid hwb
  clear hcell hc hna hwb hba hbb
  go_enter Try.func54, Try.ntmps54
  go_upto_region 1 with fail
  rw [← HWB.out, ← HNA.out]
  go_wp2_with fail
  refine (sameints_any a1 b1 l1 l1 c1 d1 _ (H1.out.chg0 HC.out) (K1.out.chg0 HC.out) (by omega) (by omega)).mono ?_
  rintro e z ⟨rfl, hz⟩
  rw [decide_eq_true (rfl : l1 = l1)]
  have HZ := Lib.hid hz
  clear hz q0 q1 q2 q3 q4 q5 r0 r1 r2 r3 r4 r5
  obtain ⟨q0, q1, q2, q3, q4, q5, r0, r1, r2, r3, r4, r5⟩ := HCELL.out z HZ.out
  go_wp2_with fail
  refine (sameints_any a2 b2 l2 l2 c2 d2 _ ((H2.out.chg0 HC.out).chg0 HZ.out) ((K2.out.chg0 HC.out).chg0 HZ.out) (by omega) (by omega)).mono ?_
  rintro e z2 ⟨rfl, hz2⟩
  rw [decide_eq_true (rfl : l2 = l2)]
  have HZ2 := Lib.hid hz2
  clear hz2 q0 q1 q2 q3 q4 q5 r0 r1 r2 r3 r4 r5
  obtain ⟨q0, q1, q2, q3, q4, q5, r0, r1, r2, r3, r4, r5⟩ := HCELL.out z2 (HZ.out.trans HZ2.out)
  go_wp2_with fail
  refine (same_qc S S' x y _ _ l3 z2 (((SliceIn.chg0 H3.out HC.out).chg0 HZ.out).chg0 HZ2.out) (((SliceIn.chg0 K3.out HC.out).chg0 HZ.out).chg0 HZ2.out)).mono ?_
  rintro e z3 ⟨rfl, hz3⟩
  have HZ3 := Lib.hid hz3
  clear hz3 q0 q1 q2 q3 q4 q5 r0 r1 r2 r3 r4 r5
  go_wp2_with fail
  go_ret
  exact ⟨rfl, HC.out.trans (HZ.out.trans (HZ2.out.trans HZ3.out))⟩
theorem flatE_at (L : List EnvX) (i : Nat) (h : i < L.length) (j : Nat) (hj : j < 4) : (flatE L)[i * 4 + j]? = L[i].cells[j]? := by
  induction L generalizing i with
  | nil => simp at h
  | cons e L ih =>
    have hl : e.cells.length = 4 := rfl
    cases i with
    | zero =>
      simp only [flatE, List.flatMap_cons, List.getElem_cons_zero]
      rw [Nat.zero_mul, Nat.zero_add, List.getElem?_append_left (by omega)]
    | succ i =>
      have := ih i (by simpa using h)
      simp only [flatE, List.flatMap_cons, List.getElem_cons_succ] at *
      rw [List.getElem?_append_right (by omega), hl, show (i + 1) * 4 + j - 4 = i * 4 + j by omega]
      exact this
theorem EnvsIn.at_ {S : Nat → Prop} {w : World} {v : Value} {L : List EnvX} (h : EnvsIn S w v L) : ∃ a c, v = .slice a L.length c ∧ L.length ≤ 2000000 ∧ ∀ i, (hi : i < L.length) → ∃ b off, a = some ⟨b, off, none⟩ ∧ ∀ z, Chg none_ w z → z.cell? ⟨b, off + i * 4, none⟩ = some (.int .i64 L[i].client) ∧ z.cell? ⟨b, off + i * 4 + 1, none⟩ = some (.int .u64 L[i].nonce) ∧ z.cell? ⟨b, off + i * 4 + 2, none⟩ = some (.int .u64 L[i].fee) ∧ z.cell? ⟨b, off + i * 4 + 3, none⟩ = some (.int .i64 L[i].cipher) := by
  obtain ⟨a, c, rfl, hs, _, _, hn⟩ := h
  refine ⟨a, c, rfl, hn, fun i hi => ?_⟩
  rcases hs with hs | ⟨b, off, e, hs⟩
  · have := flatE_length L; rw [hs] at this; simp at this; omega
  · refine ⟨b, off, e, fun z hz => ?_⟩
    have hat : ∀ j, j < 4 → ∀ u, L[i].cells[j]? = some u → z.cell? ⟨b, off + (i * 4 + j), none⟩ = some u := fun j hj u hu => hz.cell (hs _ u (by rw [flatE_at L i hi j hj]; exact hu)).1 (fun h => h)
    exact ⟨hat 0 (by omega) _ rfl, by rw [Nat.add_assoc]; exact hat 1 (by omega) _ rfl, by rw [Nat.add_assoc]; exact hat 2 (by omega) _ rfl, by rw [Nat.add_assoc]; exact hat 3 (by omega) _ rfl⟩
set_option maxRecDepth 100000 in
set_option maxHeartbeats 2000000 in
theorem same_envs (S S' : Nat → Prop) (u v : Value) (L : List EnvX) (w : World) (h1 : EnvsIn S w u L) (h2 : EnvsIn S' w v L) :
    Calls Try.prog 90 #[u, v] w fun e w' => e = .returned (.bool true) ∧ Chg none_ w w' := by
  obtain ⟨a, c, rfl, hn, ha⟩ := h1.at_
  obtain ⟨b, d, rfl, _, hb⟩ := h2.at_
  have HA := Lib.hid ha
  have HB := Lib.hid hb
  clear ha hb h1 h2
  go_enter Try.func90, Try.ntmps90
  go_wp2_with fail
  go_loopw [5] (fun i wr => ∃ j : Nat, j ≤ L.length ∧ i = .int .i64 j ∧ Chg none_ w wr) (fun i _ => L.length - (intOf i).toNat)
  case atStart => exact ⟨0, by omega, rfl, Chg.refl _ _⟩
  case round =>
    obtain ⟨j, hj, rfl, hC⟩ := hrel
    by_cases hlt : j < L.length
    · have hjl : (j : Int) < (L.length : Int) := by omega
      obtain ⟨ba, oa, rfl, hca⟩ := HA.out j hlt
      obtain ⟨bb, ob, rfl, hcb⟩ := HB.out j hlt
      obtain ⟨p0, p1, p2, p3⟩ := hca wr hC
      obtain ⟨q0, q1, q2, q3⟩ := hcb wr hC
      generalize L[j] = e at *
      obtain ⟨e1, e2, e3, e4⟩ := e
      have HC := Lib.hid hC
      clear hca hcb hC
      go_wp2_with fail
      go_quiet (fail)
      go_wp2_with fail
      go_roundw
      case rel => exact ⟨j + 1, by omega, by go_num, HC.out.drewN nq⟩
      case measure => simp [intOf]; omega
    · have hje : j = L.length := by omega
      subst hje
      go_wp2_with fail
      go_ret
      exact ⟨rfl, hC⟩
set_option maxRecDepth 100000 in
set_option maxHeartbeats 4000000 in
theorem same_block (S S' : Nat → Prop) (x : BlkX) (cs ds : List Value) (w : World) (h1 : BlkV S w cs x) (h2 : BlkV S' w ds x) :
    Calls Try.prog 55 #[.agg cs.toArray, .agg ds.toArray] w fun e w' => e = .returned (.bool true) ∧ Chg none_ w w' := by
  obtain ⟨u1, u2, rfl, h1, h2'⟩ := h1
  obtain ⟨v1, v2, rfl, k1, k2⟩ := h2
  obtain ⟨bv, ba, jv, jb, by_, envs⟩ := x
  dsimp only at h1 h2' k1 k2
  obtain ⟨a1, c1, rfl, _⟩ := id h1
  obtain ⟨a2, c2, rfl, _⟩ := id h2'
  obtain ⟨b1, d1, rfl, _⟩ := id k1
  obtain ⟨b2, d2, rfl, _⟩ := id k2
  have H1 := Lib.hid h1
  have H2 := Lib.hid h2'
  have K1 := Lib.hid k1
  have K2 := Lib.hid k2
  clear h1 h2' k1 k2
  have hc := ((Chg.refl none_ w).alloc (.cells #[.int .i64 bv, .int .i64 ba, .int .i64 jv, .int .i64 jb, .slice a1 by_.length c1, .slice a2 envs.length c2] 65 (0, 0))).alloc (.cells #[.int .i64 bv, .int .i64 ba, .int .i64 jv, .int .i64 jb, .slice b1 by_.length d1, .slice b2 envs.length d2] 65 (0, 0))
  obtain ⟨na, hna⟩ : ∃ na, na = w.heap.size := ⟨_, rfl⟩
  obtain ⟨wb, hwb⟩ : ∃ wb, wb = (w.alloc (.cells #[.int .i64 bv, .int .i64 ba, .int .i64 jv, .int .i64 jb, .slice a1 by_.length c1, .slice a2 envs.length c2] 65 (0, 0))).alloc (.cells #[.int .i64 bv, .int .i64 ba, .int .i64 jv, .int .i64 jb, .slice b1 by_.length d1, .slice b2 envs.length d2] 65 (0, 0)) := ⟨_, rfl⟩
  have hba : wb.heap[na]? = some (.cells #[.int .i64 bv, .int .i64 ba, .int .i64 jv, .int .i64 jb, .slice a1 by_.length c1, .slice a2 envs.length c2] 65 (0, 0)) := by rw [hwb]; exact ((Chg.refl none_ _).alloc _).blk (alloc_new w _ na hna) (fun h => h)
  have hbb : wb.heap[na + 1]? = some (.cells #[.int .i64 bv, .int .i64 ba, .int .i64 jv, .int .i64 jb, .slice b1 by_.length d1, .slice b2 envs.length d2] 65 (0, 0)) := by rw [hwb]; exact alloc_new _ _ _ (by simp [hna])
  rw [← hwb] at hc
  have hcell : ∀ z, Chg none_ wb z → z.cell? ⟨na, 0, none⟩ = some (.int .i64 bv) ∧ z.cell? ⟨na, 1, none⟩ = some (.int .i64 ba) ∧ z.cell? ⟨na, 2, none⟩ = some (.int .i64 jv) ∧ z.cell? ⟨na, 3, none⟩ = some (.int .i64 jb) ∧ z.cell? ⟨na, 4, none⟩ = some (.slice a1 by_.length c1) ∧ z.cell? ⟨na, 5, none⟩ = some (.slice a2 envs.length c2) ∧ z.cell? ⟨na + 1, 0, none⟩ = some (.int .i64 bv) ∧ z.cell? ⟨na + 1, 1, none⟩ = some (.int .i64 ba) ∧ z.cell? ⟨na + 1, 2, none⟩ = some (.int .i64 jv) ∧ z.cell? ⟨na + 1, 3, none⟩ = some (.int .i64 jb) ∧ z.cell? ⟨na + 1, 4, none⟩ = some (.slice b1 by_.length d1) ∧ z.cell? ⟨na + 1, 5, none⟩ = some (.slice b2 envs.length d2) := fun z hz => by
    have e1 := hz.blk hba (fun h => h)
    have e2 := hz.blk hbb (fun h => h)
    exact ⟨(cell_of_blk e1 0).trans rfl, (cell_of_blk e1 1).trans rfl, (cell_of_blk e1 2).trans rfl, (cell_of_blk e1 3).trans rfl, (cell_of_blk e1 4).trans rfl, (cell_of_blk e1 5).trans rfl, (cell_of_blk e2 0).trans rfl, (cell_of_blk e2 1).trans rfl, (cell_of_blk e2 2).trans rfl, (cell_of_blk e2 3).trans rfl, (cell_of_blk e2 4).trans rfl, (cell_of_blk e2 5).trans rfl⟩
  obtain ⟨q0, q1, q2, q3, q4, q5, r0, r1, r2, r3, r4, r5⟩ := hcell wb (Chg.refl _ _)
  have HCELL := Lib.hid hcell
  have HC := Lib.hid hc
  have HNA := Lib.hid hna
  have HWB := Lib.hid hwb
  clear hcell hc hna hwb hba hbb
  change Calls Try.prog 55 #[.agg #[.int .i64 bv, .int .i64 ba, .int .i64 jv, .int .i64 jb, .slice a1 by_.length c1, .slice a2 envs.length c2], .agg #[.int .i64 bv, .int .i64 ba, .int .i64 jv, .int .i64 jb, .slice b1 by_.length d1, .slice b2 envs.length d2]] w _
  go_enter Try.func55, Try.ntmps55
  go_upto_region 1 with fail
  rw [← HWB.out, ← HNA.out]
  go_wp2_with fail
  refine (same_qc S S' jv jb _ _ by_ wb (SliceIn.chg0 H1.out HC.out) (SliceIn.chg0 K1.out HC.out)).mono ?_
  rintro e z ⟨rfl, hz⟩
  have HZ := Lib.hid hz
  clear hz q0 q1 q2 q3 q4 q5 r0 r1 r2 r3 r4 r5
  obtain ⟨q0, q1, q2, q3, q4, q5, r0, r1, r2, r3, r4, r5⟩ := HCELL.out z HZ.out
  go_wp2_with fail
  refine (same_envs S S' _ _ envs z ((SliceIn.chg0 H2.out HC.out).chg0 HZ.out) ((SliceIn.chg0 K2.out HC.out).chg0 HZ.out)).mono ?_
  rintro e z2 ⟨rfl, hz2⟩
  have HZ2 := Lib.hid hz2
  clear hz2 q0 q1 q2 q3 q4 q5 r0 r1 r2 r3 r4 r5
  go_wp2_with fail
  go_ret
  exact ⟨rfl, HC.out.trans (HZ.out.trans HZ2.out)⟩
end
section
open Go.RowKit Go.MapKept

set_option maxRecDepth 100000 in
set_option maxHeartbeats 8000000 in
theorem same_msg (S S' : Nat → Prop) (x : MsgX) (cs ds : List Value) (w : World) (h1 : MsgV S w cs x) (h2 : MsgV S' w ds x) :
    Calls Try.prog 12 #[.agg cs.toArray, .agg ds.toArray] w fun e w' => e = .returned (.bool true) ∧ Chg none_ w w' := by
  obtain ⟨va, vb, vc, vd, ve, rfl, g1, g2, g3, g4, E, hE, gE, gEe⟩ := h1
  obtain ⟨ua, ub, uc, ud, ue, rfl, k1, k2, k3, k4, D, hD, kD, kDe⟩ := h2
  obtain ⟨⟨ikind, ifrm, ito_, iview, inum, iqv, iqb, itv, ihv, ihb, iec, ien, ief, ieci⟩, qby, tby, thi, hby, blocks⟩ := x
  dsimp only at g1 g2 g3 g4 k1 k2 k3 k4 hE hD
  obtain ⟨xa, xca, rfl, -⟩ := id g1
  obtain ⟨xb, xcb, rfl, -⟩ := id g2
  obtain ⟨xc, xcc, rfl, -⟩ := id g3
  obtain ⟨xd, xcd, rfl, -⟩ := id g4
  obtain ⟨ya, yca, rfl, -⟩ := id k1
  obtain ⟨yb, ycb, rfl, -⟩ := id k2
  obtain ⟨yc, ycc, rfl, -⟩ := id k3
  obtain ⟨yd, ycd, rfl, -⟩ := id k4
  obtain ⟨xe, xce, rfl, -⟩ := id gE
  obtain ⟨ye, yce, rfl, -⟩ := id kD
  have hDE : D.length = E.length := by have := congrArg List.length (hE.symm.trans hD); simpa using this.symm
  obtain ⟨nb, hnb⟩ : ∃ nb, nb = E.length := ⟨_, rfl⟩
  rw [hDE, ← hnb] at kD
  rw [← hnb] at gE
  rw [hDE, ← hnb]
  have G1 := Lib.hid g1
  have G2 := Lib.hid g2
  have G3 := Lib.hid g3
  have G4 := Lib.hid g4
  have K1 := Lib.hid k1
  have K2 := Lib.hid k2
  have K3 := Lib.hid k3
  have K4 := Lib.hid k4
  have GE := Lib.hid gE
  have KD := Lib.hid kD
  have GEE := Lib.hid gEe
  have KDE := Lib.hid kDe
  have HNB := Lib.hid hnb
  have HDE := Lib.hid hDE
  have HE := Lib.hid hE
  have HD := Lib.hid hD
  clear hE hD
  clear g1 g2 g3 g4 k1 k2 k3 k4 gE kD gEe kDe hnb hDE
  have hc := ((Chg.refl none_ w).alloc (.cells #[.int .i64 ikind, .int .i64 ifrm, .int .i64 ito_, .int .i64 iview, .int .i64 inum, .int .i64 iqv, .int .i64 iqb, .slice xa qby.length xca, .int .i64 itv, .slice xb tby.length xcb, .slice xc thi.length xcc, .int .i64 ihv, .int .i64 ihb, .slice xd hby.length xcd, .int .i64 iec, .int .u64 ien, .int .u64 ief, .int .i64 ieci, .slice xe nb xce] 36 (0, 0))).alloc (.cells #[.int .i64 ikind, .int .i64 ifrm, .int .i64 ito_, .int .i64 iview, .int .i64 inum, .int .i64 iqv, .int .i64 iqb, .slice ya qby.length yca, .int .i64 itv, .slice yb tby.length ycb, .slice yc thi.length ycc, .int .i64 ihv, .int .i64 ihb, .slice yd hby.length ycd, .int .i64 iec, .int .u64 ien, .int .u64 ief, .int .i64 ieci, .slice ye nb yce] 36 (0, 0))
  obtain ⟨na, hna⟩ : ∃ na, na = w.heap.size := ⟨_, rfl⟩
  obtain ⟨wb, hwb⟩ : ∃ wb, wb = (w.alloc (.cells #[.int .i64 ikind, .int .i64 ifrm, .int .i64 ito_, .int .i64 iview, .int .i64 inum, .int .i64 iqv, .int .i64 iqb, .slice xa qby.length xca, .int .i64 itv, .slice xb tby.length xcb, .slice xc thi.length xcc, .int .i64 ihv, .int .i64 ihb, .slice xd hby.length xcd, .int .i64 iec, .int .u64 ien, .int .u64 ief, .int .i64 ieci, .slice xe nb xce] 36 (0, 0))).alloc (.cells #[.int .i64 ikind, .int .i64 ifrm, .int .i64 ito_, .int .i64 iview, .int .i64 inum, .int .i64 iqv, .int .i64 iqb, .slice ya qby.length yca, .int .i64 itv, .slice yb tby.length ycb, .slice yc thi.length ycc, .int .i64 ihv, .int .i64 ihb, .slice yd hby.length ycd, .int .i64 iec, .int .u64 ien, .int .u64 ief, .int .i64 ieci, .slice ye nb yce] 36 (0, 0)) := ⟨_, rfl⟩
  have hba : wb.heap[na]? = some (.cells #[.int .i64 ikind, .int .i64 ifrm, .int .i64 ito_, .int .i64 iview, .int .i64 inum, .int .i64 iqv, .int .i64 iqb, .slice xa qby.length xca, .int .i64 itv, .slice xb tby.length xcb, .slice xc thi.length xcc, .int .i64 ihv, .int .i64 ihb, .slice xd hby.length xcd, .int .i64 iec, .int .u64 ien, .int .u64 ief, .int .i64 ieci, .slice xe nb xce] 36 (0, 0)) := by rw [hwb]; exact ((Chg.refl none_ _).alloc _).blk (alloc_new w _ na hna) (fun h => h)
  have hbb : wb.heap[na + 1]? = some (.cells #[.int .i64 ikind, .int .i64 ifrm, .int .i64 ito_, .int .i64 iview, .int .i64 inum, .int .i64 iqv, .int .i64 iqb, .slice ya qby.length yca, .int .i64 itv, .slice yb tby.length ycb, .slice yc thi.length ycc, .int .i64 ihv, .int .i64 ihb, .slice yd hby.length ycd, .int .i64 iec, .int .u64 ien, .int .u64 ief, .int .i64 ieci, .slice ye nb yce] 36 (0, 0)) := by rw [hwb]; exact alloc_new _ _ _ (by simp [hna])
  rw [← hwb] at hc
  have hcell : ∀ z, Chg none_ wb z → z.cell? ⟨na, 0, none⟩ = some (.int .i64 ikind) ∧ z.cell? ⟨na, 1, none⟩ = some (.int .i64 ifrm) ∧ z.cell? ⟨na, 2, none⟩ = some (.int .i64 ito_) ∧ z.cell? ⟨na, 3, none⟩ = some (.int .i64 iview) ∧ z.cell? ⟨na, 4, none⟩ = some (.int .i64 inum) ∧ z.cell? ⟨na, 5, none⟩ = some (.int .i64 iqv) ∧ z.cell? ⟨na, 6, none⟩ = some (.int .i64 iqb) ∧ z.cell? ⟨na, 7, none⟩ = some (.slice xa qby.length xca) ∧ z.cell? ⟨na, 8, none⟩ = some (.int .i64 itv) ∧ z.cell? ⟨na, 9, none⟩ = some (.slice xb tby.length xcb) ∧ z.cell? ⟨na, 10, none⟩ = some (.slice xc thi.length xcc) ∧ z.cell? ⟨na, 11, none⟩ = some (.int .i64 ihv) ∧ z.cell? ⟨na, 12, none⟩ = some (.int .i64 ihb) ∧ z.cell? ⟨na, 13, none⟩ = some (.slice xd hby.length xcd) ∧ z.cell? ⟨na, 14, none⟩ = some (.int .i64 iec) ∧ z.cell? ⟨na, 15, none⟩ = some (.int .u64 ien) ∧ z.cell? ⟨na, 16, none⟩ = some (.int .u64 ief) ∧ z.cell? ⟨na, 17, none⟩ = some (.int .i64 ieci) ∧ z.cell? ⟨na, 18, none⟩ = some (.slice xe nb xce) ∧ z.cell? ⟨na + 1, 0, none⟩ = some (.int .i64 ikind) ∧ z.cell? ⟨na + 1, 1, none⟩ = some (.int .i64 ifrm) ∧ z.cell? ⟨na + 1, 2, none⟩ = some (.int .i64 ito_) ∧ z.cell? ⟨na + 1, 3, none⟩ = some (.int .i64 iview) ∧ z.cell? ⟨na + 1, 4, none⟩ = some (.int .i64 inum) ∧ z.cell? ⟨na + 1, 5, none⟩ = some (.int .i64 iqv) ∧ z.cell? ⟨na + 1, 6, none⟩ = some (.int .i64 iqb) ∧ z.cell? ⟨na + 1, 7, none⟩ = some (.slice ya qby.length yca) ∧ z.cell? ⟨na + 1, 8, none⟩ = some (.int .i64 itv) ∧ z.cell? ⟨na + 1, 9, none⟩ = some (.slice yb tby.length ycb) ∧ z.cell? ⟨na + 1, 10, none⟩ = some (.slice yc thi.length ycc) ∧ z.cell? ⟨na + 1, 11, none⟩ = some (.int .i64 ihv) ∧ z.cell? ⟨na + 1, 12, none⟩ = some (.int .i64 ihb) ∧ z.cell? ⟨na + 1, 13, none⟩ = some (.slice yd hby.length ycd) ∧ z.cell? ⟨na + 1, 14, none⟩ = some (.int .i64 iec) ∧ z.cell? ⟨na + 1, 15, none⟩ = some (.int .u64 ien) ∧ z.cell? ⟨na + 1, 16, none⟩ = some (.int .u64 ief) ∧ z.cell? ⟨na + 1, 17, none⟩ = some (.int .i64 ieci) ∧ z.cell? ⟨na + 1, 18, none⟩ = some (.slice ye nb yce) := fun z hz => by
    have e1 := hz.blk hba (fun h => h)
    have e2 := hz.blk hbb (fun h => h)
    exact ⟨(cell_of_blk e1 0).trans rfl, (cell_of_blk e1 1).trans rfl, (cell_of_blk e1 2).trans rfl, (cell_of_blk e1 3).trans rfl, (cell_of_blk e1 4).trans rfl, (cell_of_blk e1 5).trans rfl, (cell_of_blk e1 6).trans rfl, (cell_of_blk e1 7).trans rfl, (cell_of_blk e1 8).trans rfl, (cell_of_blk e1 9).trans rfl, (cell_of_blk e1 10).trans rfl, (cell_of_blk e1 11).trans rfl, (cell_of_blk e1 12).trans rfl, (cell_of_blk e1 13).trans rfl, (cell_of_blk e1 14).trans rfl, (cell_of_blk e1 15).trans rfl, (cell_of_blk e1 16).trans rfl, (cell_of_blk e1 17).trans rfl, (cell_of_blk e1 18).trans rfl, (cell_of_blk e2 0).trans rfl, (cell_of_blk e2 1).trans rfl, (cell_of_blk e2 2).trans rfl, (cell_of_blk e2 3).trans rfl, (cell_of_blk e2 4).trans rfl, (cell_of_blk e2 5).trans rfl, (cell_of_blk e2 6).trans rfl, (cell_of_blk e2 7).trans rfl, (cell_of_blk e2 8).trans rfl, (cell_of_blk e2 9).trans rfl, (cell_of_blk e2 10).trans rfl, (cell_of_blk e2 11).trans rfl, (cell_of_blk e2 12).trans rfl, (cell_of_blk e2 13).trans rfl, (cell_of_blk e2 14).trans rfl, (cell_of_blk e2 15).trans rfl, (cell_of_blk e2 16).trans rfl, (cell_of_blk e2 17).trans rfl, (cell_of_blk e2 18).trans rfl⟩
  obtain ⟨q0, q1, q2, q3, q4, q5, q6, q7, q8, q9, q10, q11, q12, q13, q14, q15, q16, q17, q18, r0, r1, r2, r3, r4, r5, r6, r7, r8, r9, r10, r11, r12, r13, r14, r15, r16, r17, r18⟩ := hcell wb (Chg.refl _ _)
  have HCELL := Lib.hid hcell
  have HC := Lib.hid hc
  have HNA := Lib.hid hna
  have HWB := Lib.hid hwb
  clear hcell hc hna hwb hba hbb
  change Calls Try.prog 12 #[.agg #[.int .i64 ikind, .int .i64 ifrm, .int .i64 ito_, .int .i64 iview, .int .i64 inum, .int .i64 iqv, .int .i64 iqb, .slice xa qby.length xca, .int .i64 itv, .slice xb tby.length xcb, .slice xc thi.length xcc, .int .i64 ihv, .int .i64 ihb, .slice xd hby.length xcd, .int .i64 iec, .int .u64 ien, .int .u64 ief, .int .i64 ieci, .slice xe nb xce], .agg #[.int .i64 ikind, .int .i64 ifrm, .int .i64 ito_, .int .i64 iview, .int .i64 inum, .int .i64 iqv, .int .i64 iqb, .slice ya qby.length yca, .int .i64 itv, .slice yb tby.length ycb, .slice yc thi.length ycc, .int .i64 ihv, .int .i64 ihb, .slice yd hby.length ycd, .int .i64 iec, .int .u64 ien, .int .u64 ief, .int .i64 ieci, .slice ye nb yce]] w _
  go_enter Try.func12, Try.ntmps12
  go_upto_region 1 with fail
  rw [← HWB.out, ← HNA.out]
  go_wp2_with fail
  refine (same_qc S S' iqv iqb _ _ qby wb (SliceIn.chg0 G1.out HC.out) (SliceIn.chg0 K1.out HC.out)).mono ?_
  rintro e z ⟨rfl, hz⟩
  have HZ := Lib.hid hz
  clear hz q0 q1 q2 q3 q4 q5 q6 q7 q8 q9 q10 q11 q12 q13 q14 q15 q16 q17 q18 r0 r1 r2 r3 r4 r5 r6 r7 r8 r9 r10 r11 r12 r13 r14 r15 r16 r17 r18
  obtain ⟨q0, q1, q2, q3, q4, q5, q6, q7, q8, q9, q10, q11, q12, q13, q14, q15, q16, q17, q18, r0, r1, r2, r3, r4, r5, r6, r7, r8, r9, r10, r11, r12, r13, r14, r15, r16, r17, r18⟩ := HCELL.out z HZ.out
  go_wp2_with fail
  refine (same_tc S S' itv ihv ihb _ _ _ _ _ _ tby thi hby z (SliceIn.chg0 (SliceIn.chg0 G2.out HC.out) HZ.out) (SliceIn.chg0 (SliceIn.chg0 G3.out HC.out) HZ.out) (SliceIn.chg0 (SliceIn.chg0 G4.out HC.out) HZ.out) (SliceIn.chg0 (SliceIn.chg0 K2.out HC.out) HZ.out) (SliceIn.chg0 (SliceIn.chg0 K3.out HC.out) HZ.out) (SliceIn.chg0 (SliceIn.chg0 K4.out HC.out) HZ.out)).mono ?_
  rintro e z2 ⟨rfl, hz2⟩
  have HZ2 : Hid (Chg none_ wb z2) := HZ.out.trans hz2
  clear hz2 q0 q1 q2 q3 q4 q5 q6 q7 q8 q9 q10 q11 q12 q13 q14 q15 q16 q17 q18 r0 r1 r2 r3 r4 r5 r6 r7 r8 r9 r10 r11 r12 r13 r14 r15 r16 r17 r18
  obtain ⟨q0, q1, q2, q3, q4, q5, q6, q7, q8, q9, q10, q11, q12, q13, q14, q15, q16, q17, q18, r0, r1, r2, r3, r4, r5, r6, r7, r8, r9, r10, r11, r12, r13, r14, r15, r16, r17, r18⟩ := HCELL.out z2 HZ2.out
  go_wp2_with fail
  go_loopw [5] (fun iv wr => ∃ i : Nat, i ≤ nb ∧ iv = .int .i64 (i : Int) ∧ Chg none_ wb wr) (fun iv _ => nb - (intOf iv).toNat)
  case atStart => exact ⟨0, by omega, rfl, HZ2.out⟩
  case round =>
    clear q0 q1 q2 q3 q4 q5 q6 q7 q8 q9 q10 q11 q12 q13 q14 q15 q16 q17 q18 r0 r1 r2 r3 r4 r5 r6 r7 r8 r9 r10 r11 r12 r13 r14 r15 r16 r17 r18
    obtain ⟨i, hi, rfl, hR⟩ := hrel
    have HR := Lib.hid hR
    clear hR
    have hq := HCELL.out wr HR.out
    have hq18 : wr.cell? ⟨na, 18, none⟩ = some (.slice xe nb xce) := by obtain ⟨q0, q1, q2, q3, q4, q5, q6, q7, q8, q9, q10, q11, q12, q13, q14, q15, q16, q17, q18, r0, r1, r2, r3, r4, r5, r6, r7, r8, r9, r10, r11, r12, r13, r14, r15, r16, r17, r18⟩ := hq; exact q18
    have hr18 : wr.cell? ⟨na + 1, 18, none⟩ = some (.slice ye nb yce) := by obtain ⟨q0, q1, q2, q3, q4, q5, q6, q7, q8, q9, q10, q11, q12, q13, q14, q15, q16, q17, q18, r0, r1, r2, r3, r4, r5, r6, r7, r8, r9, r10, r11, r12, r13, r14, r15, r16, r17, r18⟩ := hq; exact r18
    clear hq
    by_cases hlt : i < nb
    · have hil : (i : Int) < (nb : Int) := by omega
      have hnb2 : nb ≤ 2000000 := by obtain ⟨_, _, _, _, _, _, h⟩ := GE.out; exact h
      have hiw : IntKind.i64.wrap ((i : Int) + 1) = (i : Int) + 1 := by rw [IntKind.wrap_i64]; omega
      have hiE : i < E.length := by rw [← HNB.out]; exact hlt
      have hiD : i < D.length := by rw [HDE.out, ← HNB.out]; exact hlt
      have hx : E[i].1 = D[i].1 := by
        have h1 : (E.map (·.1))[i]? = (D.map (·.1))[i]? := by rw [← HE.out, ← HD.out]
        rw [List.getElem?_map, List.getElem?_map, List.getElem?_eq_getElem hiE, List.getElem?_eq_getElem hiD] at h1
        exact Option.some.inj h1
      obtain ⟨be, oe, rfl, hce⟩ : ∃ b off, xe = some ⟨b, off, none⟩ ∧ ∀ (j : Nat) (u : Value), (blkCells E[i].1 E[i].2.1 E[i].2.2)[j]? = some u → wr.cell? ⟨b, off + i * 6 + j, none⟩ = some u := by
        obtain ⟨a_, c_, e_, hsrc, -⟩ := SliceIn.chg0 (SliceIn.chg0 GE.out HC.out) HR.out
        cases e_
        rcases hsrc with h0 | ⟨b, off, e, h1⟩
        · have := congrArg List.length h0; rw [flatB_length] at this; simp at this; omega
        · refine ⟨b, off, e, fun j u hu => ?_⟩
          have hj : j < 6 := (List.getElem?_eq_some_iff.1 hu).1
          have h2 := (h1 (i * 6 + j) u (by rw [flatB_at E i hiE j hj]; exact hu)).1
          rw [← Nat.add_assoc] at h2
          exact h2
      obtain ⟨bd, od, rfl, hcd⟩ : ∃ b off, ye = some ⟨b, off, none⟩ ∧ ∀ (j : Nat) (u : Value), (blkCells D[i].1 D[i].2.1 D[i].2.2)[j]? = some u → wr.cell? ⟨b, off + i * 6 + j, none⟩ = some u := by
        obtain ⟨a_, c_, e_, hsrc, -⟩ := SliceIn.chg0 (SliceIn.chg0 KD.out HC.out) HR.out
        cases e_
        rcases hsrc with h0 | ⟨b, off, e, h1⟩
        · have := congrArg List.length h0; rw [flatB_length] at this; simp at this; omega
        · refine ⟨b, off, e, fun j u hu => ?_⟩
          have hj : j < 6 := (List.getElem?_eq_some_iff.1 hu).1
          have h2 := (h1 (i * 6 + j) u (by rw [flatB_at D i hiD j hj]; exact hu)).1
          rw [← Nat.add_assoc] at h2
          exact h2
      obtain ⟨hy1, hy2⟩ := GEE.out _ (List.getElem_mem hiE)
      obtain ⟨hy3, hy4⟩ := KDE.out _ (List.getElem_mem hiD)
      have hb1 : BlkV S wr (blkCells E[i].1 E[i].2.1 E[i].2.2) E[i].1 := ⟨_, _, rfl, SliceIn.chg0 (SliceIn.chg0 hy1 HC.out) HR.out, SliceIn.chg0 (SliceIn.chg0 hy2 HC.out) HR.out⟩
      have hb2 : BlkV S' wr (blkCells D[i].1 D[i].2.1 D[i].2.2) E[i].1 := by rw [hx]; exact ⟨_, _, rfl, SliceIn.chg0 (SliceIn.chg0 hy3 HC.out) HR.out, SliceIn.chg0 (SliceIn.chg0 hy4 HC.out) HR.out⟩
      obtain ⟨ce, hcee⟩ : ∃ c, c = blkCells E[i].1 E[i].2.1 E[i].2.2 := ⟨_, rfl⟩
      obtain ⟨cd, hcdd⟩ : ∃ c, c = blkCells D[i].1 D[i].2.1 D[i].2.2 := ⟨_, rfl⟩
      have hse : (Try.prog.info? 65).map (·.size) = some ce.length := by rw [hcee]; exact size6B
      have hsd : (Try.prog.info? 65).map (·.size) = some cd.length := by rw [hcdd]; exact size6B
      obtain ⟨bx, hbx⟩ : ∃ b, b = E[i].1 := ⟨_, rfl⟩
      rw [← hcee, ← hbx] at hb1
      rw [← hcdd, ← hbx] at hb2
      rw [← hcee] at hce
      rw [← hcdd] at hcd
      have HB1 := Lib.hid hb1
      have HB2 := Lib.hid hb2
      have HSE := Lib.hid hse
      have HSD := Lib.hid hsd
      have HLT := Lib.hid hlt
      have HNB2 := Lib.hid hnb2
      have HSP : Hid ((fun x : World => x.cell? ⟨na, 18, none⟩ = some (.slice (some ⟨be, oe, none⟩) nb xce) ∧ x.cell? ⟨na + 1, 18, none⟩ = some (.slice (some ⟨bd, od, none⟩) nb yce) ∧ (∀ (j : Nat) (u : Value), ce[j]? = some u → x.cell? ⟨be, oe + i * 6 + j, none⟩ = some u) ∧ (∀ (j : Nat) (u : Value), cd[j]? = some u → x.cell? ⟨bd, od + i * 6 + j, none⟩ = some u)) wr) := ⟨hq18, hr18, hce, hcd⟩
      clear hy1 hy2 hy3 hy4 hb1 hb2 hse hsd hcee hcdd hbx hx hce hcd hr18 hlt hnb2 hi hiE hiD
      go_upto_region 6 with fail
      clear hq18
      refine wp_region_seq (fun x : World => x.cell? ⟨na, 18, none⟩ = some (.slice (some ⟨be, oe, none⟩) nb xce) ∧ x.cell? ⟨na + 1, 18, none⟩ = some (.slice (some ⟨bd, od, none⟩) nb yce) ∧ (∀ (j : Nat) (u : Value), ce[j]? = some u → x.cell? ⟨be, oe + i * 6 + j, none⟩ = some u) ∧ (∀ (j : Nat) (u : Value), cd[j]? = some u → x.cell? ⟨bd, od + i * 6 + j, none⟩ = some u)) anyW [] [(0, 0, some 78), (1, 1, some 79), (2, 0, some 80), (3, 0, some 81), (4, 1, some 82), (5, 0, some 83), (6, 1, some 84), (7, 0, some 85), (8, 0, some 86), (9, 1, some 87), (10, 2, some 88), (11, 0, some 89)] (by kernel_rfl) (by kernel_rfl) (fun _ _ _ d _ h => by cases d <;> exact h) HSP.out anyW.i ?_
      repeat (first | (refine seqW (v := ?_) rfl rfl (by kernel_rfl) ?_ ?_; rotate_left; (focus ((intro x; go_simp); try (with_reducible rfl))); try simp only [Act.put, List.setIfInBounds_toArray, List.set_cons_zero, List.set_cons_succ]) | (refine seqS (v := ?_) rfl rfl (by kernel_rfl) ?_ ?_; rotate_left; (focus (intro x hS; first | (refine (exec_at 65 _ (by rfl) be (oe + i * 6) (by rfl) ce _ hS.2.2.1 Try.underlying65 rfl HSE.out).trans ?_; with_reducible rfl) | (refine (exec_at 65 _ (by rfl) bd (od + i * 6) (by rfl) cd _ hS.2.2.2 Try.underlying65 rfl HSD.out).trans ?_; with_reducible rfl) | (obtain ⟨q18, r18, hce, hcd⟩ := hS; go_simp; try (with_reducible rfl)))); try simp only [Act.put, List.setIfInBounds_toArray, List.set_cons_zero, List.set_cons_succ]) | (refine seqX rfl rfl (by kernel_rfl) ?_; try simp only [Act.put, List.setIfInBounds_toArray, List.set_cons_zero, List.set_cons_succ]))
      refine seqL rfl rfl (fun K hK => ?_)
      go_simp
      go_at_call 55
      refine (same_block S S' bx ce cd wr.drew (HB1.out.chg0 (Chg.refl none_ wr).drew) (HB2.out.chg0 (Chg.refl none_ wr).drew)).mono ?_
      rintro z y1 ⟨rfl, hy⟩
      have HR6 := Lib.hid ((HR.out.drew).trans hy)
      have hs6 : (fun x : World => x.cell? ⟨na, 18, none⟩ = some (.slice (some ⟨be, oe, none⟩) nb xce) ∧ x.cell? ⟨na + 1, 18, none⟩ = some (.slice (some ⟨bd, od, none⟩) nb yce) ∧ (∀ (j : Nat) (u : Value), ce[j]? = some u → x.cell? ⟨be, oe + i * 6 + j, none⟩ = some u) ∧ (∀ (j : Nat) (u : Value), cd[j]? = some u → x.cell? ⟨bd, od + i * 6 + j, none⟩ = some u)) y1 := ⟨hy.cell (p := ⟨na, 18, none⟩) HSP.out.1 (fun h => h), hy.cell (p := ⟨na + 1, 18, none⟩) HSP.out.2.1 (fun h => h), fun j u hu => hy.cell (p := ⟨be, oe + i * 6 + j, none⟩) (HSP.out.2.2.1 j u hu) (fun h => h), fun j u hu => hy.cell (p := ⟨bd, od + i * 6 + j, none⟩) (HSP.out.2.2.2 j u hu) (fun h => h)⟩
      have HS6 := Lib.hid hs6
      clear hy hs6
      go_wp2_with fail
      refine hK.out _ _ anyW.i ?_ (fun _ hSt => ?_)
      · exact HS6.out
      clear hSt hK K
      try simp only [Act.put, List.setIfInBounds_toArray, List.set_cons_zero, List.set_cons_succ]
      repeat (first | (refine seqW (v := ?_) rfl rfl (by kernel_rfl) ?_ ?_; rotate_left; (focus ((intro x; go_simp); try (with_reducible rfl))); try simp only [Act.put, List.setIfInBounds_toArray, List.set_cons_zero, List.set_cons_succ]) | (refine seqS (v := ?_) rfl rfl (by kernel_rfl) ?_ ?_; rotate_left; (focus (intro x hS; first | (refine (exec_at 65 _ (by rfl) be (oe + i * 6) (by rfl) ce _ hS.2.2.1 Try.underlying65 rfl HSE.out).trans ?_; with_reducible rfl) | (refine (exec_at 65 _ (by rfl) bd (od + i * 6) (by rfl) cd _ hS.2.2.2 Try.underlying65 rfl HSD.out).trans ?_; with_reducible rfl) | (obtain ⟨q18, r18, hce, hcd⟩ := hS; go_simp; try (with_reducible rfl)))); try simp only [Act.put, List.setIfInBounds_toArray, List.set_cons_zero, List.set_cons_succ]) | (refine seqX rfl rfl (by kernel_rfl) ?_; try simp only [Act.put, List.setIfInBounds_toArray, List.set_cons_zero, List.set_cons_succ]))
      refine seqE ?_
      go_wp2_with fail
      go_roundw
      case rel => exact ⟨i + 1, by have := HLT.out; omega, by go_num, HR6.out⟩
      case measure => simp [intOf]; have := HLT.out; omega
    · obtain rfl : nb = i := by omega
      clear hr18 hi hlt
      go_wp2_with fail
      go_ret
      exact ⟨rfl, HC.out.trans HR.out⟩
end
section
open Go.RowKit Go.MapKept

def netT (p : Nat) (L : List MsgX) : Thing := ⟨fun w F => NetV w p F L, fun h k hk => h.lt k hk, fun h hc hs => h.chg hc hs⟩
section
variable {w w' : World} {m : Nat → Thing} {l : List Thing} {p : Nat} {L : List MsgX}
theorem netD_new (h : Sys w m l) : Calls Try.prog 10 #[] w fun e w' => ∃ p, e = .returned (.pointer (some ⟨p, 0, none⟩)) ∧ Sys w' m (netT p [] :: l) :=
  (net_new w).mono fun e w' ⟨p, he, hN, hB⟩ => ⟨p, he, h.push (Chg.of_below hB) (F := fun k => w.heap.size ≤ k ∧ k < w'.heap.size) hN (fun k hk => hk.1)⟩
theorem netD_len (h : Sys w m (netT p L :: l)) : Calls Try.prog 18 #[.pointer (some ⟨p, 0, none⟩)] w fun e w' => e = .returned (.int .i64 L.length) ∧ w = w' := by
  obtain ⟨F, hF, -⟩ := h.head
  exact net_len p F L w hF
theorem netD_at_no (i : Int) (hi : ¬ (0 ≤ i ∧ i < (L.length : Int))) (h : Sys w m (netT p L :: l)) :
    Calls Try.prog 17 #[.pointer (some ⟨p, 0, none⟩), .int .i64 i] w fun e w' => e = .returned (.tuple #[.agg zeroMsg.toArray, .bool false]) ∧ Sys w' m (netT p L :: l) := by
  obtain ⟨F, hF, -⟩ := h.head
  exact (net_at_no p F L i w hF hi).mono fun e w' ⟨he, hB⟩ => ⟨he, h.below hB⟩
theorem netD_at_yes (i : Nat) (x : MsgX) (hx : L[i]? = some x) (h : Sys w m (netT p L :: l)) :
    Calls Try.prog 17 #[.pointer (some ⟨p, 0, none⟩), .int .i64 i] w fun e w' => ∃ cs, e = .returned (.tuple #[.agg cs.toArray, .bool true]) ∧ MsgV anyK w' cs x ∧ Sys w' m (netT p L :: l) := by
  obtain ⟨F, hF, -⟩ := h.head
  exact (net_at_yes p F L i x w hF hx).mono fun e w' ⟨cs, he, hm, hB⟩ => ⟨cs, he, hm.mono fun _ _ _ => trivial, h.below hB⟩
theorem netD_take_no (i : Int) (hi : ¬ (0 ≤ i ∧ i < (L.length : Int))) (h : Sys w m (netT p L :: l)) :
    Calls Try.prog 11 #[.pointer (some ⟨p, 0, none⟩), .int .i64 i] w fun e w' => e = .returned (.tuple #[.agg zeroMsg.toArray, .bool false]) ∧ Sys w' m (netT p L :: l) := by
  obtain ⟨F, hF, -⟩ := h.head
  exact (net_take_no p F L i w hF hi).mono fun e w' ⟨he, hB⟩ => ⟨he, h.below hB⟩
theorem netD_take_yes (i : Nat) (x : MsgX) (hx : L[i]? = some x) (hL : L.length ≤ 1000000) (h : Sys w m (netT p L :: l)) :
    Calls Try.prog 11 #[.pointer (some ⟨p, 0, none⟩), .int .i64 i] w fun e w' => ∃ cs, e = .returned (.tuple #[.agg cs.toArray, .bool true]) ∧ MsgV anyK w' cs x ∧ Sys w' m (netT p (L.eraseIdx i) :: l) := by
  obtain ⟨F, hF, _, _, hT⟩ := h.head
  exact (net_take_yes p F L i x w hF hx hL).mono fun e w' ⟨cs, he, hm, hN, hC⟩ => ⟨cs, he, hm.mono fun _ _ _ => trivial, hT w' _ ⟨F, hN, fun k hk => .inl hk, hC⟩⟩
theorem netD_copy_no (i : Int) (hi : ¬ (0 ≤ i ∧ i < (L.length : Int))) (h : Sys w m (netT p L :: l)) :
    Calls Try.prog 13 #[.pointer (some ⟨p, 0, none⟩), .int .i64 i] w fun e w' => e = .returned (.bool false) ∧ Sys w' m (netT p L :: l) := by
  obtain ⟨F, hF, -⟩ := h.head
  exact (net_copy_no p F L i w hF hi).mono fun e w' ⟨he, hB⟩ => ⟨he, h.below hB⟩
theorem netD_copy_yes (i : Nat) (x : MsgX) (hx : L[i]? = some x) (hL : L.length ≤ 1000000) (h : Sys w m (netT p L :: l)) :
    Calls Try.prog 13 #[.pointer (some ⟨p, 0, none⟩), .int .i64 i] w fun e w' => e = .returned (.bool true) ∧ Sys w' m (netT p (L ++ [x]) :: l) := by
  obtain ⟨F, hF, _, _, hT⟩ := h.head
  exact (net_copy_yes p F L i x w hF hx hL).mono fun e w' ⟨he, hN⟩ => ⟨he, hT w' _ hN⟩
theorem netD_send {W : World} (vl : Value) (A : List (MsgX × List Value)) (hA : MsgsIn (· < W.heap.size) w vl A) (hL : L.length + A.length ≤ 900000) (h : Sys w m (netT p L :: base W :: l)) :
    Calls Try.prog 16 #[.pointer (some ⟨p, 0, none⟩), vl] w fun e w' => e = .returned (.tuple #[]) ∧ Sys w' m (netT p (L ++ A.map (·.1)) :: base W :: l) := by
  have h' := h
  obtain ⟨F, hF, _, _, hT⟩ := h.head
  obtain ⟨U, F1, V, hF1, ⟨G, V2, ⟨hG, rfl⟩, hV2, hd2, hV⟩, hd, hU⟩ := id h'
  obtain ⟨F2, hF2, hlt, h3, h4⟩ : ∃ F2, (netT p L).P w F2 ∧ (∀ k, k < W.heap.size → ¬ F2 k) ∧ (∀ w', Chg F2 w w' → Sys w' m (base W :: l)) ∧ ∀ w' t', To F2 t' w w' → Sys w' m (t' :: base W :: l) := by
    have hX : SysL w m (base W :: l) V := ⟨_, V2, ⟨hG, rfl⟩, hV2, hd2, hV⟩
    refine ⟨F1, hF1, fun k hk hf => hd k hf ((hV k).2 (.inl hk)), fun w' hc => ⟨V, hX.chg hc fun k hk hf => hd k hf hk⟩, fun w' t' ⟨F', hF', hn, hc⟩ => ⟨fun k => F' k ∨ V k, F', V, hF', hX.chg hc (fun k hk hf => hd k hf hk), fun k hk hv => ?_, fun _ => Iff.rfl⟩⟩
    rcases hn k hk with hk | hk
    · exact hd k hk hv
    · have := hX.lt k hv; omega
  exact (net_send p F2 _ L vl A w hF2 hA (fun k hk => hlt k hk) hL).mono fun e w' ⟨he, hN⟩ => ⟨he, h4 w' _ hN⟩
end
/-- A message, as the net keeps it. -/
def MsgP.x (P : MsgP) : MsgX := ⟨P.i, P.q, P.t, P.h, P.g, P.E.map (·.1)⟩
theorem RawSl.inOld {W : World} {v : Value} {n : Nat} {xs : List Value} (h : RawSl W v n xs) (hn : n ≤ 2000000) : SliceIn (· < W.heap.size) W v n xs := by
  obtain ⟨a, c, e, h1, h2, h3, _⟩ := h
  exact ⟨a, c, e, h1, fun b off e hx => ⟨h2 b off e hx, h2 b off e hx⟩, h3, hn⟩
theorem MsgP.Raw.msgV {P : MsgP} {W : World} (h : P.Raw W) (hs : P.size ≤ 2000000) : MsgV (· < W.heap.size) W P.cells P.x := by
  unfold MsgP.size at hs
  have hl := len_le_sum (fun a : BlkX × Value × Value => a.1.by_.length + a.1.envs.length + 1) (fun a => by omega) P.E
  refine ⟨_, _, _, _, _, rfl, h.q.inOld (by omega), h.t.inOld (by omega), h.h.inOld (by omega), h.g.inOld (by omega), P.E, rfl, h.b.inOld (by omega), fun e he => ?_⟩
  have hm := mem_sum_le (List.mem_map.2 ⟨e, he, rfl⟩ : e.1.by_.length + e.1.envs.length + 1 ∈ P.E.map fun a : BlkX × Value × Value => a.1.by_.length + a.1.envs.length + 1)
  obtain ⟨h1, h2, h3⟩ := h.e e he
  exact ⟨h1.inOld (by omega), h2.inOld (by omega)⟩
def Msgs (L : List MsgP) : List (MsgX × List Value) := L.map fun P => (P.x, P.cells)
theorem flatM_msgs (L : List MsgP) : flatM (Msgs L) = L.flatMap MsgP.cells := by
  unfold flatM Msgs
  rw [List.flatMap_map]
/-- Behind the address lie the messages' cells. -/
def RowAt (w : World) (sa : Option Addr) (B : List (MsgX × List Value)) : Prop := B = [] ∨ ∃ b off, sa = some ⟨b, off, none⟩ ∧ ∀ (j : Nat) (u : Value), (flatM B)[j]? = some u → w.cell? ⟨b, off + j, none⟩ = some u
section
variable {w w' : World} {m : Nat → Thing} {l : List Thing} {n : Nat} {v : Value}
theorem Sys.appMsgs {k : Nat} {A : List (MsgX × List Value)} (h : Sys w m (own 36 19 v n (flatM A) :: l)) (sa : Option Addr) (c : Nat) (B : List (MsgX × List Value)) (hk : B.length = k) (hB : ∀ e ∈ B, e.2.length = 19 ∧ ∀ u ∈ e.2, u.oneCell' = true) (hs : RowAt w sa B) (hb : n + k ≤ 1000000) (ty : TypeId) :
    ∃ v' w', (Builtin.append_ #[22, 22] ty #[v, .slice sa k c]).run Try.prog w = .ok v' w' ∧ Sys w' m (own 36 19 v' (n + k) (flatM (A ++ B)) :: l) := by
  obtain ⟨i, hi, hz, hs1, hby⟩ := info_parts' (P := Try.prog) (e := 36) (z := some (.agg zeroMsg.toArray)) (s := 19) (b := 232) (by kernel_rfl)
  rw [show flatM (A ++ B) = flatM A ++ flatM B by simp [flatM]]
  cases sa with
  | none =>
    have h0 : B = [] := by
      rcases hs with h | ⟨b, off, e, _⟩
      · exact h
      · cases e
    subst h0
    obtain rfl : k = 0 := by simpa using hk.symm
    exact ⟨v, w, run_append_none (size := 19) Try.underlying22 hi ty h.getOwn c, by simpa [flatM] using h⟩
  | some ad =>
    refine h.appendRow (P := Try.prog) Try.underlying22 hi hz hs1 hby rfl (by decide) ad k c (flatM B) (by rw [flatM_length B (fun e he => (hB e he).1), hk]) (fun j u hu => ?_) (flatM_one B (fun e he => (hB e he).2)) (by omega) (by unfold maxLen; omega) ty
    rcases hs with h | ⟨b, off, e, h⟩
    · rw [h] at hu; simp [flatM] at hu
    · cases e
      rw [addr_add]; exact h j u hu
theorem Own.rowAt {A : List (MsgX × List Value)} {a : Option Addr} {k c : Nat} (h : Own 36 19 w (.slice a k c) n (flatM A)) (hn : n ≤ 2000000) (h19 : ∀ e ∈ A, e.2.length = 19) : RowAt w a A := by
  obtain ⟨a', c', e, hs, -⟩ := h.sliceIn (S := anyK) hn (fun _ _ => trivial)
  cases e
  rcases hs.cells with h0 | ⟨b, off, e, hc⟩
  · refine .inl (List.length_eq_zero_iff.1 ?_)
    have h1 := congrArg List.length h0
    rw [flatM_length A h19] at h1
    have h2 : A.length * 19 = 0 := h1
    omega
  · exact .inr ⟨b, off, e, hc⟩
theorem flatM_append (A B : List (MsgX × List Value)) : flatM (A ++ B) = flatM A ++ flatM B := by simp [flatM]
theorem RowAt.take {sa : Option Addr} {A : List (MsgX × List Value)} (h : RowAt w sa A) (i : Nat) : RowAt w sa (A.take i) := by
  rcases h with rfl | ⟨b, off, e, hc⟩
  · exact .inl (by simp)
  · refine .inr ⟨b, off, e, fun j u hu => hc j u ?_⟩
    rw [← List.take_append_drop i A, flatM_append, List.getElem?_append_left (List.getElem?_eq_some_iff.1 hu).1]
    exact hu
theorem RowAt.drop {b off : Nat} {A : List (MsgX × List Value)} (h : RowAt w (some ⟨b, off, none⟩) A) (h19 : ∀ e ∈ A, e.2.length = 19) (i : Nat) (hi : i ≤ A.length) : RowAt w (some ⟨b, off + i * 19, none⟩) (A.drop i) := by
  rcases h with rfl | ⟨b', off', e, hc⟩
  · exact .inl (by simp)
  · cases e
    refine .inr ⟨_, _, rfl, fun j u hu => ?_⟩
    have h1 : (flatM (A.take i)).length = i * 19 := by
      rw [flatM_length _ (fun e he => h19 e (List.mem_of_mem_take he)), List.length_take, Nat.min_eq_left hi]
    rw [Nat.add_assoc]
    refine hc _ u ?_
    rw [← List.take_append_drop i A, flatM_append, List.getElem?_append_right (by rw [h1]; omega), h1, show i * 19 + j - i * 19 = j by omega]
    exact hu
theorem RowAt.get {b off : Nat} {A : List (MsgX × List Value)} (h : RowAt w (some ⟨b, off, none⟩) A) (h19 : ∀ e ∈ A, e.2.length = 19) {i : Nat} (hi : i < A.length) : ∀ (j : Nat) (u : Value), A[i].2[j]? = some u → w.cell? ⟨b, off + i * 19 + j, none⟩ = some u := by
  intro j u hu
  have hj : j < 19 := by have := (List.getElem?_eq_some_iff.1 hu).1; rw [h19 _ (List.getElem_mem hi)] at this; exact this
  rcases h with h0 | ⟨b', off', e, hc⟩
  · subst h0; simp at hi
  · cases e
    rw [Nat.add_assoc]
    exact hc _ u (by rw [flatM_at A h19 i hi j hj]; exact hu)
theorem RowAt.some_ {sa : Option Addr} {A : List (MsgX × List Value)} (h : RowAt w sa A) {i : Nat} (hi : i < A.length) : ∃ b off, sa = some ⟨b, off, none⟩ := by
  rcases h with h0 | ⟨b, off, e, _⟩
  · subst h0; simp at hi
  · exact ⟨b, off, e⟩
end
section
variable {P : Program} {ops : Array Oper} {Q : Exit → Act → World → Prop} {a : Act} {w : World} {rest : List Oper} {o : Oper}
theorem wpList_buildOne (hgd : o.guard = none) (T E s : Nat) (x : Operand) (ho : o.op = .buildSlice T 1 #[(0, x)]) (cs : List Value) (hx : a.eval x = .agg cs.toArray)
    (i : TypeInfo) (z : Value) (hT : P.underlying T = some (.slice E)) (hi : P.info? E = some i) (hs : i.size = s) (hz : i.zero = some z) (h0 : 0 < s) (h1 : s ≤ 1000) (hc : cs.length = s)
    (h : wpList P ops Q rest (a.put o.dst (.slice (some ⟨w.heap.size, 0, none⟩) 1 1)) (w.alloc (.cells cs.toArray E))) : wpList P ops Q (o :: rest) a w :=
  wpList_plain hgd fun K hK => wp_buildSlice_one T E s x ho cs hx i z hT hi hs hz h0 h1 hc (hK _ _ h)
end
theorem rowAt_one {w : World} {nk : Nat} {x : MsgX} {cs : List Value} {t : TypeId} {fr : Nat × Nat} (h : w.heap[nk]? = some (.cells cs.toArray t fr)) : RowAt w (some ⟨nk, 0, none⟩) [(x, cs)] :=
  .inr ⟨nk, 0, rfl, fun j u hu => by
    have e : flatM [(x, cs)] = cs := by simp [flatM]
    rw [e] at hu
    rw [cell_of_blk h, Nat.zero_add]
    simpa using hu⟩
theorem erase_td {α : Type} (A : List α) (k : Nat) : A.take k ++ A.drop (k + 1) = A.eraseIdx k := (List.eraseIdx_eq_take_drop_succ A k).symm
theorem rowAt_args {W y : World} {a : Option Addr} {n c : Nat} {L : List MsgP} (h : RawSl W (.slice a n c) L.length (L.flatMap MsgP.cells)) (hB : Below W.heap.size W y) : RowAt y a (Msgs L) := by
  obtain ⟨a', c', e, hs, -⟩ := h
  cases e
  rcases hs with h0 | ⟨b, off, e, hc⟩
  · refine .inl (List.length_eq_zero_iff.1 ?_)
    have h1 : (flatM (Msgs L)).length = 0 := by rw [flatM_msgs, h0]; rfl
    rw [flatM_length _ (fun e he => by obtain ⟨P, _, rfl⟩ := List.mem_map.1 he; rfl)] at h1
    omega
  · refine .inr ⟨b, off, e, fun j u hu => ?_⟩
    rw [flatM_msgs] at hu
    exact (Chg.of_below (S := none_) hB).cell (hc j u hu).1 (fun h => h)
theorem sliceIn_args {W y : World} {a : Option Addr} {n c : Nat} {L : List MsgP} (h : RawSl W (.slice a n c) L.length (L.flatMap MsgP.cells)) (hB : Below W.heap.size W y) (k : Nat) (hk : k ≤ 100) (hkn : k ≤ L.length) : SliceIn (· < W.heap.size) y (.slice a k c) ((Msgs L).take k).length (flatM ((Msgs L).take k)) := by
  have hl : ((Msgs L).take k).length = k := by rw [List.length_take]; unfold Msgs; rw [List.length_map]; omega
  rw [hl]
  obtain ⟨a', c', e, hs, hb, hn, _⟩ := h
  cases e
  have h0 : SliceIn (· < W.heap.size) W (.slice a k c) k (flatM ((Msgs L).take k)) := by
    have hsub : ∀ (j : Nat) (u : Value), (flatM ((Msgs L).take k))[j]? = some u → (L.flatMap MsgP.cells)[j]? = some u := fun j u hu => by
      rw [← flatM_msgs, ← List.take_append_drop k (Msgs L), flatM_append, List.getElem?_append_left (List.getElem?_eq_some_iff.1 hu).1]
      exact hu
    refine ⟨a, c, rfl, ?_, fun b off e hx => ?_, fun e => by have := hn e; omega, by omega⟩
    · rcases hs with h0 | ⟨b, off, e, h1⟩
      · refine .inl ?_
        rcases h2 : flatM ((Msgs L).take k) with _ | ⟨u, r⟩
        · rfl
        · have h3 := hsub 0 u (by rw [h2]; rfl)
          rw [h0] at h3; simp at h3
      · exact .inr ⟨b, off, e, fun j u hu => h1 j u (hsub j u hu)⟩
    · have hne : L.flatMap MsgP.cells ≠ [] := fun h0 => hx (by
        rcases h2 : flatM ((Msgs L).take k) with _ | ⟨u, r⟩
        · rfl
        · have h3 := hsub 0 u (by rw [h2]; rfl)
          rw [h0] at h3; simp at h3)
      exact ⟨hb b off e hne, hb b off e hne⟩
  exact SliceIn.chg0 h0 (Chg.of_below hB)
theorem Sys.blkNil {w : World} {m : Nat → Thing} {l : List Thing} {n size : Nat} {T : TypeId} (h : Sys w m (blk n (.cells #[] T (0, 0)) :: l)) : Sys w m (own T size (.slice (some ⟨n, 0, none⟩) 0 0) 0 [] :: l) := by
  obtain ⟨F, ⟨hb, rfl⟩, h1, h2, h3⟩ := h.head
  refine h3 w _ ⟨fun j => (Value.slice (some ⟨n, 0, none⟩) 0 0).ownBlock = some j, ⟨⟨by simp, .inr ⟨n, 0, _, rfl, Nat.zero_le _, hb, Nat.le_refl _, Nat.zero_le _, by simp, by simp⟩⟩, rfl⟩, fun j hj => .inl ?_, Chg.refl _ _⟩
  cases hj; rfl
end
end Go.Proofs.Ytcfhkpjheemkgaa
