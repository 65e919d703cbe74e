/-
  The reference's Rising: a rising row with one more.
-/
import Derived.Test.YtjllejlgclfahaaAppend
namespace Go.Proofs.Ytjllejlgclfahaa
open Go.RowKit Go.MapKept

/-- One round of Rising: whether the new one has its place already, and what stands so far. -/
def stepR (n : Int) (s : Bool × List Int) (x : Int) : Bool × List Int :=
  ((if !s.1 && decide (n < x) then true else s.1) || (n == x), (if !s.1 && decide (n < x) then s.2 ++ [n] else s.2) ++ [x])
def runR (n : Int) (l : List Int) : Bool × List Int := l.foldl (stepR n) (false, [])
def insR (l : List Int) (n : Int) : List Int := if (runR n l).1 then (runR n l).2 else (runR n l).2 ++ [n]
theorem runR_snoc (n : Int) (l : List Int) (x : Int) : runR n (l ++ [x]) = stepR n (runR n l) x := by unfold runR; rw [List.foldl_append]; rfl
theorem runR_length (n : Int) (l : List Int) : (runR n l).2.length ≤ 2 * l.length := by
  suffices h : ∀ (l : List Int) (s : Bool × List Int), (l.foldl (stepR n) s).2.length ≤ s.2.length + 2 * l.length by simpa [runR] using h l (false, [])
  intro l
  induction l with
  | nil => intro s; simp
  | cons x l ih =>
    intro s
    rw [List.foldl_cons]
    have := ih (stepR n s x)
    have h2 : (stepR n s x).2.length ≤ s.2.length + 2 := by
      unfold stepR
      simp only [List.length_append, List.length_singleton]
      split <;> simp
    rw [List.length_cons]; omega
theorem runR_spec (n : Int) (l : List Int) (h : l.Pairwise (fun a b => a < b)) :
    (runR n l).1 = l.any (fun y => decide (n ≤ y)) ∧ (runR n l).2.Pairwise (fun a b => a < b) ∧ ∀ y, y ∈ (runR n l).2 ↔ y ∈ l ∨ ((runR n l).1 = true ∧ y = n) := by
  suffices H : ∀ k, k ≤ l.length → (runR n (l.take k)).1 = (l.take k).any (fun y => decide (n ≤ y)) ∧ (runR n (l.take k)).2.Pairwise (fun a b => a < b) ∧ ∀ y, y ∈ (runR n (l.take k)).2 ↔ y ∈ l.take k ∨ ((runR n (l.take k)).1 = true ∧ y = n) by
    have := H l.length (Nat.le_refl _)
    rwa [List.take_length] at this
  intro k
  induction k with
  | zero => intro _; simp [runR]
  | succ k ih =>
    intro hk
    obtain ⟨h1, h2, h3⟩ := ih (by omega)
    rw [List.take_succ_eq_append_getElem (by omega), runR_snoc]
    have hlt : ∀ y ∈ l.take k, y < l[k] := by
      intro y hy
      obtain ⟨j, hj, rfl⟩ := List.getElem_of_mem hy
      rw [List.length_take] at hj
      rw [List.getElem_take]
      exact List.pairwise_iff_getElem.1 h j k (by omega) (by omega) (by omega)
    generalize l[k] = x at *
    generalize l.take k = p at *
    generalize hr : runR n p = r at *
    obtain ⟨i, o⟩ := r
    simp only at h1 h2 h3
    unfold stepR
    simp only
    cases i with
    | true =>
      simp only [Bool.not_true, Bool.false_and, Bool.false_eq_true, if_false, Bool.true_or]
      refine ⟨?_, ?_, ?_⟩
      · rw [List.any_append, ← h1]; rfl
      · refine List.pairwise_append.2 ⟨h2, by simp, fun a ha b hb => ?_⟩
        simp at hb; subst hb
        rcases (h3 a).1 ha with ha | ⟨_, rfl⟩
        · exact hlt a ha
        · obtain ⟨y, hy, hny⟩ := List.any_eq_true.1 h1.symm
          have := hlt y hy
          simp at hny
          omega
      · intro y; rw [List.mem_append, List.mem_append, h3 y]
        constructor
        · rintro ((h | h) | h)
          · exact .inl (.inl h)
          · exact .inr ⟨by simp, h.2⟩
          · exact .inl (.inr h)
        · rintro ((h | h) | h)
          · exact .inl (.inl h)
          · exact .inr h
          · exact .inl (.inr ⟨rfl, h.2⟩)
    | false =>
      have hall : ∀ y ∈ p, y < n := by
        intro y hy
        have := List.any_eq_false.1 h1.symm y hy
        simp at this; omega
      by_cases hnx : n < x
      · simp only [Bool.not_false, Bool.true_and, hnx, decide_true, if_true, Bool.true_or]
        refine ⟨?_, ?_, ?_⟩
        · rw [List.any_append]; simp; right; omega
        · refine List.pairwise_append.2 ⟨List.pairwise_append.2 ⟨h2, by simp, fun a ha b hb => ?_⟩, by simp, fun a ha b hb => ?_⟩
          · simp at hb; subst hb
            rcases (h3 a).1 ha with ha | ⟨h, _⟩
            · exact hall a ha
            · cases h
          · simp at hb; subst hb
            rcases List.mem_append.1 ha with ha | ha
            · rcases (h3 a).1 ha with ha | ⟨h, _⟩
              · exact hlt a ha
              · cases h
            · simp at ha; subst ha; exact hnx
        · intro y; rw [List.mem_append, List.mem_append, List.mem_append, h3 y]
          constructor
          · rintro ((h | h) | h)
            · rcases h with h | h
              · exact .inl (.inl h)
              · cases h.1
            · exact .inr ⟨by simp, by simpa using h⟩
            · exact .inl (.inr h)
          · rintro ((h | h) | h)
            · exact .inl (.inl (.inl h))
            · exact .inr h
            · exact .inl (.inr (by simpa using h.2))
      · simp only [Bool.not_false, Bool.true_and, hnx, decide_false, Bool.false_eq_true, if_false, Bool.false_or]
        refine ⟨?_, ?_, ?_⟩
        · rw [List.any_append, ← h1]
          rw [Bool.eq_iff_iff]; simp; omega
        · refine List.pairwise_append.2 ⟨h2, by simp, fun a ha b hb => ?_⟩
          simp at hb; subst hb
          rcases (h3 a).1 ha with ha | ⟨h, _⟩
          · exact hlt a ha
          · cases h
        · intro y; rw [List.mem_append, List.mem_append, h3 y]
          constructor
          · rintro (h | h)
            · rcases h with h | h
              · exact .inl (.inl h)
              · cases h.1
            · exact .inl (.inr h)
          · rintro ((h | h) | h)
            · exact .inl (.inl h)
            · exact .inr h
            · have : n = x := by simpa using h.1
              exact .inr (by simp; omega)
theorem rising_ext {l l' : List Int} (h : l.Nodup) (h' : l'.Pairwise (fun a b => a < b)) (hm : ∀ x, x ∈ l ↔ x ∈ l') : rising l = l' := by
  have hn : l'.Nodup := h'.imp fun hab => by omega
  exact rising_eq ((List.perm_ext_iff_of_nodup h hn).2 hm) (h'.imp fun hab => by omega)
theorem insR_eq (l : List Int) (n : Int) (h : l.Nodup) : insR (rising l) n = rising (addTo l n) := by
  obtain ⟨h1, h2, h3⟩ := runR_spec n (rising l) (rising_lt h)
  symm
  unfold insR
  by_cases hi : (runR n (rising l)).1 = true
  · rw [if_pos hi]
    refine rising_ext (addTo_nodup h) h2 fun x => ?_
    rw [mem_addTo, h3 x, mem_rising]
    simp [hi]
  · rw [if_neg hi]
    have hi' : (runR n (rising l)).1 = false := by simpa using hi
    have hall : ∀ y ∈ rising l, y < n := by
      intro y hy
      rw [hi'] at h1
      have := List.any_eq_false.1 h1.symm y hy
      simp at this; omega
    have hm : ∀ y, y ∈ (runR n (rising l)).2 ↔ y ∈ l := by intro y; rw [h3 y, mem_rising]; simp [hi']
    refine rising_ext (addTo_nodup h) (List.pairwise_append.2 ⟨h2, by simp, fun a ha b hb => ?_⟩) fun x => ?_
    · simp at hb; subst hb
      exact hall a (mem_rising.2 ((hm a).1 ha))
    · rw [mem_addTo, List.mem_append, hm x]; simp

set_option maxRecDepth 100000 in
set_option maxHeartbeats 2000000 in
theorem rising_any (a1 : Option Addr) (l : List Int) (c1 : Nat) (n : Int) (w : World) (h1 : IntsAt w a1 l) (hb1 : l.length ≤ 100000) (hw1 : ∀ b off, a1 = some ⟨b, off, none⟩ → b < w.heap.size) :
    Calls Try.prog 63 #[.slice a1 l.length c1, .int .i64 n] w fun e w' => ∃ v, e = .returned v ∧ Own 3 1 w' v (insR l n).length ((insR l n).map (Value.int .i64)) ∧ (∀ k, v.ownBlock = some k → w.heap.size ≤ k) ∧ Below w.heap.size w w' := by
  obtain ⟨m, hm⟩ : ∃ m, m = l.length := ⟨_, rfl⟩
  rw [← hm]
  have hm2 : m ≤ 100000 := by omega
  have HM := Lib.hid hm
  have H1 := Lib.hid h1
  have HW := Lib.hid hw1
  clear hm h1 hw1 hb1
  go_enter Try.func63, Try.ntmps63
  go_wp2_with fail
  go_loopw [5, 6, 7] (fun out in_ i wr => ∃ (k : Nat), k ≤ m ∧ i = .int .i64 k ∧ in_ = .bool (runR n (l.take k)).1 ∧ Own 3 1 wr out (runR n (l.take k)).2.length ((runR n (l.take k)).2.map (Value.int .i64)) ∧ (∀ b, out.ownBlock = some b → w.heap.size ≤ b) ∧ Below w.heap.size w wr) (fun _ _ i _ => m - (intOf i).toNat)
  case atStart => exact ⟨0, by omega, rfl, rfl, Own.nil _ _ _, (by intro b hb; cases hb), Below.refl _ _⟩
  case round =>
    obtain ⟨k, hk, rfl, rfl, hown, hblk, hB⟩ := hrel
    rename_i v _ _
    have hlen : (runR n (l.take k)).2.length ≤ 2 * k := by
      have := runR_length n (l.take k)
      rw [List.length_take] at this; omega
    by_cases hlt : k < m
    · have hr := runR_snoc n (l.take k) (l.getD k 0)
      have hkl : k < l.length := by have := HM.out; omega
      have htk : l.take k ++ [l.getD k 0] = l.take (k + 1) := by
        rw [List.take_succ_eq_append_getElem hkl]; simp [List.getD, hkl]
      rw [htk] at hr
      have HR := Lib.hid hr
      have q1 : ∃ b off, a1 = some ⟨b, off, none⟩ ∧ b < w.heap.size ∧ w.cell? ⟨b, off + k, none⟩ = some (.int .i64 (l.getD k 0)) := by
        rcases H1.out with h | ⟨b, off, e, h⟩
        · rw [h] at hkl; simp at hkl
        · exact ⟨b, off, e, HW.out b off e, h k hkl⟩
      obtain ⟨xb, xo, rfl, hxb, hcw⟩ := q1
      have hc := (hB.cell (p := ⟨xb, xo + k, none⟩) hxb).trans hcw
      clear hr htk hkl
      generalize l.getD k 0 = x at hc HR hcw
      generalize hro : runR n (l.take k) = r at *
      obtain ⟨i, o⟩ := r
      have HRO := Lib.hid hro
      clear hro
      simp only at hown hlen
      have HC := Lib.hid hcw
      clear hcw
      cases i with
      | true =>
        have e1 : stepR n (true, o) x = (true, o ++ [x]) := by simp [stepR]
        rw [e1] at HR
        obtain ⟨v2, w2, ha, ho, hcg, hkk⟩ := own_append_int hown x (by omega) 37
        have hB2 : Below w.heap.size w w2 := hB.trans (hcg.below hB.size hblk)
        have hblk2 : ∀ b, v2.ownBlock = some b → w.heap.size ≤ b := by
          intro b hb
          rcases hkk with h | ⟨q, h, hq⟩
          · exact hblk b (h ▸ hb)
          · rw [h] at hb; cases hb; have := hB.size; omega
        have HO := Lib.hid ho
        clear hown hcg hkk ho e1 hblk
        go_wp2_with (at_builtin; refine wpl_append rfl _ _ _ rfl rfl rfl ha ?_)
        go_roundw
        case rel => exact ⟨k + 1, by omega, by go_num, by rw [HR.out], by rw [HR.out]; simpa using HO.out, hblk2, hB2⟩
        case measure => simp [intOf]; omega
      | false =>
        by_cases hnx : n < x
        · have e1 : stepR n (false, o) x = (true, o ++ [n] ++ [x]) := by simp [stepR, hnx]
          rw [e1] at HR
          obtain ⟨v2, w2, ha, ho, hcg, hkk⟩ := own_append_int hown n (by omega) 37
          have hB2 : Below w.heap.size w w2 := hB.trans (hcg.below hB.size hblk)
          have hblk2 : ∀ b, v2.ownBlock = some b → w.heap.size ≤ b := by
            intro b hb
            rcases hkk with h | ⟨q, h, hq⟩
            · exact hblk b (h ▸ hb)
            · rw [h] at hb; cases hb; have := hB.size; omega
          have hc2 := (hB2.cell (p := ⟨xb, xo + k, none⟩) hxb).trans HC.out
          obtain ⟨v3, w3, ha3, ho3, hcg3, hkk3⟩ := own_append_int ho x (by omega) 37
          have hB3 : Below w.heap.size w w3 := hB2.trans (hcg3.below hB2.size hblk2)
          have hblk3 : ∀ b, v3.ownBlock = some b → w.heap.size ≤ b := by
            intro b hb
            rcases hkk3 with h | ⟨q, h, hq⟩
            · exact hblk2 b (h ▸ hb)
            · rw [h] at hb; cases hb; have := hB2.size; omega
          have HO := Lib.hid ho3
          clear hown hcg hkk ho e1 hblk hcg3 hkk3 ho3 hblk2 hB2
          go_wp2_with (at_builtin; first | refine wpl_append rfl _ _ _ rfl rfl rfl ha ?_ | refine wpl_append rfl _ _ _ rfl rfl rfl ha3 ?_)
          go_roundw
          case rel => exact ⟨k + 1, by omega, by go_num, by rw [HR.out], by rw [HR.out]; simpa using HO.out, hblk3, hB3⟩
          case measure => simp [intOf]; omega
        · have hnx2 : decide (n < x) = false := by simpa using hnx
          have e1 : stepR n (false, o) x = (n == x, o ++ [x]) := by simp [stepR, hnx]
          rw [e1] at HR
          obtain ⟨v2, w2, ha, ho, hcg, hkk⟩ := own_append_int hown x (by omega) 37
          have hB2 : Below w.heap.size w w2 := hB.trans (hcg.below hB.size hblk)
          have hblk2 : ∀ b, v2.ownBlock = some b → w.heap.size ≤ b := by
            intro b hb
            rcases hkk with h | ⟨q, h, hq⟩
            · exact hblk b (h ▸ hb)
            · rw [h] at hb; cases hb; have := hB.size; omega
          have HO := Lib.hid ho
          have HNX := Lib.hid hnx
          clear hown hcg hkk ho e1 hblk hnx
          rcases hq : (n == x) with _ | _
          all_goals
            have HQ := Lib.hid hq
            go_wp2_with (at_builtin; refine wpl_append rfl _ _ _ rfl rfl rfl ha ?_)
            go_roundw
            case rel => exact ⟨k + 1, by omega, by go_num, by rw [HR.out, HQ.out], by rw [HR.out]; simpa using HO.out, hblk2, hB2⟩
            case measure => simp [intOf]; omega
    · have hkm : k = m := by omega
      have hle : (runR n (l.take k)) = runR n l := by rw [List.take_of_length_le (by have := HM.out; omega)]
      rw [hle] at hown hlen ⊢
      have HI : Hid (insR l n = if (runR n l).1 then (runR n l).2 else (runR n l).2 ++ [n]) := rfl
      clear hle
      generalize runR n l = r at *
      obtain ⟨i, o⟩ := r
      simp only at hown hlen
      cases i with
      | true =>
        have HO := Lib.hid hown
        clear hown
        go_wp2_with fail
        go_ret
        refine ⟨_, rfl, ?_, hblk, hB⟩
        rw [HI.out]; exact HO.out
      | false =>
        obtain ⟨v2, w2, ha, ho, hcg, hkk⟩ := own_append_int hown n (by omega) 37
        have hB2 : Below w.heap.size w w2 := hB.trans (hcg.below hB.size hblk)
        have hblk2 : ∀ b, v2.ownBlock = some b → w.heap.size ≤ b := by
          intro b hb
          rcases hkk with h | ⟨q, h, hq⟩
          · exact hblk b (h ▸ hb)
          · rw [h] at hb; cases hb; have := hB.size; omega
        have HO := Lib.hid ho
        clear hown hcg hkk ho hblk
        go_wp2_with (at_builtin; refine wpl_append rfl _ _ _ rfl rfl rfl ha ?_)
        go_ret
        refine ⟨_, rfl, ?_, hblk2, hB2⟩
        rw [HI.out]; simpa using HO.out
end Go.Proofs.Ytjllejlgclfahaa
