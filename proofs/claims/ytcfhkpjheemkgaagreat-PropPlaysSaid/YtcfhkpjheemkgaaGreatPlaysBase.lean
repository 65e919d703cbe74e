/-
  Rising, PlaysLaw, LawRows, Way, Cfg, PlaysMore as one text.
-/
import Derived.Test.YtcfhkpjheemkgaaGreatAppend
import Derived.Test.YtcfhkpjheemkgaaGreatFreshLaw
import Derived.Deep.DeepCutAuto
import Derived.Test.YtcfhkpjheemkgaaGreatBlok
namespace Go.Proofs.YtcfhkpjheemkgaaGreat
set_option linter.unusedSectionVars false
set_option linter.unnecessarySimpa false
set_option linter.unusedSimpArgs false
set_option linter.unusedVariables false
section
open Go.RowKit Go.MapKept

/-- One round of Rising: whether the new one has its place already, and what stands so far. -/
def stepR (n : Int) (s : Bool × List Int) (x : Int) : Bool × List Int :=
  ((if !s.1 && decide (n < x) then true else s.1) || (n == x), (if !s.1 && decide (n < x) then s.2 ++ [n] else s.2) ++ [x])
def runR (n : Int) (l : List Int) : Bool × List Int := l.foldl (stepR n) (false, [])
def insR (l : List Int) (n : Int) : List Int := if (runR n l).1 then (runR n l).2 else (runR n l).2 ++ [n]
theorem runR_snoc (n : Int) (l : List Int) (x : Int) : runR n (l ++ [x]) = stepR n (runR n l) x := by unfold runR; rw [List.foldl_append]; rfl
theorem runR_length (n : Int) (l : List Int) : (runR n l).2.length ≤ 2 * l.length := by
  suffices h : ∀ (l : List Int) (s : Bool × List Int), (l.foldl (stepR n) s).2.length ≤ s.2.length + 2 * l.length by simpa [runR] using h l (false, [])
  intro l
  induction l with
  | nil => intro s; simp
  | cons x l ih =>
    intro s
    rw [List.foldl_cons]
    have := ih (stepR n s x)
    have h2 : (stepR n s x).2.length ≤ s.2.length + 2 := by
      unfold stepR
      simp only [List.length_append, List.length_singleton]
      split <;> simp
    rw [List.length_cons]; omega
theorem runR_spec (n : Int) (l : List Int) (h : l.Pairwise (fun a b => a < b)) :
    (runR n l).1 = l.any (fun y => decide (n ≤ y)) ∧ (runR n l).2.Pairwise (fun a b => a < b) ∧ ∀ y, y ∈ (runR n l).2 ↔ y ∈ l ∨ ((runR n l).1 = true ∧ y = n) := by
  suffices H : ∀ k, k ≤ l.length → (runR n (l.take k)).1 = (l.take k).any (fun y => decide (n ≤ y)) ∧ (runR n (l.take k)).2.Pairwise (fun a b => a < b) ∧ ∀ y, y ∈ (runR n (l.take k)).2 ↔ y ∈ l.take k ∨ ((runR n (l.take k)).1 = true ∧ y = n) by
    have := H l.length (Nat.le_refl _)
    rwa [List.take_length] at this
  intro k
  induction k with
  | zero => intro _; simp [runR]
  | succ k ih =>
    intro hk
    obtain ⟨h1, h2, h3⟩ := ih (by omega)
    rw [List.take_succ_eq_append_getElem (by omega), runR_snoc]
    have hlt : ∀ y ∈ l.take k, y < l[k] := by
      intro y hy
      obtain ⟨j, hj, rfl⟩ := List.getElem_of_mem hy
      rw [List.length_take] at hj
      rw [List.getElem_take]
      exact List.pairwise_iff_getElem.1 h j k (by omega) (by omega) (by omega)
    generalize l[k] = x at *
    generalize l.take k = p at *
    generalize hr : runR n p = r at *
    obtain ⟨i, o⟩ := r
    simp only at h1 h2 h3
    unfold stepR
    simp only
    cases i with
    | true =>
      simp only [Bool.not_true, Bool.false_and, Bool.false_eq_true, if_false, Bool.true_or]
      refine ⟨?_, ?_, ?_⟩
      · rw [List.any_append, ← h1]; rfl
      · refine List.pairwise_append.2 ⟨h2, by simp, fun a ha b hb => ?_⟩
        simp at hb; subst hb
        rcases (h3 a).1 ha with ha | ⟨_, rfl⟩
        · exact hlt a ha
        · obtain ⟨y, hy, hny⟩ := List.any_eq_true.1 h1.symm
          have := hlt y hy
          simp at hny
          omega
      · intro y; rw [List.mem_append, List.mem_append, h3 y]
        constructor
        · rintro ((h | h) | h)
          · exact .inl (.inl h)
          · exact .inr ⟨by simp, h.2⟩
          · exact .inl (.inr h)
        · rintro ((h | h) | h)
          · exact .inl (.inl h)
          · exact .inr h
          · exact .inl (.inr ⟨rfl, h.2⟩)
    | false =>
      have hall : ∀ y ∈ p, y < n := by
        intro y hy
        have := List.any_eq_false.1 h1.symm y hy
        simp at this; omega
      by_cases hnx : n < x
      · simp only [Bool.not_false, Bool.true_and, hnx, decide_true, if_true, Bool.true_or]
        refine ⟨?_, ?_, ?_⟩
        · rw [List.any_append]; simp; right; omega
        · refine List.pairwise_append.2 ⟨List.pairwise_append.2 ⟨h2, by simp, fun a ha b hb => ?_⟩, by simp, fun a ha b hb => ?_⟩
          · simp at hb; subst hb
            rcases (h3 a).1 ha with ha | ⟨h, _⟩
            · exact hall a ha
            · cases h
          · simp at hb; subst hb
            rcases List.mem_append.1 ha with ha | ha
            · rcases (h3 a).1 ha with ha | ⟨h, _⟩
              · exact hlt a ha
              · cases h
            · simp at ha; subst ha; exact hnx
        · intro y; rw [List.mem_append, List.mem_append, List.mem_append, h3 y]
          constructor
          · rintro ((h | h) | h)
            · rcases h with h | h
              · exact .inl (.inl h)
              · cases h.1
            · exact .inr ⟨by simp, by simpa using h⟩
            · exact .inl (.inr h)
          · rintro ((h | h) | h)
            · exact .inl (.inl (.inl h))
            · exact .inr h
            · exact .inl (.inr (by simpa using h.2))
      · simp only [Bool.not_false, Bool.true_and, hnx, decide_false, Bool.false_eq_true, if_false, Bool.false_or]
        refine ⟨?_, ?_, ?_⟩
        · rw [List.any_append, ← h1]
          rw [Bool.eq_iff_iff]; simp; omega
        · refine List.pairwise_append.2 ⟨h2, by simp, fun a ha b hb => ?_⟩
          simp at hb; subst hb
          rcases (h3 a).1 ha with ha | ⟨h, _⟩
          · exact hlt a ha
          · cases h
        · intro y; rw [List.mem_append, List.mem_append, h3 y]
          constructor
          · rintro (h | h)
            · rcases h with h | h
              · exact .inl (.inl h)
              · cases h.1
            · exact .inl (.inr h)
          · rintro ((h | h) | h)
            · exact .inl (.inl h)
            · exact .inr h
            · have : n = x := by simpa using h.1
              exact .inr (by simp; omega)
theorem rising_ext {l l' : List Int} (h : l.Nodup) (h' : l'.Pairwise (fun a b => a < b)) (hm : ∀ x, x ∈ l ↔ x ∈ l') : rising l = l' := by
  have hn : l'.Nodup := h'.imp fun hab => by omega
  exact rising_eq ((List.perm_ext_iff_of_nodup h hn).2 hm) (h'.imp fun hab => by omega)
theorem insR_eq (l : List Int) (n : Int) (h : l.Nodup) : insR (rising l) n = rising (addTo l n) := by
  obtain ⟨h1, h2, h3⟩ := runR_spec n (rising l) (rising_lt h)
  symm
  unfold insR
  by_cases hi : (runR n (rising l)).1 = true
  · rw [if_pos hi]
    refine rising_ext (addTo_nodup h) h2 fun x => ?_
    rw [mem_addTo, h3 x, mem_rising]
    simp [hi]
  · rw [if_neg hi]
    have hi' : (runR n (rising l)).1 = false := by simpa using hi
    have hall : ∀ y ∈ rising l, y < n := by
      intro y hy
      rw [hi'] at h1
      have := List.any_eq_false.1 h1.symm y hy
      simp at this; omega
    have hm : ∀ y, y ∈ (runR n (rising l)).2 ↔ y ∈ l := by intro y; rw [h3 y, mem_rising]; simp [hi']
    refine rising_ext (addTo_nodup h) (List.pairwise_append.2 ⟨h2, by simp, fun a ha b hb => ?_⟩) fun x => ?_
    · simp at hb; subst hb
      exact hall a (mem_rising.2 ((hm a).1 ha))
    · rw [mem_addTo, List.mem_append, hm x]; simp

set_option maxRecDepth 100000 in
set_option maxHeartbeats 2000000 in
theorem rising_any (a1 : Option Addr) (l : List Int) (c1 : Nat) (n : Int) (w : World) (h1 : IntsAt w a1 l) (hb1 : l.length ≤ 100000) (hw1 : ∀ b off, a1 = some ⟨b, off, none⟩ → b < w.heap.size) :
    Calls Tryz.prog 27 #[.slice a1 l.length c1, .int .i64 n] w fun e w' => ∃ v, e = .returned v ∧ Own 3 1 w' v (insR l n).length ((insR l n).map (Value.int .i64)) ∧ (∀ k, v.ownBlock = some k → w.heap.size ≤ k) ∧ Below w.heap.size w w' := by
  obtain ⟨m, hm⟩ : ∃ m, m = l.length := ⟨_, rfl⟩
  rw [← hm]
  have hm2 : m ≤ 100000 := by omega
  have HM := Lib.hid hm
  have H1 := Lib.hid h1
  have HW := Lib.hid hw1
  clear hm h1 hw1 hb1
  go_enter Tryz.func27, Tryz.ntmps27
  go_wp2_with fail
  go_loopw [5, 6, 7] (fun out in_ i wr => ∃ (k : Nat), k ≤ m ∧ i = .int .i64 k ∧ in_ = .bool (runR n (l.take k)).1 ∧ Own 3 1 wr out (runR n (l.take k)).2.length ((runR n (l.take k)).2.map (Value.int .i64)) ∧ (∀ b, out.ownBlock = some b → w.heap.size ≤ b) ∧ Below w.heap.size w wr) (fun _ _ i _ => m - (intOf i).toNat)
  case atStart => exact ⟨0, by omega, rfl, rfl, Own.nil _ _ _, (by intro b hb; cases hb), Below.refl _ _⟩
  case round =>
    obtain ⟨k, hk, rfl, rfl, hown, hblk, hB⟩ := hrel
    rename_i v _ _
    have hlen : (runR n (l.take k)).2.length ≤ 2 * k := by
      have := runR_length n (l.take k)
      rw [List.length_take] at this; omega
    by_cases hlt : k < m
    · have hr := runR_snoc n (l.take k) (l.getD k 0)
      have hkl : k < l.length := by have := HM.out; omega
      have htk : l.take k ++ [l.getD k 0] = l.take (k + 1) := by
        rw [List.take_succ_eq_append_getElem hkl]; simp [List.getD, hkl]
      rw [htk] at hr
      have HR := Lib.hid hr
      have q1 : ∃ b off, a1 = some ⟨b, off, none⟩ ∧ b < w.heap.size ∧ w.cell? ⟨b, off + k, none⟩ = some (.int .i64 (l.getD k 0)) := by
        rcases H1.out with h | ⟨b, off, e, h⟩
        · rw [h] at hkl; simp at hkl
        · exact ⟨b, off, e, HW.out b off e, h k hkl⟩
      obtain ⟨xb, xo, rfl, hxb, hcw⟩ := q1
      have hc := (hB.cell (p := ⟨xb, xo + k, none⟩) hxb).trans hcw
      clear hr htk hkl
      generalize l.getD k 0 = x at hc HR hcw
      generalize hro : runR n (l.take k) = r at *
      obtain ⟨i, o⟩ := r
      have HRO := Lib.hid hro
      clear hro
      simp only at hown hlen
      have HC := Lib.hid hcw
      clear hcw
      cases i with
      | true =>
        have e1 : stepR n (true, o) x = (true, o ++ [x]) := by simp [stepR]
        rw [e1] at HR
        obtain ⟨v2, w2, ha, ho, hcg, hkk⟩ := own_append_int hown x (by omega) 32
        have hB2 : Below w.heap.size w w2 := hB.trans (hcg.below hB.size hblk)
        have hblk2 : ∀ b, v2.ownBlock = some b → w.heap.size ≤ b := by
          intro b hb
          rcases hkk with h | ⟨q, h, hq⟩
          · exact hblk b (h ▸ hb)
          · rw [h] at hb; cases hb; have := hB.size; omega
        have HO := Lib.hid ho
        clear hown hcg hkk ho e1 hblk
        go_wp2_with (at_builtin; refine wpl_append rfl _ _ _ rfl rfl rfl ha ?_)
        go_roundw
        case rel => exact ⟨k + 1, by omega, by go_num, by rw [HR.out], by rw [HR.out]; simpa using HO.out, hblk2, hB2⟩
        case measure => simp [intOf]; omega
      | false =>
        by_cases hnx : n < x
        · have e1 : stepR n (false, o) x = (true, o ++ [n] ++ [x]) := by simp [stepR, hnx]
          rw [e1] at HR
          obtain ⟨v2, w2, ha, ho, hcg, hkk⟩ := own_append_int hown n (by omega) 32
          have hB2 : Below w.heap.size w w2 := hB.trans (hcg.below hB.size hblk)
          have hblk2 : ∀ b, v2.ownBlock = some b → w.heap.size ≤ b := by
            intro b hb
            rcases hkk with h | ⟨q, h, hq⟩
            · exact hblk b (h ▸ hb)
            · rw [h] at hb; cases hb; have := hB.size; omega
          have hc2 := (hB2.cell (p := ⟨xb, xo + k, none⟩) hxb).trans HC.out
          obtain ⟨v3, w3, ha3, ho3, hcg3, hkk3⟩ := own_append_int ho x (by omega) 32
          have hB3 : Below w.heap.size w w3 := hB2.trans (hcg3.below hB2.size hblk2)
          have hblk3 : ∀ b, v3.ownBlock = some b → w.heap.size ≤ b := by
            intro b hb
            rcases hkk3 with h | ⟨q, h, hq⟩
            · exact hblk2 b (h ▸ hb)
            · rw [h] at hb; cases hb; have := hB2.size; omega
          have HO := Lib.hid ho3
          clear hown hcg hkk ho e1 hblk hcg3 hkk3 ho3 hblk2 hB2
          go_wp2_with (at_builtin; first | refine wpl_append rfl _ _ _ rfl rfl rfl ha ?_ | refine wpl_append rfl _ _ _ rfl rfl rfl ha3 ?_)
          go_roundw
          case rel => exact ⟨k + 1, by omega, by go_num, by rw [HR.out], by rw [HR.out]; simpa using HO.out, hblk3, hB3⟩
          case measure => simp [intOf]; omega
        · have hnx2 : decide (n < x) = false := by simpa using hnx
          have e1 : stepR n (false, o) x = (n == x, o ++ [x]) := by simp [stepR, hnx]
          rw [e1] at HR
          obtain ⟨v2, w2, ha, ho, hcg, hkk⟩ := own_append_int hown x (by omega) 32
          have hB2 : Below w.heap.size w w2 := hB.trans (hcg.below hB.size hblk)
          have hblk2 : ∀ b, v2.ownBlock = some b → w.heap.size ≤ b := by
            intro b hb
            rcases hkk with h | ⟨q, h, hq⟩
            · exact hblk b (h ▸ hb)
            · rw [h] at hb; cases hb; have := hB.size; omega
          have HO := Lib.hid ho
          have HNX := Lib.hid hnx
          clear hown hcg hkk ho e1 hblk hnx
          rcases hq : (n == x) with _ | _
          all_goals
            have HQ := Lib.hid hq
            go_wp2_with (at_builtin; refine wpl_append rfl _ _ _ rfl rfl rfl ha ?_)
            go_roundw
            case rel => exact ⟨k + 1, by omega, by go_num, by rw [HR.out, HQ.out], by rw [HR.out]; simpa using HO.out, hblk2, hB2⟩
            case measure => simp [intOf]; omega
    · have hkm : k = m := by omega
      have hle : (runR n (l.take k)) = runR n l := by rw [List.take_of_length_le (by have := HM.out; omega)]
      rw [hle] at hown hlen ⊢
      have HI : Hid (insR l n = if (runR n l).1 then (runR n l).2 else (runR n l).2 ++ [n]) := rfl
      clear hle
      generalize runR n l = r at *
      obtain ⟨i, o⟩ := r
      simp only at hown hlen
      cases i with
      | true =>
        have HO := Lib.hid hown
        clear hown
        go_wp2_with fail
        go_ret
        refine ⟨_, rfl, ?_, hblk, hB⟩
        rw [HI.out]; exact HO.out
      | false =>
        obtain ⟨v2, w2, ha, ho, hcg, hkk⟩ := own_append_int hown n (by omega) 32
        have hB2 : Below w.heap.size w w2 := hB.trans (hcg.below hB.size hblk)
        have hblk2 : ∀ b, v2.ownBlock = some b → w.heap.size ≤ b := by
          intro b hb
          rcases hkk with h | ⟨q, h, hq⟩
          · exact hblk b (h ▸ hb)
          · rw [h] at hb; cases hb; have := hB.size; omega
        have HO := Lib.hid ho
        clear hown hcg hkk ho hblk
        go_wp2_with (at_builtin; refine wpl_append rfl _ _ _ rfl rfl rfl ha ?_)
        go_ret
        refine ⟨_, rfl, ?_, hblk2, hB2⟩
        rw [HI.out]; simpa using HO.out
end
section
open Go.RowKit Go.MapKept

def eP (i : Nat) : EnvX := ⟨(i : Int) % 4, (i : Int) / 4, 1, (i : Int) + 1⟩
def fewP (j : Nat) : List EnvX := (List.range j).map eP
theorem fewP_snoc (j : Nat) : fewP (j + 1) = fewP j ++ [eP j] := by unfold fewP; rw [List.range_succ, List.map_append]; rfl
theorem fewP_length (j : Nat) : (fewP j).length = j := by simp [fewP]
theorem fewP_mem {j : Nat} {e : EnvX} : e ∈ fewP j ↔ ∃ i, i < j ∧ e = eP i := by
  unfold fewP
  rw [List.mem_map]
  exact ⟨fun ⟨i, hi, he⟩ => ⟨i, List.mem_range.1 hi, he.symm⟩, fun ⟨i, hi, he⟩ => ⟨i, List.mem_range.2 hi, he.symm⟩⟩
theorem fewP_mono {j k : Nat} (h : j ≤ k) {e : EnvX} (he : e ∈ fewP j) : e ∈ fewP k := by
  obtain ⟨i, hi, rfl⟩ := fewP_mem.1 he
  exact fewP_mem.2 ⟨i, by omega, rfl⟩
theorem fewP_get {j n : Nat} (h : j < n) : (fewP n).getD j default = eP j := by
  have : j < (fewP n).length := by rw [fewP_length]; exact h
  rw [List.getD_eq_getElem?_getD, List.getElem?_eq_getElem this, Option.getD_some]
  simp [fewP]
theorem eP_wf (j : Nat) (h : j < 6) : (eP j).wf := ⟨⟨by show (0 : Int) ≤ (j : Int) / 4; omega, by show (j : Int) / 4 < 18446744073709551616; omega⟩, ⟨by show (0 : Int) ≤ 1; decide, by show (1 : Int) < 18446744073709551616; decide⟩, wf_mk (by show (_ : Int) ≤ (j : Int) % 4; omega) (by show (j : Int) % 4 ≤ _; omega), wf_mk (by show (_ : Int) ≤ (j : Int) + 1; omega) (by show (j : Int) + 1 ≤ _; omega)⟩
theorem fewP_wf {e : EnvX} (h : e ∈ fewP 6) : e.wf := by
  obtain ⟨i, hi, rfl⟩ := fewP_mem.1 h
  exact eP_wf i hi
theorem eP_inj {i j : Nat} (h : eP i = eP j) : i = j := by
  have : (i : Int) + 1 = (j : Int) + 1 := congrArg EnvX.cipher h
  omega
theorem envB6 : ((fewP 6).map envB).Nodup := by decide +kernel
theorem envB_injP {e x : EnvX} (he : e ∈ fewP 6) (hx : x ∈ fewP 6) (h : envB e = envB x) : e = x := by
  obtain ⟨i, hi, rfl⟩ := fewP_mem.1 he
  obtain ⟨j, hj, rfl⟩ := fewP_mem.1 hx
  have hi2 : i < ((fewP 6).map envB).length := by simp [fewP]; exact hi
  have hj2 : j < ((fewP 6).map envB).length := by simp [fewP]; exact hj
  have : i = j := (List.getElem_inj (h₀ := hi2) (h₁ := hj2) envB6).1 (by simp [fewP]; exact h)
  rw [this]
theorem envB_tag (e : EnvX) : (envB e).getD 7 0 = 3 := rfl
theorem digest_T {X : WX} {x : List UInt8} : (X.digest x).T = addT X.T x := rfl

structure EW (X : WX) (LP : List EnvX) (j : Nat) : Prop where
  ok : X.Ok
  c : X.C.length = j
  len : X.T.length ≤ 1 + j
  root : rootB ∈ X.T
  rt : dg X.T rootB = 1
  few : ∀ e ∈ fewP j, envB e ∈ X.T ∧ okE X e = true
  lp : ∀ e ∈ LP, e ∈ fewP j
  nd : LP.Nodup
  lpl : LP.length ≤ j
  tag : ∀ y ∈ X.T, y.getD 7 0 ≠ 5
theorem addT_len (T : List (List UInt8)) (x : List UInt8) : (addT T x).length ≤ T.length + 1 := by unfold addT; split <;> simp
theorem EW.start : EW A1 [] 0 := by
  refine ⟨?_, rfl, by decide +kernel, by decide +kernel, by decide +kernel, fun e he => (by cases he), fun e he => (by cases he), List.nodup_nil, Nat.le_refl _, by decide +kernel⟩
  exact (A0.ext_digest rootB).ok (fun d _ => rfl)
theorem EW.made {X : WX} {LP : List EnvX} {j : Nat} (h : EW X LP j) : EW (X.made (eP j) []) LP (j + 1) := by
  have hS := signB_ok h.ok (1000 + (eP j).client) (envB (eP j))
  have hsg : ∀ y, sg (X.made (eP j) []) y = if y = envB (eP j) then addTo (sg X (envB (eP j))) (1000 + (eP j).client) else sg X y := fun y => sg_signB h.ok _ _ y
  have hT : (X.made (eP j) []).T = addT X.T (envB (eP j)) := rfl
  refine ⟨hS, ?_, ?_, ?_, ?_, fun e he => ?_, fun e he => fewP_mono (by omega) (h.lp e he), h.nd, by have := h.lpl; omega, fun y hy => ?_⟩
  · show (X.C ++ [_]).length = _; rw [List.length_append, h.c]; rfl
  · rw [hT]; have := addT_len X.T (envB (eP j)); have := h.len; omega
  · rw [hT]; exact mem_addT.2 (.inl h.root)
  · rw [hT, dg_addT (.inl h.root)]; exact h.rt
  · rw [fewP_snoc, List.mem_append] at he
    have hcl : (0 : Int) ≤ (eP j).client ∧ (eP j).client ≤ 999 := ⟨by show (0 : Int) ≤ (j : Int) % 4; omega, by show (j : Int) % 4 ≤ 999; omega⟩
    rcases he with he | he
    · obtain ⟨h1, h2⟩ := h.few e he
      refine ⟨by rw [hT]; exact mem_addT.2 (.inl h1), ?_⟩
      unfold okE at h2 ⊢
      simp only [decide_eq_true_eq] at h2 ⊢
      refine ⟨h2.1, ?_⟩
      rw [hsg]
      split
      · rename_i e1
        rw [e1] at h2
        exact mem_addTo.2 (.inl h2.2)
      · exact h2.2
    · obtain rfl : e = eP j := by simpa using he
      refine ⟨by rw [hT]; exact mem_addT.2 (.inr rfl), ?_⟩
      unfold okE
      simp only [decide_eq_true_eq]
      refine ⟨hcl, ?_⟩
      rw [hsg, if_pos rfl]
      exact mem_addTo.2 (.inr rfl)
  · rw [hT] at hy
    rcases mem_addT.1 hy with hy | rfl
    · exact h.tag y hy
    · rw [envB_tag]; decide
theorem EW.dig {X : WX} {LP : List EnvX} {j : Nat} (h : EW X LP (j + 1)) : X.digest (envB (eP j)) = X := digest_in (h.few _ (by rw [fewP_snoc]; simp)).1
theorem EW.put {X : WX} {LP : List EnvX} {j : Nat} (h : EW (X.made (eP j) []) LP (j + 1)) (h0 : EW X LP j) (k : Int) : EW (X.made (eP j) []) (if k = 0 then LP ++ [eP j] else LP) (j + 1) := by
  split
  · refine ⟨h.ok, h.c, h.len, h.root, h.rt, h.few, fun e he => ?_, ?_, by rw [List.length_append]; have := h0.lpl; simp; omega, h.tag⟩
    · rcases List.mem_append.1 he with he | he
      · exact h.lp e he
      · obtain rfl : e = eP j := by simpa using he
        rw [fewP_snoc]; simp
    · rw [List.nodup_append]
      refine ⟨h.nd, by simp, fun a ha b hb => ?_⟩
      obtain rfl : b = eP j := by simpa using hb
      obtain ⟨i, hi, rfl⟩ := fewP_mem.1 (h0.lp a ha)
      exact fun e => by have := eP_inj e; omega
  · exact h
theorem feesP {L : List EnvX} {e : EnvX} (he : e.fee = 1) (hL : ∀ x ∈ L, x.fee = 1) : (∀ a ∈ feesL e L, 0 ≤ a) ∧ (feesL e L).sum ≤ (L.length : Int) + 1 := by
  have h1 : ∀ a ∈ feesL e L, a = 1 := by
    intro a ha
    unfold feesL at ha
    rcases List.mem_cons.1 ha with rfl | ha
    · exact he
    · obtain ⟨x, hx, rfl⟩ := List.mem_map.1 ha
      exact hL x (List.mem_filter.1 hx).1
  have h2 : ∀ M : List Int, (∀ a ∈ M, a = 1) → M.sum = M.length := by
    intro M
    induction M with
    | nil => intro _; rfl
    | cons a M ih =>
      intro hM
      rw [List.sum_cons, hM a (.head _), ih fun x hx => hM x (.tail _ hx), List.length_cons]
      omega
  refine ⟨fun a ha => by rw [h1 a ha]; decide, ?_⟩
  rw [h2 _ h1]
  unfold feesL
  rw [List.length_cons, List.length_map]
  have := List.length_filter_le (fun x => decide (x.client = e.client)) L
  omega
theorem EW.fee {X : WX} {LP : List EnvX} {j : Nat} (h : EW X LP j) : ∀ x ∈ LP, x.fee = 1 := by
  intro x hx
  obtain ⟨i, _, rfl⟩ := fewP_mem.1 (h.lp x hx)
  rfl

-- maps by keys
section
variable {α : Type} {T : List (Int × α)} {x D : Int} {b : α}
theorem alook_app : alook (T ++ [(D, b)]) x = match alook T x with | some v => some v | none => if D = x then some b else none := by
  induction T with
  | nil => simp [alook]
  | cons a T ih =>
    simp only [List.cons_append, alook]
    by_cases h : a.1 = x
    · rw [if_pos h, if_pos h]
    · rw [if_neg h, if_neg h]; exact ih
theorem alook_key : (alook T x).isSome = true ↔ x ∈ T.map (·.1) := by
  constructor
  · intro h
    apply Classical.byContradiction
    intro hn
    rw [alook_none.2 hn] at h
    cases h
  · intro h
    cases e : alook T x with
    | none => exact (alook_none.1 e h).elim
    | some v => rfl
theorem alook_idx (hn : (T.map (·.1)).Nodup) (i : Nat) (h : i < T.length) : alook T (T[i]'h).1 = some (T[i]'h).2 := alook_of_mem hn (List.getElem_mem h)
end
/-- The tree of blocks that the law lays: k blocks on the root. -/
structure TW (X : WX) (T : List (Int × BlkX)) (k : Nat) : Prop where
  len : T.length = k + 1
  k12 : k ≤ 12
  ok : X.Ok
  xt : X.T.length ≤ 8 + k
  root : rootB ∈ X.T
  rt : dg X.T rootB = 1
  inv : TreeInv T 1
  vw : ∀ x, (bk T x).view ≤ 2 * (k : Int)
  envs : ∀ x, (∀ e ∈ (bk T x).envs, e ∈ fewP 6) ∧ (bk T x).envs.length ≤ 6
  few : ∀ e ∈ fewP 6, envB e ∈ X.T ∧ okE X e = true
  key : ∀ t ∈ T, t.1 ≤ (X.T.length : Int)
  nd : (T.map (·.1)).Nodup
  head : T[0]? = some (1, zeroBlk)
  by_ : ∀ x, (bk T x).by_ = []
  par : ∀ i (h : i < T.length), 0 < i → ∃ j, ∃ h2 : j < T.length, j < i ∧ (T[i]'h).2.jb = (T[j]'h2).1
  tag : ∀ y ∈ X.T, y.getD 7 0 = 5 → ∃ j : Nat, j < k ∧ (y.drop 21).take 8 = intB (j : Int)
theorem TW.start {X : WX} {LP : List EnvX} (h : EW X LP 6) : TW X [(1, zeroBlk)] 0 where
  len := rfl
  k12 := by omega
  ok := h.ok
  xt := by have := h.len; omega
  root := h.root
  rt := h.rt
  inv := tree1_inv 1
  vw := fun x => by rw [bk_nil]; decide
  envs := fun x => by rw [bk_nil]; exact ⟨fun e he => (by cases he), Nat.zero_le _⟩
  few := h.few
  key := fun t ht => by
    obtain rfl : t = (1, zeroBlk) := by simpa using ht
    have := List.length_pos_of_mem h.root
    show (1 : Int) ≤ _
    omega
  nd := by simp
  head := rfl
  by_ := fun x => by rw [bk_nil]; rfl
  par := fun i h h0 => by simp at h; omega
  tag := fun y hy h5 => (h.tag y hy h5).elim
theorem blockB_tag5 (X : WX) (b : BlkX) : (blockB X b).getD 7 0 = 5 := rfl
theorem blockB_au (X : WX) (b : BlkX) : ((blockB X b).drop 21).take 8 = intB b.author := rfl
section
variable {X : WX} {T : List (Int × BlkX)} {k : Nat}
theorem TW.bk_get (h : TW X T k) (i : Nat) (hi : i < T.length) : bk T (T[i]'hi).1 = (T[i]'hi).2 := by unfold bk; rw [alook_idx h.nd i hi]; rfl
theorem TW.some_ (h : TW X T k) (i : Nat) (hi : i < T.length) : (alook T (T[i]'hi).1).isSome = true := by rw [alook_idx h.nd i hi]; rfl
theorem TW.idx (_ : TW X T k) {x : Int} (hx : (alook T x).isSome = true) : ∃ i, ∃ hi : i < T.length, (T[i]'hi).1 = x := by
  rw [alook_key] at hx
  obtain ⟨t, ht, rfl⟩ := List.mem_map.1 hx
  obtain ⟨i, hi, rfl⟩ := List.mem_iff_getElem.1 ht
  exact ⟨i, hi, rfl⟩
theorem TW.key_inj (h : TW X T k) {i j : Nat} (hi : i < T.length) (hj : j < T.length) (e : (T[i]'hi).1 = (T[j]'hj).1) : i = j := by
  have hi2 : i < (T.map (·.1)).length := by rw [List.length_map]; exact hi
  have hj2 : j < (T.map (·.1)).length := by rw [List.length_map]; exact hj
  exact (List.getElem_inj (h₀ := hi2) (h₁ := hj2) h.nd).1 (by simpa using e)
theorem TW.blk_out (h : TW X T k) (b : BlkX) (hb : b.author = (k : Int)) : blockB X b ∉ X.T := by
  intro hm
  obtain ⟨j, hj, e⟩ := h.tag _ hm (blockB_tag5 X b)
  rw [blockB_au, hb] at e
  have := h.k12
  have := intB_inj (wf_mk (by omega) (by omega)) (wf_mk (by omega) (by omega)) e
  omega
theorem TW.eX (h : TW X T k) {b : BlkX} (he : ∀ e ∈ b.envs, e ∈ fewP 6) : envsX X b.envs = X := envsX_in _ fun e hm => (h.few e (he e hm)).1
theorem TW.bX (h : TW X T k) {b : BlkX} (he : ∀ e ∈ b.envs, e ∈ fewP 6) : blkX X b = X.digest (blockB X b) := by unfold blkX; rw [h.eX he]
theorem TW.bD (h : TW X T k) {b : BlkX} (hb : b.author = (k : Int)) (he : ∀ e ∈ b.envs, e ∈ fewP 6) : blkD X b = (X.T.length : Int) + 1 := by unfold blkD; rw [h.eX he, dg_out (h.blk_out b hb)]
theorem TW.fresh (h : TW X T k) {b : BlkX} (hb : b.author = (k : Int)) (he : ∀ e ∈ b.envs, e ∈ fewP 6) : (alook T (blkD X b)).isSome = false := by
  rw [Bool.eq_false_iff]
  intro hs
  obtain ⟨i, hi, e⟩ := h.idx hs
  have := h.key _ (List.getElem_mem hi)
  rw [e, h.bD hb he] at this
  omega
theorem bk_snoc {D : Int} {b : BlkX} (hD : (alook T D).isSome = false) (x : Int) : bk (T ++ [(D, b)]) x = if x = D then b else bk T x := by
  unfold bk
  rw [alook_app]
  by_cases hx : x = D
  · subst hx
    rw [if_pos rfl]
    cases e : alook T x with
    | none => simp
    | some v => rw [e] at hD; cases hD
  · rw [if_neg hx]
    cases e : alook T x with
    | none => simp only; rw [if_neg (fun h => hx h.symm)]
    | some v => rfl
/-- One block more, on any of those that are there. -/
theorem TW.add (h : TW X T k) (hk : k < 12) (on : Nat) (hon : on < T.length) (s : Int) (hs : s = 0 ∨ s = 1) (E : List EnvX) (hE : ∀ e ∈ E, e ∈ fewP 6) (hEl : E.length ≤ 6) (b : BlkX)
    (hb : b = ⟨(T[on]'hon).2.view + 1 + s, (k : Int), (T[on]'hon).2.view, (T[on]'hon).1, [], E⟩) : TW (blkX X b) (T ++ [(blkD X b, b)]) (k + 1) := by
  have ha : b.author = (k : Int) := by rw [hb]
  have he : ∀ e ∈ b.envs, e ∈ fewP 6 := by rw [hb]; exact hE
  have hfr := h.fresh ha he
  have hx := bk_snoc (b := b) hfr
  have hon1 := h.some_ on hon
  have hon2 := h.bk_get on hon
  have hne : (T[on]'hon).1 ≠ blkD X b := by intro e; rw [e, hfr] at hon1; cases hon1
  have hext := X.ext_digest (blockB X b)
  have hsome : ∀ x, (alook T x).isSome = true → (alook (T ++ [(blkD X b, b)]) x).isSome = true := by
    intro x hx
    rw [alook_app]
    cases e : alook T x with
    | none => rw [e] at hx; cases hx
    | some v => rfl
  have hvon : 0 ≤ (T[on]'hon).2.view ∧ (T[on]'hon).2.view ≤ 2 * (k : Int) := by rw [← hon2]; exact ⟨h.inv.1 _, h.vw _⟩
  rw [h.bX he]
  refine ⟨by rw [List.length_append, h.len]; rfl, by omega, hext.ok h.ok, by have := hext.len.2; have := h.xt; omega, hext.mem h.root, by rw [hext.dg h.root, h.rt], ⟨fun x => ?_, fun x hsx hr => ?_⟩, fun x => ?_, fun x => ?_, fun e hm => ⟨hext.mem (h.few e hm).1, by rw [okE_ext h.ok hext]; exact (h.few e hm).2⟩, fun t ht => ?_, ?_, ?_, fun x => ?_, fun i hi h0 => ?_, fun y hy h5 => ?_⟩
  · rw [hx]
    split
    · rw [hb]; show 0 ≤ (T[on]'hon).2.view + 1 + s; omega
    · exact h.inv.1 x
  · by_cases hxD : x = blkD X b
    · rw [hx x, if_pos hxD, hx, show b.jb = (T[on]'hon).1 by rw [hb], if_neg hne]
      refine ⟨hsome _ hon1, ?_⟩
      rw [hon2, hb]
      show (T[on]'hon).2.view < (T[on]'hon).2.view + 1 + s
      omega
    · have hsx' : (alook T x).isSome = true := by
        rw [alook_app] at hsx
        cases e : alook T x with
        | none => rw [e] at hsx; simp only [if_neg (fun h => hxD (Eq.symm h))] at hsx; cases hsx
        | some v => rfl
      obtain ⟨g1, g2⟩ := h.inv.2 x hsx' hr
      have hj : (bk T x).jb ≠ blkD X b := by intro e; rw [e, hfr] at g1; cases g1
      rw [hx x, if_neg hxD, hx, if_neg hj]
      exact ⟨hsome _ g1, g2⟩
  · rw [hx]
    split
    · rw [hb]; show (T[on]'hon).2.view + 1 + s ≤ _; omega
    · have := h.vw x; omega
  · rw [hx]
    split
    · rw [hb]; exact ⟨hE, hEl⟩
    · exact h.envs x
  · have hl := hext.len.1
    rcases List.mem_append.1 ht with ht | ht
    · have := h.key t ht; omega
    · obtain rfl : t = (blkD X b, b) := by simpa using ht
      show blkD X b ≤ _
      unfold blkD
      rw [h.eX he, ← dg_digest]
      exact dg_in (mem_digest _ _)
  · rw [List.map_append, List.nodup_append]
    refine ⟨h.nd, by simp, fun a ha c hc => ?_⟩
    obtain rfl : c = blkD X b := by simpa using hc
    intro e
    rw [e, ← alook_key, hfr] at ha
    cases ha
  · rw [List.getElem?_append_left (by rw [h.len]; omega)]; exact h.head
  · rw [hx]
    split
    · rw [hb]
    · exact h.by_ x
  · rw [List.length_append] at hi
    by_cases hl : i < T.length
    · obtain ⟨j, hj, h1, h2⟩ := h.par i hl h0
      refine ⟨j, by rw [List.length_append]; omega, h1, ?_⟩
      rw [List.getElem_append_left hl, List.getElem_append_left hj]
      exact h2
    · obtain rfl : i = T.length := by simp at hi; omega
      refine ⟨on, by rw [List.length_append]; omega, hon, ?_⟩
      rw [List.getElem_append_left hon]
      simp [hb]
  · rw [digest_T] at hy
    rcases mem_addT.1 hy with hy | rfl
    · obtain ⟨j, hj, e⟩ := h.tag y hy h5
      exact ⟨j, by omega, e⟩
    · exact ⟨k, by omega, by rw [blockB_au, ha]⟩
theorem TW.tests (h : TW X T k) (on : Nat) (hon : on < T.length) (s : Int) (hs : s = 0 ∨ s = 1) (E : List EnvX) (hE : ∀ e ∈ E, e ∈ fewP 6) (b : BlkX)
    (hb : b = ⟨(T[on]'hon).2.view + 1 + s, (k : Int), (T[on]'hon).2.view, (T[on]'hon).1, [], E⟩) :
    (alook T b.jb).isSome = true ∧ (decide (b.jv = (bk T b.jb).view) && decide (b.jv < b.view)) = true ∧ (alook T (blkD X b)).isSome = false := by
  have hon1 := h.some_ on hon
  have hon2 := h.bk_get on hon
  have hf := h.fresh (b := b) (by rw [hb]) (by rw [hb]; exact hE)
  refine ⟨by rw [hb]; exact hon1, ?_, hf⟩
  rw [hb]
  show (decide ((T[on]'hon).2.view = (bk T (T[on]'hon).1).view) && decide ((T[on]'hon).2.view < (T[on]'hon).2.view + 1 + s)) = true
  rw [hon2]
  simp
  omega
/-- The place of the block below. -/
def upI (T : List (Int × BlkX)) (i : Nat) : Nat := (T.map (·.1)).idxOf (T.getD i (0, zeroBlk)).2.jb
theorem TW.up (h : TW X T k) {i : Nat} (hi : i < T.length) (h0 : 0 < i) : ∃ hu : upI T i < T.length, upI T i < i ∧ (T[upI T i]'hu).1 = (T[i]'hi).2.jb := by
  obtain ⟨j, hj, h1, h2⟩ := h.par i hi h0
  have e1 : T.getD i (0, zeroBlk) = T[i]'hi := by rw [List.getD_eq_getElem?_getD, List.getElem?_eq_getElem hi]; rfl
  have hm : (T[i]'hi).2.jb ∈ T.map (·.1) := by rw [h2]; exact List.mem_map.2 ⟨_, List.getElem_mem hj, rfl⟩
  have hl : upI T i < (T.map (·.1)).length := by unfold upI; rw [e1]; exact List.idxOf_lt_length_iff.2 hm
  have hl2 : upI T i < T.length := by rw [List.length_map] at hl; exact hl
  have e2 : (T[upI T i]'hl2).1 = (T[i]'hi).2.jb := by
    have e3 : upI T i = (T.map (·.1)).idxOf (T[i]'hi).2.jb := by unfold upI; rw [e1]
    have h9 := List.idxOf_lt_length_iff.2 hm
    have := List.getElem_idxOf h9
    rw [List.getElem_map] at this
    simp only [e3]
    exact this
  refine ⟨hl2, ?_, e2⟩
  have := h.key_inj hl2 hj (e2.trans h2)
  omega
theorem TW.root1 (h : TW X T k) : ∃ h0 : 0 < T.length, T[0]'h0 = (1, zeroBlk) := by
  have h0 : 0 < T.length := by rw [h.len]; omega
  refine ⟨h0, ?_⟩
  have := h.head
  rw [List.getElem?_eq_getElem h0] at this
  exact Option.some.inj this
theorem TW.ne1 (h : TW X T k) {i : Nat} (hi : i < T.length) (h0 : 0 < i) : (T[i]'hi).1 ≠ 1 := by
  obtain ⟨g0, g⟩ := h.root1
  intro e
  have := h.key_inj hi g0 (by rw [e, g])
  omega
theorem TW.way (h : TW X T k) : ∀ (i : Nat) (hi : i < T.length), (wayV T 1 1 (T[i]'hi).1).isSome = true := by
  intro i
  induction i using Nat.strongRecOn with
  | _ i ih =>
    intro hi
    obtain ⟨g0, g⟩ := h.root1
    by_cases h0 : 0 < i
    · obtain ⟨hu, h1, h2⟩ := h.up hi h0
      have h3 := h.ne1 hi h0
      rw [wayV_on h.inv (h.some_ i hi) h3 h3, h.bk_get i hi, ← h2, Option.isSome_map]
      exact ih _ h1 hu
    · obtain rfl : i = 0 := by omega
      rw [g]
      show (wayV T 1 1 1).isSome = true
      rw [wayV_at]
      rfl
theorem TW.path (h : TW X T k) {i : Nat} (hi : i < T.length) : (pathV T 1 1 (T[i]'hi).1).isSome = true := by
  obtain ⟨g0, g⟩ := h.root1
  have h1 := h.some_ 0 g0
  rw [g] at h1
  unfold pathV
  rw [if_pos (by rw [h1, h.some_ i hi]; rfl), Option.isSome_map]
  exact h.way i hi
theorem TW.back (h : TW X T k) {i : Nat} (hi : i < T.length) (h0 : 0 < i) : (pathV T 1 (T[i]'hi).1 1).isSome = false := by
  unfold pathV
  rw [wayV_no (h.ne1 hi h0).symm]
  split <;> rfl
theorem TW.back0 (h : TW X T k) : (pathV T 1 1 1).isSome = true := by
  obtain ⟨g0, g⟩ := h.root1
  have := h.path g0
  rw [g] at this
  exact this
theorem TW.wlen (h : TW X T k) (x : Int) : ((pathV T 1 1 x).getD []).length ≤ 25 := by
  unfold pathV
  split
  · cases e : wayV T 1 1 x with
    | none => exact Nat.zero_le _
    | some L =>
      have := wayF_len T 1 1 _ _ _ e
      have := h.vw x
      have := h.inv.1 x
      have := h.k12
      unfold rankT at *
      simp only [Option.map_some, Option.getD_some, List.length_reverse]
      omega
  · exact Nat.zero_le _
theorem flat_len (T : List (Int × BlkX)) (hE : ∀ x, (bk T x).envs.length ≤ 6) : ∀ W : List Int, (W.flatMap fun x => (bk T x).envs).length ≤ 6 * W.length := by
  intro W
  induction W with
  | nil => exact Nat.zero_le _
  | cons a W ih =>
    rw [List.flatMap_cons, List.length_append, List.length_cons]
    have := hE a
    omega
theorem TW.wenv (h : TW X T k) (x : Int) : (((pathV T 1 1 x).getD []).flatMap fun x => (bk T x).envs).length ≤ 150 := by
  have := flat_len T (fun x => (h.envs x).2) ((pathV T 1 1 x).getD [])
  have := h.wlen x
  omega
theorem skipF_len (T : List (Int × BlkX)) (tip : Int) (hE : ∀ x, (bk T x).envs.length ≤ 6) : ∀ (n : Nat) (x : Int), (skipF T 1 tip n x).length ≤ 6 * n := by
  intro n
  induction n with
  | zero => intro x; exact Nat.zero_le _
  | succ n ih =>
    intro x
    unfold skipF
    split
    · rw [List.length_append]
      have := hE x
      have := ih (bk T x).jb
      omega
    · exact Nat.zero_le _
theorem TW.slen (h : TW X T k) (tip x : Int) : (skipV T 1 tip x).length ≤ 150 := by
  have := skipF_len T tip (fun x => (h.envs x).2) (rankT T x) x
  have := h.vw x
  have := h.inv.1 x
  have := h.k12
  unfold skipV
  unfold rankT at *
  omega
theorem skipF_in (T : List (Int × BlkX)) (tip : Int) (hE : ∀ x, ∀ e ∈ (bk T x).envs, e ∈ fewP 6) : ∀ (n : Nat) (x : Int), ∀ e ∈ skipF T 1 tip n x, e ∈ fewP 6 := by
  intro n
  induction n with
  | zero => intro x e he; cases he
  | succ n ih =>
    intro x e he
    unfold skipF at he
    split at he
    · rcases List.mem_append.1 he with he | he
      · exact hE x e he
      · exact ih _ e he
    · cases he
theorem TW.sin (h : TW X T k) (tip x : Int) : ∀ e ∈ skipV T 1 tip x, e ∈ fewP 6 := skipF_in T tip (fun x => (h.envs x).1) _ _
theorem TW.tin (h : TW X T k) : ∀ x, ∀ e ∈ (bk T x).envs, envB e ∈ X.T ∧ e.wf := fun x e he => ⟨(h.few e ((h.envs x).1 e he)).1, fewP_wf ((h.envs x).1 e he)⟩
end
/-- Each once, as it comes. -/
def nubF (D : List Int) : List Int := D.foldl addTo []
theorem nubF_snoc (D : List Int) (x : Int) : nubF (D ++ [x]) = addTo (nubF D) x := by unfold nubF; rw [List.foldl_append]; rfl
theorem nubF_nodup_mem (D : List Int) : ∀ A : List Int, A.Nodup → (D.foldl addTo A).Nodup ∧ ∀ x, x ∈ D.foldl addTo A ↔ x ∈ A ∨ x ∈ D := by
  induction D with
  | nil => intro A h; exact ⟨h, fun x => by simp⟩
  | cons a D ih =>
    intro A h
    obtain ⟨h1, h2⟩ := ih (addTo A a) (addTo_nodup h)
    refine ⟨h1, fun x => ?_⟩
    show x ∈ D.foldl addTo (addTo A a) ↔ _
    rw [h2 x, mem_addTo, List.mem_cons]
    constructor
    · rintro ((h | h) | h)
      · exact .inl h
      · exact .inr (.inl h)
      · exact .inr (.inr h)
    · rintro (h | h | h)
      · exact .inl (.inl h)
      · exact .inl (.inr h)
      · exact .inr h
theorem nubF_nodup (D : List Int) : (nubF D).Nodup := (nubF_nodup_mem D [] List.nodup_nil).1
theorem mem_nubF {D : List Int} {x : Int} : x ∈ nubF D ↔ x ∈ D := by rw [show nubF D = D.foldl addTo [] from rfl, (nubF_nodup_mem D [] List.nodup_nil).2 x]; simp
theorem nubF_len (D : List Int) : (nubF D).length ≤ D.length := by
  have : ∀ A : List Int, (D.foldl addTo A).length ≤ A.length + D.length := by
    induction D with
    | nil => intro A; exact Nat.le_refl _
    | cons a D ih =>
      intro A
      have h1 := ih (addTo A a)
      have h2 : (addTo A a).length ≤ A.length + 1 := by unfold addTo; split <;> simp
      show (D.foldl addTo (addTo A a)).length ≤ _
      rw [List.length_cons]
      omega
  have := this []
  simpa [nubF] using this
theorem strict_ext : ∀ {l m : List Int}, l.Pairwise (· < ·) → m.Pairwise (· < ·) → (∀ x, x ∈ l ↔ x ∈ m) → l = m
  | [], [], _, _, _ => rfl
  | [], b :: m, _, _, h => by have := (h b).2 (.head _); cases this
  | a :: l, [], _, _, h => by have := (h a).1 (.head _); cases this
  | a :: l, b :: m, hl, hm, h => by
    rw [List.pairwise_cons] at hl hm
    have hab : a = b := by
      rcases List.mem_cons.1 ((h a).1 (.head _)) with e | e
      · exact e
      · rcases List.mem_cons.1 ((h b).2 (.head _)) with e2 | e2
        · exact e2.symm
        · have := hm.1 a e; have := hl.1 b e2; omega
    subst hab
    rw [strict_ext hl.2 hm.2 fun x => ?_]
    constructor
    · intro hx
      rcases List.mem_cons.1 ((h x).1 (.tail _ hx)) with e | e
      · have := hl.1 x hx; omega
      · exact e
    · intro hx
      rcases List.mem_cons.1 ((h x).2 (.tail _ hx)) with e | e
      · have := hm.1 x hx; omega
      · exact e
theorem rising_strict {l : List Int} (h : l.Nodup) : (rising l).Pairwise (· < ·) := by
  have h1 := rising_le l
  have h2 : (rising l).Nodup := (rising_perm l).nodup_iff.2 h
  have h3 := h1.and h2
  exact h3.imp fun ⟨a, b⟩ => by omega
theorem compact_strict {zs : List Int} (h : zs.Pairwise (· ≤ ·)) : (Lib.compact zs).Pairwise (· < ·) := by
  unfold Lib.compact Lib.compactUpTo
  rw [List.pairwise_map]
  have h1 : (List.range zs.length).Pairwise (· < ·) := List.pairwise_lt_range
  have h2 := h1.filter (p := Lib.keeps zs.toArray)
  have hh : ∀ i j (hi : i < zs.length) (hj : j < zs.length), i ≤ j → zs[i] ≤ zs[j] := by
    intro i j hi hj hij
    rcases Nat.lt_or_ge i j with g | g
    · exact List.pairwise_iff_getElem.1 h i j hi hj g
    · have : i = j := by omega
      subst this
      exact Int.le_refl _
  refine h2.imp_of_mem ?_
  intro i j hi hj hij
  rw [List.mem_filter, List.mem_range] at hi hj
  obtain ⟨hj1, hj2⟩ := hj
  obtain ⟨hi1, _⟩ := hi
  have hj3 : j - 1 < zs.length := by omega
  have e1 : zs.toArray[i]! = zs[i] := by simp [hi1]
  have e2 : zs.toArray[j]! = zs[j] := by simp [hj1]
  have e3 : zs.toArray[j - 1]! = zs[j - 1]'hj3 := by simp [hj3]
  unfold Lib.keeps at hj2
  have hk := of_decide_eq_true hj2
  rw [e2, e3] at hk
  have h4 := hh i (j - 1) hi1 hj3 (by omega)
  have h5 := hh (j - 1) j hj3 hj1 (by omega)
  show zs.toArray[i]! < zs.toArray[j]!
  rw [e1, e2]
  rcases hk with hk | hk
  · omega
  · have : zs[j - 1]'hj3 ≠ zs[j]'hj1 := fun e => hk e.symm
    omega
theorem compact_nub (D : List Int) : Lib.compact (rising D) = rising (nubF D) :=
  strict_ext (compact_strict (rising_le D)) (rising_strict (nubF_nodup D)) fun x => by rw [mem_comp, mem_rising, mem_rising, mem_nubF]
end
section
open Go.RowKit Go.MapKept

def rowV (t : Int × BlkX) (s : Option Addr × Nat) : List Value := bval t.2 none 0 s.1 s.2
def rowsF (T : List (Int × BlkX)) (S : List (Option Addr × Nat)) : List Value := (List.zipWith rowV T S).flatten
theorem rowV_length (t : Int × BlkX) (s : Option Addr × Nat) : (rowV t s).length = 6 := rfl
theorem rowsF_length : ∀ (T : List (Int × BlkX)) (S : List (Option Addr × Nat)), S.length = T.length → (rowsF T S).length = T.length * 6
  | [], [], _ => rfl
  | [], _ :: _, h => by cases h
  | _ :: _, [], h => by cases h
  | t :: T, s :: S, h => by
    show (rowV t s ++ rowsF T S).length = _
    rw [List.length_append, rowV_length, rowsF_length T S (by simpa using h), List.length_cons]
    omega
theorem rowsF_snoc (T : List (Int × BlkX)) (S : List (Option Addr × Nat)) (h : S.length = T.length) (t : Int × BlkX) (s : Option Addr × Nat) : rowsF (T ++ [t]) (S ++ [s]) = rowsF T S ++ rowV t s := by
  unfold rowsF
  rw [List.zipWith_append h.symm, List.flatten_append]
  simp
theorem rowsF_at : ∀ (T : List (Int × BlkX)) (S : List (Option Addr × Nat)), S.length = T.length → ∀ (i : Nat) (hi : i < T.length) (j : Nat) (u : Value), (rowV (T[i]'hi) (S.getD i (none, 0)))[j]? = some u → (rowsF T S)[i * 6 + j]? = some u
  | [], _, _, i, hi, _, _, _ => by simp at hi
  | _ :: _, [], h, _, _, _, _, _ => by cases h
  | t :: T, s :: S, h, 0, hi, j, u, hu => by
    have hj : j < 6 := by
      rcases Nat.lt_or_ge j 6 with g | g
      · exact g
      · rw [List.getElem?_eq_none (by exact g)] at hu; cases hu
    show (rowV t s ++ rowsF T S)[0 * 6 + j]? = some u
    rw [Nat.zero_mul, Nat.zero_add, List.getElem?_append_left (by rw [rowV_length]; exact hj)]
    exact hu
  | t :: T, s :: S, h, i + 1, hi, j, u, hu => by
    show (rowV t s ++ rowsF T S)[(i + 1) * 6 + j]? = some u
    rw [List.getElem?_append_right (by rw [rowV_length]; omega), rowV_length, show (i + 1) * 6 + j - 6 = i * 6 + j by omega]
    exact rowsF_at T S (by simpa using h) i (by simpa using hi) j u hu
/-- The rows, where they lie. -/
def RowsAt (w : World) (a : Option Addr) (T : List (Int × BlkX)) (S : List (Option Addr × Nat)) : Prop :=
  ∃ b off, a = some ⟨b, off, none⟩ ∧ ∀ (i : Nat) (hi : i < T.length) (j : Nat) (u : Value), (rowV (T[i]'hi) (S.getD i (none, 0)))[j]? = some u → w.cell? ⟨b, off + i * 6 + j, none⟩ = some u
def envsT (T : List (Int × BlkX)) (S : List (Option Addr × Nat)) : Thing :=
  ⟨fun w F => S.length = T.length ∧ (∀ (i : Nat) (hi : i < T.length), EnvsIn F w (.slice (S.getD i (none, 0)).1 (T[i]'hi).2.envs.length (S.getD i (none, 0)).2) (T[i]'hi).2.envs) ∧ ∀ k, F k → k < w.heap.size,
   fun h k hk => h.2.2 k hk, fun ⟨h1, h2, h3⟩ hc hs => ⟨h1, fun i hi => (h2 i hi).chg hc hs, fun k hk => Nat.lt_of_lt_of_le (h3 k hk) hc.size⟩⟩
def lawF (v : Value) (T : List (Int × BlkX)) : List (Option Addr × Nat) → List Thing := fun S => [own 41 6 v T.length (rowsF T S), envsT T S]
def lawT (v : Value) (T : List (Int × BlkX)) : Thing := ex (lawF v T)
section
variable {w w' : World} {m : Nat → Thing} {l : List Thing} {T : List (Int × BlkX)} {S : List (Option Addr × Nat)} {v : Value} {n : Nat}
theorem Sys.two {a b c : Thing} (h : Sys w m (a :: b :: l)) (hm : ∀ F G, a.P w F → b.P w G → c.P w (fun k => F k ∨ G k)) : Sys w m (c :: l) := by
  obtain ⟨U, F, V, hF, ⟨G, X, hG, hX, hd2, hV⟩, hd, hU⟩ := h
  exact ⟨U, fun k => F k ∨ G k, X, hm F G hF hG, hX, fun k hk hx => hk.elim (fun hf => hd k hf ((hV k).2 (.inr hx))) (fun hg => hd2 k hg hx), fun k => by rw [hU, hV, or_assoc]⟩
theorem Own.rowsAt {a : Option Addr} {k c : Nat} (h : Own 41 6 w (.slice a k c) n (rowsF T S)) (hS : S.length = T.length) (h0 : 0 < T.length) : RowsAt w a T S := by
  obtain ⟨hl, hh⟩ := h
  rcases hh with ⟨h1, h2⟩ | ⟨g, cap, cur, e, _, hb, _, _, _, ht⟩
  · rw [rowsF_length T S hS, h2] at hl; omega
  · cases e
    refine ⟨g, 0, rfl, fun i hi j u hu => ?_⟩
    have h3 := rowsF_at T S hS i hi j u hu
    rw [← ht, List.getElem?_take] at h3
    split at h3
    · rw [show 0 + i * 6 + j = i * 6 + j by omega, cell_of_blk hb]
      simpa using h3
    · cases h3
theorem Sys.lawEnvs (h : Sys w m (envsT T S :: l)) : S.length = T.length ∧ ∀ (i : Nat) (hi : i < T.length), EnvsAt w (S.getD i (none, 0)).1 (T[i]'hi).2.envs := by
  obtain ⟨F, ⟨h1, h2, _⟩, _⟩ := h.head
  exact ⟨h1, fun i hi => (h2 i hi).envsAt⟩
/-- One block more: its row is appended, what it shows was the law's own. -/
theorem Sys.lawPush {va : Option Addr} {ne vc : Nat} {t : Int × BlkX} {E : List EnvX} (hE : t.2.envs = E) (hne : ne = E.length) (hn : ne ≤ 1000000) (ad : Addr) (c : Nat) (hby : t.2.by_ = [])
    (h : Sys w m (own 41 6 v T.length (rowsF T S) :: envsT T S :: own 55 4 (.slice va ne vc) ne (flatE E) :: l)) (hnews : ∀ j u, (rowV t (va, vc))[j]? = some u → w.cell? (ad.add j) = some u) (hb : T.length ≤ 1000) (ty : TypeId) :
    ∃ v' w', (Builtin.append_ #[64, 64] ty #[v, .slice (some ad) 1 c]).run Tryz.prog w = .ok v' w' ∧ Sys w' m (lawT v' (T ++ [t]) :: l) := by
  obtain ⟨i, hi, hz, hs1, hby2⟩ := info_parts' (P := Tryz.prog) (e := 41) (z := some (.agg #[.int .i64 0, .int .i64 0, .int .i64 0, .int .i64 0, .slice none 0 0, .slice none 0 0])) (s := 6) (b := 80) (by kernel_rfl)
  have hS := (h.tail.lawEnvs).1
  obtain ⟨v', w1, h1, h2⟩ := h.appendRow (P := Tryz.prog) Tryz.underlying64 hi hz hs1 hby2 rfl (by decide) ad 1 c (rowV t (va, vc)) rfl hnews (fun u hu => by
    simp only [rowV, bval, List.mem_cons, List.not_mem_nil, or_false] at hu
    rcases hu with rfl | rfl | rfl | rfl | rfl | rfl <;> rfl) (by omega) (by unfold maxLen; omega) ty
  refine ⟨v', w1, h1, ?_⟩
  rw [← rowsF_snoc T S hS t (va, vc)] at h2
  have h3 : Sys w1 m (envsT (T ++ [t]) (S ++ [(va, vc)]) :: own 41 6 v' (T.length + 1) (rowsF (T ++ [t]) (S ++ [(va, vc)])) :: l) := by
    refine Sys.two (h2.swap.perm (List.Perm.cons _ (List.Perm.swap _ _ _))) ?_
    rintro F G ⟨g1, g2, g3⟩ ⟨g4, rfl⟩
    refine ⟨by rw [List.length_append, List.length_append, g1]; rfl, fun i hi => ?_, fun k hk => hk.elim (g3 k) (fun hk => g4.lt hk)⟩
    by_cases hl : i < T.length
    · have e1 : (S ++ [(va, vc)]).getD i (none, 0) = S.getD i (none, 0) := by rw [List.getD_eq_getElem?_getD, List.getD_eq_getElem?_getD, List.getElem?_append_left (by omega)]
      rw [e1, List.getElem_append_left hl]
      exact (g2 i hl).mono fun _ hk _ => .inl hk
    · rw [List.length_append] at hi
      obtain rfl : i = T.length := by simp at hi; omega
      have e1 : (S ++ [(va, vc)]).getD T.length (none, 0) = (va, vc) := by rw [List.getD_eq_getElem?_getD, ← g1, List.getElem?_append_right (Nat.le_refl _)]; simp
      have e2 : (T ++ [t])[T.length]'(by simp) = t := by simp
      rw [e1, e2]
      show SliceIn _ _ _ _ _
      rw [hE, ← hne]
      exact g4.sliceIn hn fun k hk => .inr hk
  have h4 := h3.swap
  refine Sys.close (f := lawF v' (T ++ [t])) (S ++ [(va, vc)]) ?_
  show Sys w1 m (own _ 6 v' (T ++ [t]).length _ :: envsT _ _ :: l)
  rw [List.length_append]
  exact h4
theorem Sys.lawShape (h : Sys w m (lawT v T :: l)) : ∃ a c, v = .slice a T.length c := by
  obtain ⟨S, h1⟩ := h.open
  obtain ⟨a, k, c, rfl, hk⟩ := (show Sys w m (own 41 6 v T.length (rowsF T S) :: envsT T S :: l) from h1).getOwn.slice
  exact ⟨a, c, by rw [hk.out]⟩
/-- The root alone. -/
theorem Sys.lawStart {b : Nat} {ty : TypeId} (hty : ty = 41) (h : Sys w m (blk b (.cells #[.int .i64 0, .int .i64 0, .int .i64 0, .int .i64 0, .slice none 0 0, .slice none 0 0] ty (0, 0)) :: l)) : Sys w m (lawT (.slice (some ⟨b, 0, none⟩) 1 1) [(1, zeroBlk)] :: l) := by
  subst hty
  obtain ⟨F, ⟨hb, rfl⟩, h1, h2, h3⟩ := h.head
  have h4 : Sys w m (own 41 6 (.slice (some ⟨b, 0, none⟩) 1 1) 1 (rowsF [(1, zeroBlk)] [(none, 0)]) :: l) := by
    refine h3 w _ ⟨fun j => (Value.slice (some ⟨b, 0, none⟩) 1 1).ownBlock = some j, ⟨⟨rfl, .inr ⟨b, 1, _, rfl, Nat.zero_le _, hb, Nat.le_refl _, by unfold maxLen; omega, rfl, rfl⟩⟩, rfl⟩, fun j hj => .inl ?_, Chg.refl _ _⟩
    cases hj; rfl
  have h5 : Sys w m (envsT [(1, zeroBlk)] [(none, 0)] :: own 41 6 (.slice (some ⟨b, 0, none⟩) 1 1) 1 (rowsF [(1, zeroBlk)] [(none, 0)]) :: l) := by
    refine h4.push (Chg.refl _ _) (F := fun _ => False) ⟨rfl, fun i hi => ?_, fun k hk => hk.elim⟩ fun k hk => hk.elim
    obtain rfl : i = 0 := by simp at hi; omega
    exact SliceIn.nil _ _
  exact Sys.close (f := lawF _ _) [(none, 0)] h5.swap
end
end
section
open Go.RowKit Go.MapKept

def wayR (T : List (Int × BlkX)) : Nat → Nat → List Nat
  | 0, _ => []
  | f + 1, i => if i = 0 then [] else upI T i :: wayR T f (upI T i)
def wayL (T : List (Int × BlkX)) (i : Nat) : List Nat := i :: wayR T i i
section
variable {X : WX} {T : List (Int × BlkX)} {k : Nat}
theorem TW.wayR (h : TW X T k) : ∀ (n i f g : Nat), i ≤ n → i < T.length → i ≤ f → i ≤ g → wayR T f i = wayR T g i := by
  intro n
  induction n with
  | zero =>
    intro i f g hn hi hf hg
    obtain rfl : i = 0 := by omega
    cases f <;> cases g <;> rfl
  | succ n ih =>
    intro i f g hn hi hf hg
    by_cases h0 : i = 0
    · subst h0; cases f <;> cases g <;> rfl
    · obtain ⟨hu, h1, _⟩ := h.up hi (by omega)
      match f, g with
      | 0, _ => omega
      | _ + 1, 0 => omega
      | f + 1, g + 1 =>
        show (if i = 0 then [] else upI T i :: YtcfhkpjheemkgaaGreat.wayR T f (upI T i)) = (if i = 0 then [] else upI T i :: YtcfhkpjheemkgaaGreat.wayR T g (upI T i))
        rw [if_neg h0, if_neg h0, ih _ f g (by omega) hu (by omega) (by omega)]
theorem TW.wayOn (h : TW X T k) {i : Nat} (hi : i < T.length) (h0 : 0 < i) : YtcfhkpjheemkgaaGreat.wayR T i i = wayL T (upI T i) := by
  obtain ⟨hu, h1, _⟩ := h.up hi h0
  obtain ⟨f, rfl⟩ : ∃ f, i = f + 1 := ⟨i - 1, by omega⟩
  show (if f + 1 = 0 then [] else upI T (f + 1) :: YtcfhkpjheemkgaaGreat.wayR T f (upI T (f + 1))) = upI T (f + 1) :: YtcfhkpjheemkgaaGreat.wayR T _ _
  rw [if_neg (by omega), h.wayR _ _ f (upI T (f + 1)) (Nat.le_refl _) hu (by omega) (Nat.le_refl _)]
theorem wayR_zero (T : List (Int × BlkX)) : YtcfhkpjheemkgaaGreat.wayR T 0 0 = [] := rfl
theorem TW.wayNext (h : TW X T k) : ∀ (n i : Nat), i ≤ n → i < T.length → ∀ t, t < (wayL T i).length → (wayL T i).getD t 0 < T.length ∧ (t + 1 < (wayL T i).length → 0 < (wayL T i).getD t 0 ∧ (wayL T i).getD (t + 1) 0 = upI T ((wayL T i).getD t 0)) ∧ (t + 1 = (wayL T i).length → (wayL T i).getD t 0 = 0) := by
  intro n
  induction n with
  | zero =>
    intro i hn hi t ht
    obtain rfl : i = 0 := by omega
    have e : wayL T 0 = [0] := rfl
    rw [e] at ht ⊢
    obtain rfl : t = 0 := by simpa using ht
    exact ⟨hi, fun h => by simp at h, fun _ => rfl⟩
  | succ n ih =>
    intro i hn hi t ht
    by_cases h0 : i = 0
    · exact ih i (by omega) hi t ht
    · obtain ⟨hu, h1, _⟩ := h.up hi (by omega)
      have e : wayL T i = i :: wayL T (upI T i) := by rw [← h.wayOn hi (by omega)]; rfl
      rw [e] at ht ⊢
      cases t with
      | zero =>
        refine ⟨hi, fun _ => ⟨by show 0 < i; omega, rfl⟩, fun h => ?_⟩
        have : (wayL T (upI T i)).length = 0 := by simpa using h.symm
        simp [wayL] at this
      | succ t =>
        obtain ⟨g1, g2, g3⟩ := ih (upI T i) (by omega) hu t (by simpa using ht)
        exact ⟨g1, fun h => g2 (by simpa using h), fun h => g3 (by simpa using h)⟩
theorem TW.wayLen (h : TW X T k) : ∀ (n i : Nat), i ≤ n → i < T.length → (wayL T i).length ≤ i + 1 := by
  intro n
  induction n with
  | zero => intro i hn hi; obtain rfl : i = 0 := by omega
            exact Nat.le_refl _
  | succ n ih =>
    intro i hn hi
    by_cases h0 : i = 0
    · exact ih i (by omega) hi
    · obtain ⟨hu, h1, _⟩ := h.up hi (by omega)
      have e : wayL T i = i :: wayL T (upI T i) := by rw [← h.wayOn hi (by omega)]; rfl
      have := ih (upI T i) (by omega) hu
      rw [e, List.length_cons]
      omega
end
section
variable {w w' : World} {m : Nat → Thing} {l : List Thing} {X : WX} {T : List (Int × BlkX)} {S : List (Option Addr × Nat)} {k : Nat}
set_option maxRecDepth 100000 in
set_option maxHeartbeats 8000000 in
theorem law_way (hT : TW X T k) (i0 : Nat) (hi0 : i0 < T.length) (da ba : Option Addr) (dc bc : Nat) (hd : Cap l (fun y => IntsAt y da (T.map (·.1)))) (hr : Cap l (fun y => RowsAt y ba T S)) (h : Sys w m l) :
    Calls Tryz.prog 25 #[.slice da T.length dc, .slice ba T.length bc, .int .i64 (i0 : Int)] w fun e w' => ∃ v, e = .returned v ∧ Sys w' m (own 3 1 v (wayL T i0).length (((wayL T i0).map fun i : Nat => (i : Int)).map (Value.int .i64)) :: l) := by
  obtain ⟨bb, bo, rfl, hrow⟩ := hr w m h
  obtain ⟨g0, g⟩ := hT.root1
  obtain ⟨db, do_, rfl⟩ : ∃ b off, da = some ⟨b, off, none⟩ := (hd w m h).some_ (i := 0) (by rw [List.length_map]; exact g0)
  obtain ⟨n, hn⟩ : ∃ n, n = T.length := ⟨_, rfl⟩
  have hnl : n ≤ 13 := by rw [hn, hT.len]; have := hT.k12; omega
  have HN := Lib.hid hn
  have HNL := Lib.hid hnl
  have HT := Lib.hid hT
  have HD := Lib.hid hd
  have HR := Lib.hid hr
  have HI := Lib.hid hi0
  rw [← hn]
  have h1 := h.alloc (.cells #[.int .i64 (i0 : Int)] 3 (0, 0)) rfl
  have h2 := h1.blkOwn (k := 1) (ys := [.int .i64 (i0 : Int)]) rfl (by unfold maxLen; omega)
  have H1 : Hid (Sys (w.alloc (.cells #[.int .i64 (i0 : Int)] 3 (0, 0))) m (own 3 1 (.slice (some ⟨w.heap.size, 0, none⟩) 1 1) 1 [.int .i64 (i0 : Int)] :: l)) := h2
  have hlen : i0 ≤ 13 := by omega
  have HI0 := Lib.hid hlen
  clear h h1 h2 hd hr hrow hT hn hnl g0 g hi0 hlen
  go_enter Tryz.func25, Tryz.ntmps25
  go_wp2_with fail
  go_loopw [7, 2] (fun av kv wr => ∃ (cur : Nat) (A : List Nat) (aa : Option Addr) (ac : Nat), Hid (cur < T.length ∧ A.length + cur ≤ 1 + i0 ∧ A ++ wayR T cur cur = wayL T i0) ∧ kv = .int .i64 (cur : Int) ∧ av = .slice aa A.length ac ∧ Sys wr m (own 3 1 (.slice aa A.length ac) A.length ((A.map fun i : Nat => (i : Int)).map (Value.int .i64)) :: l)) (fun _ kv _ => (intOf kv).toNat)
  case atStart => exact ⟨i0, [i0], _, 1, ⟨HI.out, by show 1 + i0 ≤ 1 + i0; omega, rfl⟩, rfl, rfl, H1.out⟩
  case round =>
    obtain ⟨cur, A, aa, ac, HC, rfl, rfl, hR⟩ := hrel
    have HCU : Hid (cur < T.length) := HC.out.1
    have HRR := Lib.hid hR
    clear hR
    by_cases hc : cur = 0
    · have hc1 : ((cur : Int) != 0) = false := by simp [hc]
      have HE : Hid (A = wayL T i0) := by
        have h9 := HC.out.2.2
        rw [hc, wayR_zero, List.append_nil] at h9
        exact h9
      clear hc
      go_wp2_with fail
      go_ret
      rw [← HE.out]
      exact ⟨_, rfl, HRR.out⟩
    · have hc1 : ((cur : Int) != 0) = true := by simpa using hc
      have HC0 : Hid (0 < cur) := by show _ < _; omega
      obtain ⟨jv, hjv⟩ : ∃ x, (T[cur]'HCU.out).2.jb = x := ⟨_, rfl⟩
      have HJB := Lib.hid hjv
      have HJU : Hid (∃ hu : upI T cur < T.length, upI T cur < cur ∧ (T[upI T cur]'hu).1 = jv) := by rw [← hjv]; exact HT.out.up HCU.out HC0.out
      obtain ⟨up, hup⟩ : ∃ u, u = upI T cur := ⟨_, rfl⟩
      rw [← hup] at HJU
      have HUP := Lib.hid hup
      clear hc hjv hup
      go_wp2_with fail
      go_loopw [8, 9] (fun jv iv wr => ∃ i : Nat, i ≤ n ∧ iv = .int .i64 (i : Int) ∧ jv = .int .i64 (if up < i then (up : Int) else 0) ∧ Sys wr m (own 3 1 (.slice aa A.length ac) A.length ((A.map fun i : Nat => (i : Int)).map (Value.int .i64)) :: l)) (fun _ iv _ => n - (intOf iv).toNat)
      case atStart => exact ⟨0, by omega, rfl, rfl, HRR.out⟩
      case round =>
        obtain ⟨i, hi, rfl, rfl, hR⟩ := hrel
        by_cases hlt : i < n
        · have hil : (i : Int) < (n : Int) := by omega
          have hiw : IntKind.i64.wrap ((i : Int) + 1) = (i : Int) + 1 := by rw [IntKind.wrap_i64]; have := HNL.out; omega
          have hiT : i < T.length := by rw [← HN.out]; exact hlt
          have hcn : (cur : Int) < (n : Int) := by have := HCU.out; have := HN.out; omega
          obtain ⟨kv, hkv⟩ : ∃ x, (T[i]'hiT).1 = x := ⟨_, rfl⟩
          have hcell : wr.cell? ⟨db, do_ + i, none⟩ = some (.int .i64 kv) := by
            rcases HD.out wr m hR.tail with h0 | ⟨b, off, e, hh⟩
            · rw [List.map_eq_nil_iff] at h0; rw [h0] at hiT; simp at hiT
            · cases e
              rw [hh i (by rw [List.length_map]; exact hiT), List.getD_eq_getElem?_getD, List.getElem?_map, List.getElem?_eq_getElem hiT]
              simp [hkv]
          have hrow : wr.cell? ⟨bb, bo + cur * 6 + 3, none⟩ = some (.int .i64 jv) := by
            obtain ⟨b, off, e, hh⟩ := HR.out wr m hR.tail
            cases e
            rw [← HJB.out]
            exact hh cur HCU.out 3 _ rfl
          have HSS : Hid (wr.drew.cell? ⟨db, do_ + i, none⟩ = some (.int .i64 kv) ∧ wr.drew.cell? ⟨bb, bo + cur * 6 + 3, none⟩ = some (.int .i64 jv)) := ⟨hcell, hrow⟩
          have HR2 := Lib.hid hR.drew
          have HIF : Hid (kv = jv ↔ i = up) := by
            obtain ⟨hu, h1, h2⟩ := HJU.out
            show _ ↔ _
            rw [← hkv, ← h2]
            exact ⟨fun e => HT.out.key_inj hiT hu e, fun e => by subst e; rfl⟩
          have HLT := Lib.hid hlt
          clear hcell hrow hR hkv hlt hi
          go_upto_region 7 with fail
          refine wp_region_seq (fun x : World => x.cell? ⟨db, do_ + i, none⟩ = some (.int .i64 kv) ∧ x.cell? ⟨bb, bo + cur * 6 + 3, none⟩ = some (.int .i64 jv)) anyW [] [(0, 0, some 20), (1, 0, some 21), (2, 0, some 22), (3, 1, some 23), (4, 0, some 24), (5, 0, some 25), (6, 0, some 26), (7, 0, some 27), (8, 0, some 28), (9, 1, some 29), (10, 0, some 30)] (by kernel_rfl) (by kernel_rfl) (fun _ _ _ d _ h => by cases d <;> exact h) HSS.out anyW.i ?_
          repeat (first | (refine seqW (v := ?_) rfl rfl (by kernel_rfl) ?_ ?_; rotate_left; (focus ((intro x; go_simp); try (with_reducible rfl))); try simp only [Act.put, List.setIfInBounds_toArray, List.set_cons_zero, List.set_cons_succ]) | (refine seqS (v := ?_) rfl rfl (by kernel_rfl) ?_ ?_; rotate_left; (focus (intro x hS; first | (obtain ⟨hS1, hS2⟩ := hS; go_simp; try (with_reducible rfl)))); try simp only [Act.put, List.setIfInBounds_toArray, List.set_cons_zero, List.set_cons_succ]) | (refine seqX rfl rfl (by kernel_rfl) ?_; try simp only [Act.put, List.setIfInBounds_toArray, List.set_cons_zero, List.set_cons_succ]))
          refine seqE ?_
          by_cases he : kv = jv
          · have hbe : (kv == jv) = true := by simp [he]
            have HEQ : Hid (i = up) := HIF.out.1 he
            clear he
            go_wp2_with fail
            go_roundw
            case rel => exact ⟨i + 1, by have := HLT.out; omega, by go_num, by rw [if_pos (by have := HEQ.out; omega), HEQ.out], HR2.out⟩
            case measure => simp [intOf]; have := HLT.out; omega
          · have hbe : (kv == jv) = false := by simp [he]
            have HEQ : Hid (i ≠ up) := fun e => he (HIF.out.2 e)
            clear he
            go_wp2_with fail
            go_roundw
            case rel => exact ⟨i + 1, by have := HLT.out; omega, by go_num, by congr 1; have := HEQ.out; split <;> split <;> first | rfl | omega, HR2.out⟩
            case measure => simp [intOf]; have := HLT.out; omega
        · obtain rfl : n = i := by omega
          have hu1 : up < n := by have h1 := HJU.out.1; have := HN.out; omega
          rw [if_pos hu1]
          have HR2 := Lib.hid hR
          clear hlt hi hR hu1
          have h4 := HR2.out.alloc (.cells #[.int .i64 (up : Int)] 3 (0, 0)) rfl
          obtain ⟨v5, z5, hap, h5⟩ := (h4.front 1 rfl).appInts (k := 1) (some ⟨wr.heap.size, 0, none⟩) 1 [(up : Int)] rfl (ints_const (t := [(up : Int)]) h4.getBlk) (by have := HC.out.2.1; have := HI0.out; omega) 32
          obtain ⟨a5, k5, c5, rfl, hk5⟩ := h5.getOwn.slice
          obtain rfl := hk5.out
          have e5 : (A.map fun i : Nat => (i : Int)) ++ [(up : Int)] = (A ++ [up]).map fun i : Nat => (i : Int) := by rw [List.map_append]; rfl
          have e6 : A.length + 1 = (A ++ [up]).length := by rw [List.length_append]; rfl
          rw [e5, e6] at h5
          rw [e6] at hap
          have H5 := Lib.hid (h5.drop 1 rfl)
          have HCN : Hid (up < T.length ∧ (A ++ [up]).length + up ≤ 1 + i0 ∧ (A ++ [up]) ++ wayR T up up = wayL T i0) := by
            obtain ⟨hu, h1, h2⟩ := HJU.out
            obtain ⟨g1, g2, g3⟩ := HC.out
            refine ⟨hu, by rw [← e6]; omega, ?_⟩
            rw [← g3, HT.out.wayOn g1 HC0.out, ← HUP.out, List.append_assoc]
            rfl
          have E6 := Lib.hid e6
          clear h4 h5 hk5 e5 e6
          go_wp2_with (at_builtin; refine wpl_append rfl _ _ _ rfl rfl rfl hap ?_)
          clear hap
          go_roundw
          case rel => exact ⟨up, A ++ [up], a5, c5, HCN.out, rfl, by first | rfl | rw [E6.out], H5.out⟩
          case measure => simp [intOf]; exact HJU.out.2.1
set_option maxRecDepth 100000 in
set_option maxHeartbeats 8000000 in
theorem envs_same (E : List EnvX) (aa ba : Option Addr) (ac bc n : Nat) (hn : E.length = n) (hnl : n ≤ 1000000) (ha : Cap l (fun y => EnvsAt y aa E)) (hb : Cap l (fun y => EnvsAt y ba E)) (h : Sys w m l) :
    Calls Tryz.prog 31 #[.slice aa n ac, .slice ba n bc] w fun e w' => e = .returned (.bool true) ∧ Sys w' m l := by
  have HA := Lib.hid ha
  have HB := Lib.hid hb
  have HN := Lib.hid hn
  have HNL := Lib.hid hnl
  have H0 := Lib.hid h
  clear ha hb hn hnl h
  go_enter Tryz.func31, Tryz.ntmps31
  go_wp2_with fail
  go_loopw [5] (fun iv wr => ∃ i : Nat, i ≤ n ∧ iv = .int .i64 (i : Int) ∧ Sys wr m l) (fun iv _ => n - (intOf iv).toNat)
  case atStart => exact ⟨0, by omega, rfl, H0.out⟩
  case round =>
    obtain ⟨i, hi, rfl, hR⟩ := hrel
    by_cases hlt : i < n
    · have hil : (i : Int) < (n : Int) := by omega
      have hiw : IntKind.i64.wrap ((i : Int) + 1) = (i : Int) + 1 := by rw [IntKind.wrap_i64]; have := HNL.out; omega
      obtain ⟨⟨ec, en, ef, ei⟩, he⟩ : ∃ e, e = E.getD i default := ⟨_, rfl⟩
      have hel : i < E.length := by rw [HN.out]; exact hlt
      have hat := HA.out wr m hR
      have hbt := HB.out wr m hR
      obtain ⟨ab, ao, rfl⟩ := hat.some_ hel
      obtain ⟨bb, bo, rfl⟩ := hbt.some_ hel
      have hce := hat.get hel
      have hcf := hbt.get hel
      rw [← he] at hce hcf
      have HSS : Hid ((∀ (k : Nat) (u : Value), ([.int .i64 ec, .int .u64 en, .int .u64 ef, .int .i64 ei] : List Value)[k]? = some u → wr.drew.cell? ⟨ab, ao + i * 4 + k, none⟩ = some u) ∧ ∀ (k : Nat) (u : Value), ([.int .i64 ec, .int .u64 en, .int .u64 ef, .int .i64 ei] : List Value)[k]? = some u → wr.drew.cell? ⟨bb, bo + i * 4 + k, none⟩ = some u) := ⟨hce, hcf⟩
      have HR2 := Lib.hid hR.drew
      have HLT := Lib.hid hlt
      clear hat hbt hce hcf hR hlt hi he
      go_upto_region 6 with fail
      refine wp_region_seq (fun x : World => (∀ (k : Nat) (u : Value), ([.int .i64 ec, .int .u64 en, .int .u64 ef, .int .i64 ei] : List Value)[k]? = some u → x.cell? ⟨ab, ao + i * 4 + k, none⟩ = some u) ∧ ∀ (k : Nat) (u : Value), ([.int .i64 ec, .int .u64 en, .int .u64 ef, .int .i64 ei] : List Value)[k]? = some u → x.cell? ⟨bb, bo + i * 4 + k, none⟩ = some u) anyW [] [(0, 0, some 17), (1, 0, some 18), (2, 0, some 19), (3, 1, some 20), (4, 0, some 21), (5, 0, some 22), (6, 0, some 23), (7, 1, some 24), (8, 0, some 25)] (by kernel_rfl) (by kernel_rfl) (fun _ _ _ d _ h => by cases d <;> exact h) HSS.out anyW.i ?_
      repeat (first | (refine seqW (v := ?_) rfl rfl (by kernel_rfl) ?_ ?_; rotate_left; (focus ((intro x; go_simp); try (with_reducible rfl))); try simp only [Act.put, List.setIfInBounds_toArray, List.set_cons_zero, List.set_cons_succ]) | (refine seqS (v := ?_) rfl rfl (by kernel_rfl) ?_ ?_; rotate_left; (focus (intro x hS; first | (obtain ⟨hS1, hS2⟩ := hS; have a0 := hS1 0 _ rfl; have a1 := hS1 1 _ rfl; have a2 := hS1 2 _ rfl; have a3 := hS1 3 _ rfl; have b0 := hS2 0 _ rfl; have b1 := hS2 1 _ rfl; have b2 := hS2 2 _ rfl; have b3 := hS2 3 _ rfl; simp only [Nat.add_zero] at a0 b0; go_simp; try (with_reducible rfl)))); try simp only [Act.put, List.setIfInBounds_toArray, List.set_cons_zero, List.set_cons_succ]) | (refine seqX rfl rfl (by kernel_rfl) ?_; try simp only [Act.put, List.setIfInBounds_toArray, List.set_cons_zero, List.set_cons_succ]))
      refine seqE ?_
      go_wp2_with fail
      go_roundw
      case rel => exact ⟨i + 1, by have := HLT.out; omega, by go_num, HR2.out⟩
      case measure => simp [intOf]; have := HLT.out; omega
    · obtain rfl : n = i := by omega
      have HR2 := Lib.hid hR
      clear hlt hi hR
      go_wp2_with fail
      go_ret
      exact ⟨rfl, HR2.out⟩
end
end
section
open Go.RowKit Go.MapKept

def cfg15 (n : Int) : CfgX := ⟨n % 4, 3 * (n % 4) + 1, n / 4 % 4 + 1, 10 + n / 16 % 4, 14 + n / 64 % 8, n / 512 % 4 + 1, n / 2048 % 8 + 2, n / 16384 % 4 + 1⟩
theorem cfg15_good (n : Int) : (cfg15 n).Good := by
  have h : 0 ≤ n % 4 ∧ n % 4 ≤ 3 := by omega
  show 0 ≤ n % 4 ∧ n % 4 ≤ 1000 ∧ 3 * (n % 4) + 1 = 3 * (n % 4) + 1
  omega
theorem i64_andm3 (n : Int) : bits .and .i64 n 3 = n % 4 := i64_and_mask 2 (by decide) n
theorem i64_andm7 (n : Int) : bits .and .i64 n 7 = n % 8 := i64_and_mask 3 (by decide) n
section
variable {w : World} {m : Nat → Thing} {l : List Thing}
set_option maxRecDepth 100000 in
set_option maxHeartbeats 4000000 in
theorem config15 (n : Int) (h : Sys w m l) :
    Calls Tryz.prog 24 #[.int .i64 n] w fun e w' => e = .returned (.agg (cfg15 n).cells.toArray) ∧ Sys w' m l := by
  have b1 : bits .and .i64 n 3 = n % 4 := i64_andm3 n
  have b2 : bits .and .i64 (n / 4) 3 = n / 4 % 4 := i64_andm3 _
  have b3 : bits .and .i64 (n / 16) 3 = n / 16 % 4 := i64_andm3 _
  have b4 : bits .and .i64 (n / 64) 7 = n / 64 % 8 := i64_andm7 _
  have b5 : bits .and .i64 (n / 512) 3 = n / 512 % 4 := i64_andm3 _
  have b6 : bits .and .i64 (n / 2048) 7 = n / 2048 % 8 := i64_andm7 _
  have b7 : bits .and .i64 (n / 16384) 3 = n / 16384 % 4 := i64_andm3 _
  have w1 : IntKind.i64.wrap (3 * (n % 4)) = 3 * (n % 4) := by rw [IntKind.wrap_i64]; omega
  have w2 : IntKind.i64.wrap (3 * (n % 4) + 1) = 3 * (n % 4) + 1 := by rw [IntKind.wrap_i64]; omega
  have w3 : IntKind.i64.wrap (n / 4 % 4 + 1) = n / 4 % 4 + 1 := by rw [IntKind.wrap_i64]; omega
  have w4 : IntKind.i64.wrap (10 + n / 16 % 4) = 10 + n / 16 % 4 := by rw [IntKind.wrap_i64]; omega
  have w5 : IntKind.i64.wrap (14 + n / 64 % 8) = 14 + n / 64 % 8 := by rw [IntKind.wrap_i64]; omega
  have w6 : IntKind.i64.wrap (n / 512 % 4 + 1) = n / 512 % 4 + 1 := by rw [IntKind.wrap_i64]; omega
  have w7 : IntKind.i64.wrap (n / 2048 % 8 + 2) = n / 2048 % 8 + 2 := by rw [IntKind.wrap_i64]; omega
  have w8 : IntKind.i64.wrap (n / 16384 % 4 + 1) = n / 16384 % 4 + 1 := by rw [IntKind.wrap_i64]; omega
  have H0 := Lib.hid h
  clear h
  go_enter Tryz.func24, Tryz.ntmps24
  go_wp2_with fail
  have H1 := (H0.out.alloc (.cells #[.int .i64 (n % 4), .int .i64 (3 * (n % 4) + 1), .int .i64 (n / 4 % 4 + 1), .int .i64 (10 + n / 16 % 4), .int .i64 (14 + n / 64 % 8), .int .i64 (n / 512 % 4 + 1), .int .i64 (n / 2048 % 8 + 2), .int .i64 (n / 16384 % 4 + 1)] 23 (0, 0)) rfl).alloc (.cells #[.int .i64 (n % 4), .int .i64 (3 * (n % 4) + 1), .int .i64 (n / 4 % 4 + 1), .int .i64 (10 + n / 16 % 4), .int .i64 (14 + n / 64 % 8), .int .i64 (n / 512 % 4 + 1), .int .i64 (n / 2048 % 8 + 2), .int .i64 (n / 16384 % 4 + 1)] 23 (0, 0)) rfl
  refine bodyPost_ret (results_cell_row (cs := #[.int .i64 (n % 4), .int .i64 (3 * (n % 4) + 1), .int .i64 (n / 4 % 4 + 1), .int .i64 (10 + n / 16 % 4), .int .i64 (14 + n / 64 % 8), .int .i64 (n / 512 % 4 + 1), .int .i64 (n / 2048 % 8 + 2), .int .i64 (n / 16384 % 4 + 1)]) rfl _ _ w.heap.size _ _ _ rfl (H1.nth 1 rfl) Tryz.underlying23 rfl size8) rfl ?_
  exact ⟨rfl, H1.tail.tail⟩
end
end
section
open Go.RowKit Go.MapKept

section
variable {w w' : World} {m : Nat → Thing} {l : List Thing} {p pt pg : Nat} {d : Wd} {X : WX} {T : List (Int × BlkX)} {k : Nat}
theorem law_commit (hT : TW X T k) (i : Nat) (hi : i < T.length) (hm0 : m 0 = worldT p d X) (hm1 : m 1 = treeT pt p 1 T) (hm2 : m 2 = logT pg p pt 1 [] []) (h : Sys w m l) :
    Calls Tryz.prog 21 #[.pointer (some ⟨pg, 0, none⟩), .int .i64 (T[i]'hi).1] w fun z w' => ∃ (b : Bool) (tip : Int) (L : List EnvX) (I : List Int), z = .returned (.bool b) ∧ Sys w' (upd m 2 (logT pg p pt tip L I)) l := by
  have hcap : ∀ x, (bk T x).view ≤ 90000 := fun x => by have := hT.vw x; have := hT.k12; omega
  have hXT : X.T.length ≤ 1000000000 := by have := hT.xt; have := hT.k12; omega
  by_cases h0 : 0 < i
  · refine (clog_commit_on (T[i]'hi).1 _ true hT.inv hcap hT.tin hXT (hT.back hi h0) (hT.path hi) rfl (by have := hT.wlen (T[i]'hi).1; omega) (by have := hT.wenv (T[i]'hi).1; simp only [List.length_nil]; omega) hm0 hm1 hm2 h).mono ?_
    rintro z w1 ⟨rfl, h1⟩
    exact ⟨_, _, _, _, rfl, h1⟩
  · obtain rfl : i = 0 := by omega
    obtain ⟨g0, g⟩ := hT.root1
    have e : (T[0]'hi).1 = 1 := by rw [g]
    rw [e]
    refine (clog_commit_back 1 hT.inv hcap hT.back0 hm1 hm2 h).mono ?_
    rintro z w1 ⟨rfl, h1⟩
    exact ⟨_, 1, [], [], rfl, by rw [upd_self hm2]; exact h1⟩
end
theorem i64_andm31 (n : Int) : bits .and .i64 n 31 = n % 32 := i64_and_mask 5 (by decide) n
theorem batchN_le (k : Nat) : ∀ (L : List EnvX), (batchN L k).length ≤ k := by
  induction k with
  | zero => intro L; simp [batchN]
  | succ k ih =>
    intro L
    unfold batchN
    split
    · simp
    · rename_i i hi
      rw [List.length_cons]
      have := ih (L.eraseIdx i)
      omega
theorem batchN_nodup (k : Nat) : ∀ (L : List EnvX), L.Nodup → (batchN L k).Nodup := by
  induction k with
  | zero => intro L _; simp [batchN]
  | succ k ih =>
    intro L hL
    unfold batchN
    split
    · exact List.nodup_nil
    · rename_i i hi
      rw [List.findIdx?_eq_some_iff_getElem] at hi
      obtain ⟨hl, _⟩ := hi
      rw [List.nodup_cons]
      refine ⟨fun hm => ?_, ih _ (hL.sublist (List.eraseIdx_sublist _ _))⟩
      have h1 := batchN_mem _ _ _ hm
      rw [List.getD_eq_getElem?_getD, List.getElem?_eq_getElem hl, Option.getD_some, List.mem_eraseIdx_iff_getElem] at h1
      obtain ⟨j, hj, hne, he⟩ := h1
      exact hne ((List.getElem_inj (h₀ := hj) (h₁ := hl) hL).1 he)
theorem sign_block2 {X : WX} (hX : X.Ok) (b : BlkX) (he : ∀ e ∈ b.envs, envB e ∈ X.T) : signedB (signBlk X b) b = true ∧ (∀ x, x ≠ leadB (blkD X b) → sg (signBlk X b) x = sg X x) ∧ (signBlk X b).Ok ∧ X.Ext 2 { signBlk X b with f := X.f } := by
  obtain ⟨B, hB⟩ : ∃ B, B = blockB X b := ⟨_, rfl⟩
  have eX : envsX X b.envs = X := envsX_in _ he
  have e0 : ∀ (Y : WX) (n : Nat), X.Ext n { Y with f := X.f } → Y.C = X.C → envsX Y b.envs = Y ∧ blockB Y b = B := by
    intro Y n hY _
    have hin : ∀ e ∈ b.envs, envB e ∈ Y.T := fun e h => hY.mem (he e h)
    have e1 : envsX Y b.envs = Y := envsX_in _ hin
    refine ⟨e1, ?_⟩
    rw [hB]
    unfold blockB blkL envsD
    rw [e1, eX]
    congr 2
    exact List.map_congr_left fun e h => hY.dg (he e h)
  have h1X : X.Ext 0 { X with f := X.f } := WX.Ext.refl X
  have e1 : blkX X b = X.digest B := by unfold blkX; rw [eX, hB]
  have e2 : blkD X b = dg X.T B := by unfold blkD; rw [eX, hB]
  have hd : (X.digest B).Ok := (X.ext_digest B).ok hX
  have hs : signBlk X b = (X.digest B).signB b.author (leadB (blkD X b)) := by unfold signBlk; rw [e1]
  have h9 : { signBlk X b with f := X.f } = (X.digest B).digest (leadB (blkD X b)) := by rw [hs]; rfl
  have hext : X.Ext 2 { signBlk X b with f := X.f } := by rw [h9]; exact (X.ext_digest B).trans (WX.ext_digest _ _)
  obtain ⟨f1, f2⟩ := e0 (signBlk X b) 2 hext hext.C
  have g1 : blkX (signBlk X b) b = (signBlk X b).digest B := by unfold blkX; rw [f1, f2]
  have g2 : blkD (signBlk X b) b = dg (signBlk X b).T B := by unfold blkD; rw [f1, f2]
  have hok : (signBlk X b).Ok := by rw [hs]; exact signB_ok hd _ _
  have hD : blkD (signBlk X b) b = blkD X b := by rw [g2, e2, hs, dg_signB (.inl (mem_digest _ _)), dg_digest]
  refine ⟨?_, fun x hx => ?_, hok, hext⟩
  · unfold signedB
    rw [hD]
    have h1 : sg (blkX (signBlk X b) b) (leadB (blkD X b)) = sg (signBlk X b) (leadB (blkD X b)) := by rw [g1]; exact sg_ext hok (WX.ext_digest _ _) _
    have h2 : (blkX (signBlk X b) b).f = (signBlk X b).f := by rw [g1]; exact (WX.ext_digest _ _).f
    unfold sg at h1
    rw [h2] at h1
    rw [h1]
    have h3 : sg (signBlk X b) (leadB (blkD X b)) = addTo (sg (X.digest B) (leadB (blkD X b))) b.author := by rw [hs, sg_signB hd, if_pos rfl]
    unfold sg at h3
    rw [h3]
    simp only [decide_eq_true_eq]
    exact mem_addTo.2 (.inr rfl)
  · rw [hs, sg_signB hd, if_neg hx, sg_ext hX (X.ext_digest B)]
theorem env_lead (e : EnvX) (c : Int) : envB e ≠ leadB c := by
  intro h
  have h2 : (43 : Nat) = 20 := congrArg List.length h
  cases h2
section
variable {X : WX} {T : List (Int × BlkX)} {k : Nat} {LP : List EnvX} {c : CfgX}
/-- What the pool gives for a block. -/
def plE (X : WX) (T : List (Int × BlkX)) (tip hb : Int) (LP : List EnvX) (bt : Int) : List EnvX := packV X T 1 tip hb LP bt
theorem plE_mem {tip hb bt : Int} (hLP : ∀ e ∈ LP, e ∈ fewP 6) : ∀ e ∈ packV X T 1 tip hb LP bt, e ∈ fewP 6 := fun e he => hLP e (List.mem_filter.1 (batchN_mem _ _ _ he)).1
theorem plays_ok (hT : TW X T k) (hLP : ∀ e ∈ LP, e ∈ fewP 6) (hnd : LP.Nodup) (hbt : 0 ≤ c.bt) (tip view who : Int) (hv : 1 ≤ view) (hw : who = leadOf c view) (b : BlkX) (hb : b = ⟨view, who, 0, 1, [], packV X T 1 tip 1 LP c.bt⟩) : blkOkB (signBlk X b) c b = true := by
  have hin : ∀ e ∈ b.envs, e ∈ fewP 6 := by rw [hb]; exact plE_mem hLP
  obtain ⟨g1, g2, g3, g4⟩ := sign_block2 hT.ok b fun e he => (hT.few e (hin e he)).1
  have hroot : dg (signBlk X b).T rootB = 1 := by have := g4.dg hT.root; rw [hT.rt] at this; exact this
  have hq : qcB (signBlk X b) c b.jv b.jb b.by_ = true := by
    rw [hb] at hroot ⊢
    unfold qcB
    rw [if_pos (by show (0 : Int) < 1; decide)]
    simp [hroot]
  have hu : unlikeB (signBlk X b) b.envs = true := by
    unfold unlikeB
    simp only [decide_eq_true_eq]
    refine ⟨?_, fun e he => ?_⟩
    · have hn : b.envs.Nodup := by rw [hb]; exact batchN_nodup _ _ (hnd.sublist List.filter_sublist)
      rw [List.nodup_iff_pairwise_ne, List.pairwise_map]
      refine (List.nodup_iff_pairwise_ne.1 hn).imp_of_mem fun {x y} hx hy hne h => hne (envB_injP (hin x hx) (hin y hy) h)
    · have h1 := (hT.few e (hin e he)).2
      unfold okE at h1 ⊢
      rw [g2 _ (env_lead _ _)]
      exact h1
  have hl : (b.envs.length : Int) ≤ c.bt := by
    rw [hb]
    have := batchN_le c.bt.toNat (LP.filter fun e => !(decide (dg X.T (envB e) ∈ Lib.compact (rising (dsOf X (skipV T 1 tip 1))))))
    show ((packV X T 1 tip 1 LP c.bt).length : Int) ≤ c.bt
    unfold packV
    omega
  unfold blkOkB
  rw [g1, hq, hu]
  have e1 : decide (1 ≤ b.view) = true := by rw [hb]; simpa using hv
  have e2 : decide (b.author = leadOf c b.view) = true := by rw [hb]; simpa using hw
  have e3 : decide (b.jv < b.view) = true := by rw [hb]; simp; omega
  have e4 : decide ((b.envs.length : Int) ≤ c.bt) = true := by simpa using hl
  rw [e1, e2, e3, e4]
  rfl
/-- What the pool tells behind the digests that the law has gathered is what the leader took. -/
theorem plays_batch (hT : TW X T k) (hLP : ∀ e ∈ LP, e ∈ fewP 6) (tip hb bt : Int) (Y : WX) (n : Nat) (hY : X.Ext n { Y with f := X.f }) :
    batchN (LP.filter fun e => !(decide (dg Y.T (envB e) ∈ rising (nubF (dsOf X (skipV T 1 tip hb)))))) bt.toNat = packV X T 1 tip hb LP bt := by
  unfold packV
  rw [compact_nub]
  congr 1
  refine List.filter_congr fun e he => ?_
  rw [show dg Y.T (envB e) = dg X.T (envB e) from hY.dg (hT.few e (hLP e he)).1]
theorem TW.none_ (hT : TW X T k) {x : Int} (hx : 100 ≤ x) : alook T x = none := by
  cases e : alook T x with
  | none => rfl
  | some v =>
    have h1 : (alook T x).isSome = true := by rw [e]; rfl
    obtain ⟨i, hi, h2⟩ := hT.idx h1
    have h3 := hT.key _ (List.getElem_mem hi)
    have := hT.xt
    have := hT.k12
    omega
def keyN (T : List (Int × BlkX)) (i : Nat) : Int := (T.getD i (0, zeroBlk)).1
theorem keyN_eq {i : Nat} (hi : i < T.length) : keyN T i = (T[i]'hi).1 := by unfold keyN; rw [List.getD_eq_getElem?_getD, List.getElem?_eq_getElem hi]; rfl
/-- How far the law has gathered what stands on the way. -/
def GI (T : List (Int × BlkX)) (tip : Int) (k0 : Nat) (t : Nat) (O : List EnvX) : Prop :=
  (∀ e ∈ O, e ∈ fewP 6) ∧ (t < (wayL T k0).length → O ++ skipV T 1 tip (keyN T ((wayL T k0).getD t 0)) = skipV T 1 tip (keyN T k0)) ∧ (t = (wayL T k0).length → O = skipV T 1 tip (keyN T k0))
theorem GI.start (tip : Int) (k0 : Nat) : GI T tip k0 0 [] := ⟨fun e he => (by cases he), fun _ => rfl, fun h => by simp [wayL] at h⟩
theorem GI.stop {tip : Int} {k0 t : Nat} {O : List EnvX} (h : GI T tip k0 t O) (ht : t < (wayL T k0).length) (he : keyN T ((wayL T k0).getD t 0) = tip) : O = skipV T 1 tip (keyN T k0) := by
  have h1 := h.2.1 ht
  rw [he, skipV_off (by unfold goOn; simp), List.append_nil] at h1
  exact h1
theorem GI.next (hT : TW X T k) {tip : Int} {k0 t : Nat} {O : List EnvX} (hk : k0 < T.length) (h : GI T tip k0 t O) (ht : t < (wayL T k0).length) (hne : keyN T ((wayL T k0).getD t 0) ≠ tip) :
    GI T tip k0 (t + 1) (O ++ (T.getD ((wayL T k0).getD t 0) (0, zeroBlk)).2.envs) := by
  obtain ⟨h1, h2, h3⟩ := hT.wayNext k0 k0 (Nat.le_refl _) hk t ht
  obtain ⟨cur, hc⟩ : ∃ c, c = (wayL T k0).getD t 0 := ⟨_, rfl⟩
  rw [← hc] at h1 h2 h3 hne ⊢
  have hg := h.2.1 ht
  rw [← hc] at hg
  have e1 : T.getD cur (0, zeroBlk) = T[cur]'h1 := by rw [List.getD_eq_getElem?_getD, List.getElem?_eq_getElem h1]; rfl
  have e2 := hT.bk_get cur h1
  have e3 := keyN_eq h1
  rw [e1]
  refine ⟨fun e he => ?_, fun h4 => ?_, fun h4 => ?_⟩
  · rcases List.mem_append.1 he with he | he
    · exact h.1 e he
    · rw [← e2] at he; exact (hT.envs _).1 e he
  · obtain ⟨g1, g2⟩ := h2 h4
    have hgo : goOn T 1 tip (T[cur]'h1).1 = true := goOn_iff.2 ⟨hT.some_ cur h1, by rw [← e3]; exact hne, hT.ne1 h1 g1⟩
    obtain ⟨hu, _, g3⟩ := hT.up h1 g1
    rw [e3, skipV_on hT.inv hgo, e2] at hg
    rw [g2, keyN_eq hu, g3, List.append_assoc]
    exact hg
  · have h0 := h3 h4
    obtain ⟨gz, gr⟩ := hT.root1
    have e5 : (T[cur]'h1) = (1, zeroBlk) := by simp only [h0]; exact gr
    rw [e3, e5, skipV_off (by unfold goOn; simp), List.append_nil] at hg
    rw [e5, show ((1, zeroBlk) : Int × BlkX).2.envs = [] from rfl, List.append_nil]
    exact hg
theorem GI.len (hT : TW X T k) {tip : Int} {k0 t : Nat} {O : List EnvX} (h : GI T tip k0 t O) (ht : t ≤ (wayL T k0).length) : O.length ≤ 150 := by
  have h1 := hT.slen tip (keyN T k0)
  rcases Nat.lt_or_ge t (wayL T k0).length with h2 | h2
  · have := congrArg List.length (h.2.1 h2)
    rw [List.length_append] at this
    omega
  · rw [h.2.2 (by omega)]; exact h1
end
end
end Go.Proofs.YtcfhkpjheemkgaaGreat
