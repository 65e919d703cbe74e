/-
  As XStage, with a second condition S2 on the world, which the stores keep: what a lookup needs that some store waits for by a chain alone.
-/
import Derived.Test.YtcfhkpjheemkgaaStage
namespace Go.Proofs.Ytcfhkpjheemkgaa
set_option linter.unusedSectionVars false
set_option linter.unnecessarySimpa false
set_option linter.unusedSimpArgs false
set_option linter.unusedVariables false
open Go

def Stage2 (st : List Nat) (S S2 : World → Prop) (l : Array Bool) (w : World) : Prop := S2 w ∧ (Fresh st l → S w)
section
variable {P : Program} {ops : Array Oper} {Q : Exit → Act → World → Prop} {md : Region.Mode} {S S2 : World → Prop} {st : List Nat}
def wpAnyT2 (P : Program) (md : Region.Mode) (ops : Array Oper) (Q : Exit → Act → World → Prop) (S S2 : World → Prop) (st : List Nat) : Nat → Array Bool → Act → World → Prop
  | 0, listed, a, w => Region.ready md ops listed = [] ∧ Q .normal a w
  | fuel + 1, listed, a, w =>
    (Region.ready md ops listed = [] → Q .normal a w) ∧
    ∀ i ∈ Region.ready md ops listed, wpOp P ops Q i (fun a' w' => Stage2 st S S2 (listed.setIfInBounds i true) w' ∧ wpAnyT2 P md ops Q S S2 st fuel (listed.setIfInBounds i true) a' w') a w
theorem wpAny_of_stage2 : ∀ (fuel : Nat) (listed : Array Bool) (a : Act) (w : World), wpAnyT2 P md ops Q S S2 st fuel listed a w → wpAny P md ops Q fuel listed a w
  | 0, _, _, _, h => h
  | fuel + 1, _, _, _, h => ⟨h.1, fun i hi => wpOp_mono (fun a' w' h' => wpAny_of_stage2 fuel _ a' w' h'.2) (h.2 i hi)⟩

/-- With B: what holds of the world as long as i has not come up, kept by all that may come up meanwhile. -/
theorem wpAnyT_first2 {B : Array Bool → World → Prop} {V : World → Prop} {i : Nat} {oi : Oper} {v : Value} (hi : ops[i]? = some oi) (hsel : ∀ (j : Nat) (o : Oper) cs b, ops[j]? = some o → o.op ≠ .select cs b)
    (hQ : ∀ c a w, Q (.panic c) (a.put oi.dst v) w → Q (.panic c) a w) (hBV : ∀ l w, B l w → V w) (hBi : ∀ l w, B l w → Stage2 st S S2 (l.setIfInBounds i true) w)
    (hBj : ∀ l w w' j, i ∈ Region.ready md ops l → j ∈ Region.ready md ops l → j ≠ i → B l w → Stage2 st S S2 ((l.setIfInBounds j true).setIfInBounds i true) w' → B (l.setIfInBounds j true) w' ∧ Stage2 st S S2 (l.setIfInBounds j true) w') :
    ∀ (fuel : Nat) (listed : Array Bool) (a : Act) (w : World),
      (∀ j oj, ops[j]? = some oj → j ≠ i → listed.getD j true = false → (∀ e ∈ oj.after, Region.binds md e = true → e.on ≠ i) → oi.apart ops oj = true) →
      i ∈ Region.ready md ops listed → YieldsIf P ops V oi v a → B listed w →
      wpAnyT2 P md ops Q S S2 st fuel (listed.setIfInBounds i true) (a.put oi.dst v) w → wpAnyT2 P md ops Q S S2 st (fuel + 1) listed a w := by
  intro fuel
  induction fuel with
  | zero =>
    intro listed a w _ hr hy hS H
    refine ⟨fun h => (by rw [h] at hr; cases hr), fun j hj => ?_⟩
    by_cases hji : j = i
    · subst hji; exact hy.wpOp hi (hBV _ _ hS) ⟨hBi _ _ hS, H⟩
    · have := ready_mono hj hji
      rw [H.1] at this
      cases this
  | succ fuel ih =>
    intro listed a w hfree hr hy hS H
    refine ⟨fun h => (by rw [h] at hr; cases hr), fun j hj => ?_⟩
    by_cases hji : j = i
    · subst hji; exact hy.wpOp hi (hBV _ _ hS) ⟨hBi _ _ hS, H⟩
    · have h1 := H.2 j (ready_mono hj hji)
      obtain ⟨hjun, oj, hoj, hall⟩ := mem_ready.1 hj
      have hnot : ∀ e ∈ oj.after, Region.binds md e = true → e.on ≠ i := fun e he hb heq => by
        have h1 := hall e he hb
        have h0 := (mem_ready.1 hr).1
        rw [heq] at h1
        rcases Nat.lt_or_ge i listed.size with h' | h'
        · simp [h'] at h0 h1; rw [h0] at h1; cases h1
        · simp [Array.getElem?_eq_none h'] at h1
      have h2 := wpOp_putIf hoj (hfree j oj hoj hji hjun hnot) (fun cs b => hsel i oi cs b hi) (fun cs b => hsel j oj cs b hoj) hQ hy h1
      have hfree' : ∀ k ok, ops[k]? = some ok → k ≠ i → (listed.setIfInBounds j true).getD k true = false →
          (∀ e ∈ ok.after, Region.binds md e = true → e.on ≠ i) → oi.apart ops ok = true := fun k ok hk hki hun hno => by
        refine hfree k ok hk hki ?_ hno
        by_cases hjk : j = k
        · subst hjk; exact hjun
        · rw [getD_set_ne true hjk] at hun; exact hun
      refine wpOp_mono (fun a' w' h3 => ?_) h2
      have h4 := h3.2.1
      have h5 := h3.2.2
      rw [← Array.setIfInBounds_comm _ _ hji] at h4 h5
      have h6 := hBj listed w w' j hr hj hji hS h4
      exact ⟨h6.2, ih (listed.setIfInBounds j true) a' w' hfree' (ready_mono hr (Ne.symm hji)) h3.1 h6.1 h5⟩

/-- A load (or what else yields in every world that meets S) is taken first: all stores wait for it. -/
theorem takeS2 (i : Nat) (d : Option Tmp) {oi : Oper} {v : Value} {fuel : Nat} {listed : Array Bool} {a : Act} {w : World} (hi : ops[i]? = some oi) (hd : oi.dst = d)
    (hs : Region.noSelect ops = true) (hf : Region.free md ops listed i = true) (hr : (Region.ready md ops listed).contains i = true)
    (hQ : ∀ c a w, Q (.panic c) (a.put d v) w → Q (.panic c) a w) (hw : Region.wanted oi (yielded ops a.tmps) = true) (hst : st.all (fun s => Region.waitsFor md ops s i && (s != i)) = true) (hF : st.all (fun s => !(listed.getD s true)) = true)
    (hy : ∀ w, S w → (execOp a.eval oi).run P w = .ok (.value v) w) (h2 : S2 w) (hS : S w)
    (h : wpAnyT2 P md ops Q S S2 st fuel (listed.setIfInBounds i true) (a.put d v) w) : wpAnyT2 P md ops Q S S2 st (fuel + 1) listed a w := by
  subst hd
  have hni : i ∉ st := fun hm => by have := List.all_eq_true.1 hst i hm; simp at this
  refine wpAnyT_first2 (B := fun l w => S2 w ∧ Fresh st l ∧ S w) (V := S) hi (Region.noSelect_spec hs) hQ (fun _ _ h => h.2.2) (fun _ _ h => ⟨h.1, fun _ => h.2.2⟩) ?_ fuel listed a w (Region.free_spec hi hf) (by simpa using hr) (Or.inl ⟨hw, hy⟩) ⟨h2, Fresh.of hF, hS⟩ h
  intro l w w' j hil hjl hji hB hT
  have hjs : j ∉ st := fun hm => by
    have h1 := List.all_eq_true.1 hst j hm
    have h2 : Region.waitsFor md ops j i = true := by simp at h1; exact h1.1
    obtain ⟨oj, hoj, e, he, hb, heq⟩ := Region.waitsFor_spec h2
    obtain ⟨_, oj', hoj', hall⟩ := mem_ready.1 hjl
    rw [hoj] at hoj'; cases hoj'
    have h3 := hall e he hb
    have h0 := (mem_ready.1 hil).1
    rw [heq] at h3
    rcases Nat.lt_or_ge i l.size with h' | h'
    · simp [h'] at h0 h3; rw [h0] at h3; cases h3
    · simp [Array.getElem?_eq_none h'] at h3
  have hfj := hB.2.1.set hjs
  exact ⟨⟨hT.1, hfj, hT.2 (hfj.set hni)⟩, hT.1, fun _ => hT.2 (hfj.set hni)⟩
/-- What yields in whatever world is taken first. -/
theorem takeW2 (i : Nat) (d : Option Tmp) {oi : Oper} {v : Value} {fuel : Nat} {listed : Array Bool} {a : Act} {w : World} (hi : ops[i]? = some oi) (hd : oi.dst = d)
    (hs : Region.noSelect ops = true) (hf : Region.free md ops listed i = true) (hr : (Region.ready md ops listed).contains i = true)
    (hQ : ∀ c a w, Q (.panic c) (a.put d v) w → Q (.panic c) a w) (hw : Region.wanted oi (yielded ops a.tmps) = true) (hst : st.all (fun s => s != i) = true)
    (hy : ∀ w, (execOp a.eval oi).run P w = .ok (.value v) w) (hT : Stage2 st S S2 listed w)
    (h : wpAnyT2 P md ops Q S S2 st fuel (listed.setIfInBounds i true) (a.put d v) w) : wpAnyT2 P md ops Q S S2 st (fuel + 1) listed a w := by
  subst hd
  have hni : i ∉ st := fun hm => by have := List.all_eq_true.1 hst i hm; simp at this
  refine wpAnyT_first2 (B := fun l w => Stage2 st S S2 l w) (V := fun _ => True) hi (Region.noSelect_spec hs) hQ (fun _ _ _ => trivial) (fun _ _ h => ⟨h.1, fun hf => h.2 hf.back⟩) ?_ fuel listed a w (Region.free_spec hi hf) (by simpa using hr) (Or.inl ⟨hw, fun w _ => hy w⟩) hT h
  intro l w w' j hil hjl hji hB hT
  exact ⟨⟨hT.1, fun hf => hT.2 (hf.set hni)⟩, hT.1, fun hf => hT.2 (hf.set hni)⟩
/-- What yields in every world that meets S2 is taken first. -/
theorem takeP2 (i : Nat) (d : Option Tmp) {oi : Oper} {v : Value} {fuel : Nat} {listed : Array Bool} {a : Act} {w : World} (hi : ops[i]? = some oi) (hd : oi.dst = d)
    (hs : Region.noSelect ops = true) (hf : Region.free md ops listed i = true) (hr : (Region.ready md ops listed).contains i = true)
    (hQ : ∀ c a w, Q (.panic c) (a.put d v) w → Q (.panic c) a w) (hw : Region.wanted oi (yielded ops a.tmps) = true) (hst : st.all (fun s => s != i) = true)
    (hy : ∀ w, S2 w → (execOp a.eval oi).run P w = .ok (.value v) w) (hT : Stage2 st S S2 listed w)
    (h : wpAnyT2 P md ops Q S S2 st fuel (listed.setIfInBounds i true) (a.put d v) w) : wpAnyT2 P md ops Q S S2 st (fuel + 1) listed a w := by
  subst hd
  have hni : i ∉ st := fun hm => by have := List.all_eq_true.1 hst i hm; simp at this
  refine wpAnyT_first2 (B := fun l w => Stage2 st S S2 l w) (V := S2) hi (Region.noSelect_spec hs) hQ (fun _ _ h => h.1) (fun _ _ h => ⟨h.1, fun hf => h.2 hf.back⟩) ?_ fuel listed a w (Region.free_spec hi hf) (by simpa using hr) (Or.inl ⟨hw, hy⟩) hT h
  intro l w w' j hil hjl hji hB hT
  exact ⟨⟨hT.1, fun hf => hT.2 (hf.set hni)⟩, hT.1, fun hf => hT.2 (hf.set hni)⟩
/-- What its guard does not want is passed over. -/
theorem skipT2 (i : Nat) (d : Option Tmp) {fuel : Nat} {listed : Array Bool} {a : Act} {w : World} (hi : (ops[i]?).map (fun o => (o.dst, Region.wanted o (yielded ops a.tmps))) = some (d, false))
    (hs : Region.noSelect ops = true) (hf : Region.free md ops listed i = true) (hr : (Region.ready md ops listed).contains i = true)
    (hQ : ∀ c a w, Q (.panic c) (a.put d undef) w → Q (.panic c) a w) (hst : st.all (fun s => s != i) = true) (hT : Stage2 st S S2 listed w)
    (h : wpAnyT2 P md ops Q S S2 st fuel (listed.setIfInBounds i true) (a.put d undef) w) : wpAnyT2 P md ops Q S S2 st (fuel + 1) listed a w := by
  cases e : ops[i]? with
  | none => rw [e] at hi; cases hi
  | some oi =>
    rw [e] at hi
    have h1 := Option.some.inj hi
    have hd : oi.dst = d := congrArg Prod.fst h1
    have hw : Region.wanted oi (yielded ops a.tmps) = false := congrArg Prod.snd h1
    subst hd
    have hni : i ∉ st := fun hm => by have := List.all_eq_true.1 hst i hm; simp at this
    refine wpAnyT_first2 (B := fun l w => Stage2 st S S2 l w) (V := fun _ => True) e (Region.noSelect_spec hs) hQ (fun _ _ _ => trivial) (fun _ _ h => ⟨h.1, fun hf => h.2 hf.back⟩) ?_ fuel listed a w (Region.free_spec e hf) (by simpa using hr) (Or.inr ⟨hw, rfl⟩) hT h
    intro l w w' j hil hjl hji hB hT
    exact ⟨⟨hT.1, fun hf => hT.2 (hf.set hni)⟩, hT.1, fun hf => hT.2 (hf.set hni)⟩
/-- One operation alone comes up. -/
theorem oneT2 (i : Nat) {fuel : Nat} {listed : Array Bool} {a : Act} {w : World} {o : Oper} (hr : Region.ready md ops listed = [i]) (ho : ops[i]? = some o)
    (h : ∀ K' : Act → World → Prop, Shut (∀ a w, Stage2 st S S2 (listed.setIfInBounds i true) w → (Stage2 st S S2 (listed.setIfInBounds i true) w → wpAnyT2 P md ops Q S S2 st fuel (listed.setIfInBounds i true) a w) → K' a w) → if Region.wanted o (yielded ops a.tmps) = true then Oper.wp P o a w K' Q else K' (a.put o.dst undef) w) : wpAnyT2 P md ops Q S S2 st (fuel + 1) listed a w := by
  refine ⟨fun h0 => (by rw [hr] at h0; cases h0), fun j hj => ?_⟩
  rw [hr, List.mem_singleton] at hj
  subst hj
  exact wpOp_step ho (fun K' hK => h K' (fun a w hS hW => hK a w ⟨hS, hW hS⟩))
/-- One of two comes up. -/
theorem twoT2 (i j : Nat) {fuel : Nat} {listed : Array Bool} {a : Act} {w : World} {o q : Oper} (hr : Region.ready md ops listed = [i, j]) (ho : ops[i]? = some o) (hq : ops[j]? = some q)
    (h : ∀ K' : Act → World → Prop, Shut (∀ a w, Stage2 st S S2 (listed.setIfInBounds i true) w → (Stage2 st S S2 (listed.setIfInBounds i true) w → wpAnyT2 P md ops Q S S2 st fuel (listed.setIfInBounds i true) a w) → K' a w) → if Region.wanted o (yielded ops a.tmps) = true then Oper.wp P o a w K' Q else K' (a.put o.dst undef) w)
    (g : ∀ K' : Act → World → Prop, Shut (∀ a w, Stage2 st S S2 (listed.setIfInBounds j true) w → (Stage2 st S S2 (listed.setIfInBounds j true) w → wpAnyT2 P md ops Q S S2 st fuel (listed.setIfInBounds j true) a w) → K' a w) → if Region.wanted q (yielded ops a.tmps) = true then Oper.wp P q a w K' Q else K' (a.put q.dst undef) w) : wpAnyT2 P md ops Q S S2 st (fuel + 1) listed a w := by
  refine ⟨fun h0 => (by rw [hr] at h0; cases h0), fun k hk => ?_⟩
  rw [hr] at hk
  rcases List.mem_cons.1 hk with hk | hk
  · subst hk
    exact wpOp_step ho (fun K' hK => h K' (fun a w hS hW => hK a w ⟨hS, hW hS⟩))
  · rw [List.mem_singleton] at hk
    subst hk
    exact wpOp_step hq (fun K' hK => g K' (fun a w hS hW => hK a w ⟨hS, hW hS⟩))
theorem doneT2 {listed : Array Bool} {a : Act} {w : World} (hr : Region.ready md ops listed = []) (h : Q .normal a w) :
    ∀ fuel, wpAnyT2 P md ops Q S S2 st fuel listed a w
  | 0 => ⟨hr, h⟩
  | _ + 1 => ⟨fun _ => h, by rw [hr]; simp⟩
theorem Stage2.still {l : Array Bool} {w : World} (h2 : S2 w) (h : S w) : Stage2 st S S2 l w := ⟨h2, fun _ => h⟩
theorem Stage2.past {l : Array Bool} {w : World} (h2 : S2 w) (h : st.all (fun s => !(l.getD s true)) = false) : Stage2 st S S2 l w := ⟨h2, fun hf => (Fresh.not h hf).elim⟩
theorem wp_region_stage2 {id : Nat} {a : Act} {w : World} (S S2 : World → Prop) (st : List Nat) (hm : P.follows .mixedOrders = true)
    (h : wpAnyT2 P .any ops Q S S2 st ops.size (Array.replicate ops.size false) a w.drew) : (Code.region id ops true).wp P Q a w :=
  wp_region_any hm (wpAny_of_stage2 _ _ _ _ h)
end
end Go.Proofs.Ytcfhkpjheemkgaa
