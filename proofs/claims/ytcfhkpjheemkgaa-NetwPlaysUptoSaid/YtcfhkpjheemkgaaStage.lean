/-
  A drawn region whose last operations store where the first ones load: the condition S on the world is asked as long as none of the stores st has come up.
-/
import Derived.Test.YtcfhkpjheemkgaaHeld
import Derived.StillTail
namespace Go.Proofs.Ytcfhkpjheemkgaa
set_option linter.unusedSectionVars false
set_option linter.unusedSimpArgs false
set_option linter.unusedVariables false
open Go

/-- None of the stores has come up. -/
def Fresh (st : List Nat) (l : Array Bool) : Prop := ∀ s ∈ st, l.getD s true = false
def Stage (st : List Nat) (S : World → Prop) (l : Array Bool) (w : World) : Prop := Fresh st l → S w
section
variable {P : Program} {ops : Array Oper} {Q : Exit → Act → World → Prop} {md : Region.Mode} {S : World → Prop} {st : List Nat}
theorem Fresh.of {l : Array Bool} (h : st.all (fun s => !(l.getD s true)) = true) : Fresh st l := fun s hs => by simpa using List.all_eq_true.1 h s hs
theorem Fresh.not {l : Array Bool} (h : st.all (fun s => !(l.getD s true)) = false) : ¬ Fresh st l := fun hf => by
  have : st.all (fun s => !(l.getD s true)) = true := List.all_eq_true.2 fun s hs => by simp [hf s hs]
  rw [this] at h; cases h
theorem Fresh.back {l : Array Bool} {i : Nat} (h : Fresh st (l.setIfInBounds i true)) : Fresh st l := fun s hs => by
  have := h s hs
  by_cases e : i = s
  · subst e
    by_cases hb : i < l.size
    · simp [hb] at this
    · simp [hb] at this
  · rwa [getD_set_ne true e] at this
theorem Fresh.set {l : Array Bool} {i : Nat} (h : Fresh st l) (hi : i ∉ st) : Fresh st (l.setIfInBounds i true) := fun s hs => by
  have e : i ≠ s := fun e => hi (e ▸ hs)
  rw [getD_set_ne true e]; exact h s hs

def wpAnyT (P : Program) (md : Region.Mode) (ops : Array Oper) (Q : Exit → Act → World → Prop) (S : World → Prop) (st : List Nat) : Nat → Array Bool → Act → World → Prop
  | 0, listed, a, w => Region.ready md ops listed = [] ∧ Q .normal a w
  | fuel + 1, listed, a, w =>
    (Region.ready md ops listed = [] → Q .normal a w) ∧
    ∀ i ∈ Region.ready md ops listed, wpOp P ops Q i (fun a' w' => Stage st S (listed.setIfInBounds i true) w' ∧ wpAnyT P md ops Q S st fuel (listed.setIfInBounds i true) a' w') a w
theorem wpAny_of_stage : ∀ (fuel : Nat) (listed : Array Bool) (a : Act) (w : World), wpAnyT P md ops Q S st fuel listed a w → wpAny P md ops Q fuel listed a w
  | 0, _, _, _, h => h
  | fuel + 1, _, _, _, h => ⟨h.1, fun i hi => wpOp_mono (fun a' w' h' => wpAny_of_stage fuel _ a' w' h'.2) (h.2 i hi)⟩

/-- With B: what holds of the world as long as i has not come up, kept by all that may come up meanwhile. -/
theorem wpAnyT_first {B : Array Bool → World → Prop} {V : World → Prop} {i : Nat} {oi : Oper} {v : Value} (hi : ops[i]? = some oi) (hsel : ∀ (j : Nat) (o : Oper) cs b, ops[j]? = some o → o.op ≠ .select cs b)
    (hQ : ∀ c a w, Q (.panic c) (a.put oi.dst v) w → Q (.panic c) a w) (hBV : ∀ l w, B l w → V w) (hBi : ∀ l w, B l w → Stage st S (l.setIfInBounds i true) w)
    (hBj : ∀ l w w' j, i ∈ Region.ready md ops l → j ∈ Region.ready md ops l → j ≠ i → B l w → Stage st S ((l.setIfInBounds j true).setIfInBounds i true) w' → B (l.setIfInBounds j true) w' ∧ Stage st S (l.setIfInBounds j true) w') :
    ∀ (fuel : Nat) (listed : Array Bool) (a : Act) (w : World),
      (∀ j oj, ops[j]? = some oj → j ≠ i → listed.getD j true = false → (∀ e ∈ oj.after, Region.binds md e = true → e.on ≠ i) → oi.apart ops oj = true) →
      i ∈ Region.ready md ops listed → YieldsIf P ops V oi v a → B listed w →
      wpAnyT P md ops Q S st fuel (listed.setIfInBounds i true) (a.put oi.dst v) w → wpAnyT P md ops Q S st (fuel + 1) listed a w := by
  intro fuel
  induction fuel with
  | zero =>
    intro listed a w _ hr hy hS H
    refine ⟨fun h => (by rw [h] at hr; cases hr), fun j hj => ?_⟩
    by_cases hji : j = i
    · subst hji; exact hy.wpOp hi (hBV _ _ hS) ⟨hBi _ _ hS, H⟩
    · have := ready_mono hj hji
      rw [H.1] at this
      cases this
  | succ fuel ih =>
    intro listed a w hfree hr hy hS H
    refine ⟨fun h => (by rw [h] at hr; cases hr), fun j hj => ?_⟩
    by_cases hji : j = i
    · subst hji; exact hy.wpOp hi (hBV _ _ hS) ⟨hBi _ _ hS, H⟩
    · have h1 := H.2 j (ready_mono hj hji)
      obtain ⟨hjun, oj, hoj, hall⟩ := mem_ready.1 hj
      have hnot : ∀ e ∈ oj.after, Region.binds md e = true → e.on ≠ i := fun e he hb heq => by
        have h1 := hall e he hb
        have h0 := (mem_ready.1 hr).1
        rw [heq] at h1
        rcases Nat.lt_or_ge i listed.size with h' | h'
        · simp [h'] at h0 h1; rw [h0] at h1; cases h1
        · simp [Array.getElem?_eq_none h'] at h1
      have h2 := wpOp_putIf hoj (hfree j oj hoj hji hjun hnot) (fun cs b => hsel i oi cs b hi) (fun cs b => hsel j oj cs b hoj) hQ hy h1
      have hfree' : ∀ k ok, ops[k]? = some ok → k ≠ i → (listed.setIfInBounds j true).getD k true = false →
          (∀ e ∈ ok.after, Region.binds md e = true → e.on ≠ i) → oi.apart ops ok = true := fun k ok hk hki hun hno => by
        refine hfree k ok hk hki ?_ hno
        by_cases hjk : j = k
        · subst hjk; exact hjun
        · rw [getD_set_ne true hjk] at hun; exact hun
      refine wpOp_mono (fun a' w' h3 => ?_) h2
      have h4 := h3.2.1
      have h5 := h3.2.2
      rw [← Array.setIfInBounds_comm _ _ hji] at h4 h5
      have h6 := hBj listed w w' j hr hj hji hS h4
      exact ⟨h6.2, ih (listed.setIfInBounds j true) a' w' hfree' (ready_mono hr (Ne.symm hji)) h3.1 h6.1 h5⟩

/-- A load (or what else yields in every world that meets S) is taken first: all stores wait for it. -/
theorem takeS (i : Nat) (d : Option Tmp) {oi : Oper} {v : Value} {fuel : Nat} {listed : Array Bool} {a : Act} {w : World} (hi : ops[i]? = some oi) (hd : oi.dst = d)
    (hs : Region.noSelect ops = true) (hf : Region.free md ops listed i = true) (hr : (Region.ready md ops listed).contains i = true)
    (hQ : ∀ c a w, Q (.panic c) (a.put d v) w → Q (.panic c) a w) (hw : Region.wanted oi (yielded ops a.tmps) = true) (hst : st.all (fun s => Region.waitsFor md ops s i && (s != i)) = true) (hF : st.all (fun s => !(listed.getD s true)) = true)
    (hy : ∀ w, S w → (execOp a.eval oi).run P w = .ok (.value v) w) (hS : S w)
    (h : wpAnyT P md ops Q S st fuel (listed.setIfInBounds i true) (a.put d v) w) : wpAnyT P md ops Q S st (fuel + 1) listed a w := by
  subst hd
  have hni : i ∉ st := fun hm => by have := List.all_eq_true.1 hst i hm; simp at this
  refine wpAnyT_first (B := fun l w => Fresh st l ∧ S w) (V := S) hi (Region.noSelect_spec hs) hQ (fun _ _ h => h.2) (fun _ _ h _ => h.2) ?_ fuel listed a w (Region.free_spec hi hf) (by simpa using hr) (Or.inl ⟨hw, hy⟩) ⟨Fresh.of hF, hS⟩ h
  intro l w w' j hil hjl hji hB hT
  have hjs : j ∉ st := fun hm => by
    have h1 := List.all_eq_true.1 hst j hm
    have h2 : Region.waitsFor md ops j i = true := by simp at h1; exact h1.1
    obtain ⟨oj, hoj, e, he, hb, heq⟩ := Region.waitsFor_spec h2
    obtain ⟨_, oj', hoj', hall⟩ := mem_ready.1 hjl
    rw [hoj] at hoj'; cases hoj'
    have h3 := hall e he hb
    have h0 := (mem_ready.1 hil).1
    rw [heq] at h3
    rcases Nat.lt_or_ge i l.size with h' | h'
    · simp [h'] at h0 h3; rw [h0] at h3; cases h3
    · simp [Array.getElem?_eq_none h'] at h3
  have hfj := hB.1.set hjs
  exact ⟨⟨hfj, hT (hfj.set hni)⟩, fun _ => hT (hfj.set hni)⟩
/-- What yields in whatever world is taken first. -/
theorem takeW (i : Nat) (d : Option Tmp) {oi : Oper} {v : Value} {fuel : Nat} {listed : Array Bool} {a : Act} {w : World} (hi : ops[i]? = some oi) (hd : oi.dst = d)
    (hs : Region.noSelect ops = true) (hf : Region.free md ops listed i = true) (hr : (Region.ready md ops listed).contains i = true)
    (hQ : ∀ c a w, Q (.panic c) (a.put d v) w → Q (.panic c) a w) (hw : Region.wanted oi (yielded ops a.tmps) = true) (hst : st.all (fun s => s != i) = true)
    (hy : ∀ w, (execOp a.eval oi).run P w = .ok (.value v) w) (hT : Stage st S listed w)
    (h : wpAnyT P md ops Q S st fuel (listed.setIfInBounds i true) (a.put d v) w) : wpAnyT P md ops Q S st (fuel + 1) listed a w := by
  subst hd
  have hni : i ∉ st := fun hm => by have := List.all_eq_true.1 hst i hm; simp at this
  refine wpAnyT_first (B := fun l w => Stage st S l w) (V := fun _ => True) hi (Region.noSelect_spec hs) hQ (fun _ _ _ => trivial) (fun _ _ h hf => h hf.back) ?_ fuel listed a w (Region.free_spec hi hf) (by simpa using hr) (Or.inl ⟨hw, fun w _ => hy w⟩) hT h
  intro l w w' j hil hjl hji hB hT
  exact ⟨fun hf => hT (hf.set hni), fun hf => hT (hf.set hni)⟩
/-- What its guard does not want is passed over. -/
theorem skipT (i : Nat) (d : Option Tmp) {fuel : Nat} {listed : Array Bool} {a : Act} {w : World} (hi : (ops[i]?).map (fun o => (o.dst, Region.wanted o (yielded ops a.tmps))) = some (d, false))
    (hs : Region.noSelect ops = true) (hf : Region.free md ops listed i = true) (hr : (Region.ready md ops listed).contains i = true)
    (hQ : ∀ c a w, Q (.panic c) (a.put d undef) w → Q (.panic c) a w) (hst : st.all (fun s => s != i) = true) (hT : Stage st S listed w)
    (h : wpAnyT P md ops Q S st fuel (listed.setIfInBounds i true) (a.put d undef) w) : wpAnyT P md ops Q S st (fuel + 1) listed a w := by
  cases e : ops[i]? with
  | none => rw [e] at hi; cases hi
  | some oi =>
    rw [e] at hi
    have h1 := Option.some.inj hi
    have hd : oi.dst = d := congrArg Prod.fst h1
    have hw : Region.wanted oi (yielded ops a.tmps) = false := congrArg Prod.snd h1
    subst hd
    have hni : i ∉ st := fun hm => by have := List.all_eq_true.1 hst i hm; simp at this
    refine wpAnyT_first (B := fun l w => Stage st S l w) (V := fun _ => True) e (Region.noSelect_spec hs) hQ (fun _ _ _ => trivial) (fun _ _ h hf => h hf.back) ?_ fuel listed a w (Region.free_spec e hf) (by simpa using hr) (Or.inr ⟨hw, rfl⟩) hT h
    intro l w w' j hil hjl hji hB hT
    exact ⟨fun hf => hT (hf.set hni), fun hf => hT (hf.set hni)⟩
/-- One operation alone comes up. -/
theorem oneT (i : Nat) {fuel : Nat} {listed : Array Bool} {a : Act} {w : World} {o : Oper} (hr : Region.ready md ops listed = [i]) (ho : ops[i]? = some o)
    (h : ∀ K' : Act → World → Prop, Shut (∀ a w, Stage st S (listed.setIfInBounds i true) w → (Stage st S (listed.setIfInBounds i true) w → wpAnyT P md ops Q S st fuel (listed.setIfInBounds i true) a w) → K' a w) → if Region.wanted o (yielded ops a.tmps) = true then Oper.wp P o a w K' Q else K' (a.put o.dst undef) w) : wpAnyT P md ops Q S st (fuel + 1) listed a w := by
  refine ⟨fun h0 => (by rw [hr] at h0; cases h0), fun j hj => ?_⟩
  rw [hr, List.mem_singleton] at hj
  subst hj
  exact wpOp_step ho (fun K' hK => h K' (fun a w hS hW => hK a w ⟨hS, hW hS⟩))
/-- One of two comes up. -/
theorem twoT (i j : Nat) {fuel : Nat} {listed : Array Bool} {a : Act} {w : World} {o q : Oper} (hr : Region.ready md ops listed = [i, j]) (ho : ops[i]? = some o) (hq : ops[j]? = some q)
    (h : ∀ K' : Act → World → Prop, Shut (∀ a w, Stage st S (listed.setIfInBounds i true) w → (Stage st S (listed.setIfInBounds i true) w → wpAnyT P md ops Q S st fuel (listed.setIfInBounds i true) a w) → K' a w) → if Region.wanted o (yielded ops a.tmps) = true then Oper.wp P o a w K' Q else K' (a.put o.dst undef) w)
    (g : ∀ K' : Act → World → Prop, Shut (∀ a w, Stage st S (listed.setIfInBounds j true) w → (Stage st S (listed.setIfInBounds j true) w → wpAnyT P md ops Q S st fuel (listed.setIfInBounds j true) a w) → K' a w) → if Region.wanted q (yielded ops a.tmps) = true then Oper.wp P q a w K' Q else K' (a.put q.dst undef) w) : wpAnyT P md ops Q S st (fuel + 1) listed a w := by
  refine ⟨fun h0 => (by rw [hr] at h0; cases h0), fun k hk => ?_⟩
  rw [hr] at hk
  rcases List.mem_cons.1 hk with hk | hk
  · subst hk
    exact wpOp_step ho (fun K' hK => h K' (fun a w hS hW => hK a w ⟨hS, hW hS⟩))
  · rw [List.mem_singleton] at hk
    subst hk
    exact wpOp_step hq (fun K' hK => g K' (fun a w hS hW => hK a w ⟨hS, hW hS⟩))
theorem doneT {listed : Array Bool} {a : Act} {w : World} (hr : Region.ready md ops listed = []) (h : Q .normal a w) :
    ∀ fuel, wpAnyT P md ops Q S st fuel listed a w
  | 0 => ⟨hr, h⟩
  | _ + 1 => ⟨fun _ => h, by rw [hr]; simp⟩
theorem Stage.still {l : Array Bool} {w : World} (h : S w) : Stage st S l w := fun _ => h
theorem Stage.past {l : Array Bool} {w : World} (h : st.all (fun s => !(l.getD s true)) = false) : Stage st S l w := fun hf => (Fresh.not h hf).elim
theorem wp_region_stage {id : Nat} {a : Act} {w : World} (S : World → Prop) (st : List Nat) (hm : P.follows .mixedOrders = true)
    (h : wpAnyT P .any ops Q S st ops.size (Array.replicate ops.size false) a w.drew) : (Code.region id ops true).wp P Q a w :=
  wp_region_any hm (wpAny_of_stage _ _ _ _ h)
end
end Go.Proofs.Ytcfhkpjheemkgaa
