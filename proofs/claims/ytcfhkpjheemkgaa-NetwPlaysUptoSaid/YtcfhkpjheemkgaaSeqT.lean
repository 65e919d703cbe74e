/-
  A drawn region as a tree of steps: where one of two comes up, both ways are gone.
-/
import Derived.Test.YtcfhkpjheemkgaaSeq
namespace Go.Proofs.Ytcfhkpjheemkgaa
set_option linter.unusedSectionVars false
set_option linter.unnecessarySimpa false
set_option linter.unusedSimpArgs false
set_option linter.unusedVariables false
open Go

inductive SeqT where
  | e
  | s (i k : Nat) (d : Option Tmp) (t : SeqT)
  | b (i k : Nat) (d : Option Tmp) (t : SeqT) (j k' : Nat) (d' : Option Tmp) (u : SeqT)
  | c (i k : Nat) (d : Option Tmp) (t : SeqT) (j k' : Nat) (d' : Option Tmp) (u : SeqT) (n k'' : Nat) (d'' : Option Tmp) (v : SeqT)
section
variable {P : Program} {ops : Array Oper} {Q : Exit → Act → World → Prop} {md : Region.Mode} {S S2 : World → Prop} {st : List Nat}
def lateOk (st : List Nat) (i : Nat) (l : Array Bool) : Nat → Bool
  | 2 => true
  | 3 => !(st.all (fun s => !((l.setIfInBounds i true).getD s true)))
  | _ => false
def treeOk (md : Region.Mode) (ops : Array Oper) (st : List Nat) : SeqT → Array Bool → Nat → Bool
  | .e, l, _ => Region.ready md ops l == []
  | .s i k _ t, l, n => match n with
    | 0 => false
    | n + 1 => seqOne md ops st i l k && treeOk md ops st t (l.setIfInBounds i true) n
  | .b i k _ t j k' _ u, l, n => match n with
    | 0 => false
    | n + 1 => Region.ready md ops l == [i, j] && lateOk st i l k && lateOk st j l k' && treeOk md ops st t (l.setIfInBounds i true) n && treeOk md ops st u (l.setIfInBounds j true) n
  | .c i k _ t j k' _ u q k'' _ v, l, n => match n with
    | 0 => false
    | n + 1 => Region.ready md ops l == [i, j, q] && lateOk st i l k && lateOk st j l k' && lateOk st q l k'' && treeOk md ops st t (l.setIfInBounds i true) n && treeOk md ops st u (l.setIfInBounds j true) n && treeOk md ops st v (l.setIfInBounds q true) n
def wpTree (P : Program) (ops : Array Oper) (Q : Exit → Act → World → Prop) (S S2 : World → Prop) : SeqT → Act → World → Prop
  | .e, a, w => Q .normal a w
  | .s i k d t, a, w => ∃ o, ops[i]? = some o ∧ o.dst = d ∧ seqDo P ops Q S S2 o d (wpTree P ops Q S S2 t) a w k
  | .b i k d t j k' d' u, a, w => (∃ o, ops[i]? = some o ∧ o.dst = d ∧ seqDo P ops Q S S2 o d (wpTree P ops Q S S2 t) a w k) ∧ (∃ o, ops[j]? = some o ∧ o.dst = d' ∧ seqDo P ops Q S S2 o d' (wpTree P ops Q S S2 u) a w k')
  | .c i k d t j k' d' u q k'' d'' v, a, w => (∃ o, ops[i]? = some o ∧ o.dst = d ∧ seqDo P ops Q S S2 o d (wpTree P ops Q S S2 t) a w k) ∧ (∃ o, ops[j]? = some o ∧ o.dst = d' ∧ seqDo P ops Q S S2 o d' (wpTree P ops Q S S2 u) a w k') ∧ (∃ o, ops[q]? = some o ∧ o.dst = d'' ∧ seqDo P ops Q S S2 o d'' (wpTree P ops Q S S2 v) a w k'')
/-- One of three comes up. -/
theorem threeT2 (i j k : Nat) {fuel : Nat} {listed : Array Bool} {a : Act} {w : World} {o q r : Oper} (hr : Region.ready md ops listed = [i, j, k]) (ho : ops[i]? = some o) (hq : ops[j]? = some q) (hk : ops[k]? = some r)
    (h : ∀ K' : Act → World → Prop, Shut (∀ a w, Stage2 st S S2 (listed.setIfInBounds i true) w → (Stage2 st S S2 (listed.setIfInBounds i true) w → wpAnyT2 P md ops Q S S2 st fuel (listed.setIfInBounds i true) a w) → K' a w) → if Region.wanted o (yielded ops a.tmps) = true then Oper.wp P o a w K' Q else K' (a.put o.dst undef) w)
    (g : ∀ K' : Act → World → Prop, Shut (∀ a w, Stage2 st S S2 (listed.setIfInBounds j true) w → (Stage2 st S S2 (listed.setIfInBounds j true) w → wpAnyT2 P md ops Q S S2 st fuel (listed.setIfInBounds j true) a w) → K' a w) → if Region.wanted q (yielded ops a.tmps) = true then Oper.wp P q a w K' Q else K' (a.put q.dst undef) w)
    (f : ∀ K' : Act → World → Prop, Shut (∀ a w, Stage2 st S S2 (listed.setIfInBounds k true) w → (Stage2 st S S2 (listed.setIfInBounds k true) w → wpAnyT2 P md ops Q S S2 st fuel (listed.setIfInBounds k true) a w) → K' a w) → if Region.wanted r (yielded ops a.tmps) = true then Oper.wp P r a w K' Q else K' (a.put r.dst undef) w) : wpAnyT2 P md ops Q S S2 st (fuel + 1) listed a w := by
  refine ⟨fun h0 => (by rw [hr] at h0; cases h0), fun x hx => ?_⟩
  rw [hr] at hx
  rcases List.mem_cons.1 hx with hx | hx
  · subst hx
    exact wpOp_step ho (fun K' hK => h K' (fun a w hS hW => hK a w ⟨hS, hW hS⟩))
  · rcases List.mem_cons.1 hx with hx | hx
    · subst hx
      exact wpOp_step hq (fun K' hK => g K' (fun a w hS hW => hK a w ⟨hS, hW hS⟩))
    · rw [List.mem_singleton] at hx
      subst hx
      exact wpOp_step hk (fun K' hK => f K' (fun a w hS hW => hK a w ⟨hS, hW hS⟩))
/-- What a late step pays, in the region's own words. -/
theorem late_do {i : Nat} {o : Oper} {k : Nat} {fuel : Nat} {l : Array Bool} {a : Act} {w : World} {F : Act → World → Prop} (hl : lateOk st i l k = true) (h : seqDo P ops Q S S2 o o.dst F a w k)
    (hF : ∀ a w, Stage2 st S S2 (l.setIfInBounds i true) w → F a w → wpAnyT2 P md ops Q S S2 st fuel (l.setIfInBounds i true) a w) (K : Act → World → Prop)
    (hK : Shut (∀ a w, Stage2 st S S2 (l.setIfInBounds i true) w → (Stage2 st S S2 (l.setIfInBounds i true) w → wpAnyT2 P md ops Q S S2 st fuel (l.setIfInBounds i true) a w) → K a w)) :
    if Region.wanted o (yielded ops a.tmps) = true then Oper.wp P o a w K Q else K (a.put o.dst undef) w := by
  unfold lateOk at hl
  unfold seqDo at h
  split at hl
  · exact h K (fun a w g2 g gg => hK.out a w ⟨g2, fun _ => g⟩ (fun hSt => hF a w hSt (gg g2 g)))
  · simp only [Bool.not_eq_true'] at hl
    exact h K (fun a w g2 gg => hK.out a w (Stage2.past g2 hl) (fun hSt => hF a w hSt (gg g2)))
  · cases hl
theorem tree_sound (hs : Region.noSelect ops = true) (hQ : ∀ c a w d v, Q (.panic c) (a.put d v) w → Q (.panic c) a w) : ∀ (r : SeqT) (l : Array Bool) (a : Act) (w : World) (fuel : Nat), treeOk md ops st r l fuel = true → Stage2 st S S2 l w → wpTree P ops Q S S2 r a w → wpAnyT2 P md ops Q S S2 st fuel l a w
  | .e, l, a, w, fuel, hk, _, h => doneT2 (by simpa [treeOk] using hk) h fuel
  | .s i k d t, l, a, w, 0, hk, _, _ => by simp [treeOk] at hk
  | .s i k d t, l, a, w, fuel + 1, hk, hT, ⟨o, ho, hd, h⟩ => by
    subst hd
    simp only [treeOk, Bool.and_eq_true] at hk
    obtain ⟨h1, h2⟩ := hk
    have ih := fun a w => tree_sound hs hQ t (l.setIfInBounds i true) a w fuel h2
    unfold seqOne at h1
    unfold seqDo at h
    split at h
    · obtain ⟨v, hw, hy, hF⟩ := h
      simp only [Bool.and_eq_true] at h1
      exact takeW2 i o.dst ho rfl hs h1.1.1 h1.1.2 (fun c a w => hQ c a w _ _) hw h1.2 hy hT (ih _ w hT.set hF)
    · obtain ⟨v, hw, hy, hF⟩ := h
      simp only [Bool.and_eq_true] at h1
      exact takeS2 i o.dst ho rfl hs h1.1.1.1 h1.1.1.2 (fun c a w => hQ c a w _ _) hw h1.1.2 h1.2 hy hT.1 (hT.now h1.2) (ih _ w hT.set hF)
    · simp only [beq_iff_eq] at h1
      exact oneT2 i h1 ho (fun K hK => h K (fun a w g2 g gg => hK.out a w ⟨g2, fun _ => g⟩ (fun hSt => ih a w hSt (gg g2 g))))
    · simp only [Bool.and_eq_true, beq_iff_eq, Bool.not_eq_true'] at h1
      exact oneT2 i h1.1 ho (fun K hK => h K (fun a w g2 gg => hK.out a w (Stage2.past g2 h1.2) (fun hSt => ih a w hSt (gg g2))))
    · obtain ⟨hw, hF⟩ := h
      simp only [Bool.and_eq_true] at h1
      exact skipT2 i o.dst (by rw [ho]; simp [hw]) hs h1.1.1 h1.1.2 (fun c a w => hQ c a w _ _) h1.2 hT (ih _ w hT.set hF)
    · obtain ⟨v, hw, hy, hF⟩ := h
      split at h1
      · contradiction
      · contradiction
      · contradiction
      · simp only [Bool.and_eq_true] at h1
        exact takeP2 i o.dst ho rfl hs h1.1.1 h1.1.2 (fun c a w => hQ c a w _ _) hw h1.2 hy hT (ih _ w hT.set hF)
  | .b i k d t j k' d' u, l, a, w, 0, hk, _, _ => by simp [treeOk] at hk
  | .b i k d t j k' d' u, l, a, w, fuel + 1, hk, hT, ⟨⟨o, ho, hd, h⟩, ⟨o', ho', hd', h'⟩⟩ => by
    subst hd hd'
    simp only [treeOk, Bool.and_eq_true, beq_iff_eq] at hk
    obtain ⟨⟨⟨⟨hr, g1⟩, g2⟩, g3⟩, g4⟩ := hk
    exact twoT2 i j hr ho ho' (fun K hK => late_do g1 h (fun a w hSt => tree_sound hs hQ t _ a w fuel g3 hSt) K hK) (fun K hK => late_do g2 h' (fun a w hSt => tree_sound hs hQ u _ a w fuel g4 hSt) K hK)
  | .c i k d t j k' d' u q k'' d'' v, l, a, w, 0, hk, _, _ => by simp [treeOk] at hk
  | .c i k d t j k' d' u q k'' d'' v, l, a, w, fuel + 1, hk, hT, ⟨⟨o, ho, hd, h⟩, ⟨o', ho', hd', h'⟩, ⟨o'', ho'', hd'', h''⟩⟩ => by
    subst hd hd' hd''
    simp only [treeOk, Bool.and_eq_true, beq_iff_eq] at hk
    obtain ⟨⟨⟨⟨⟨⟨hr, g1⟩, g2⟩, g3⟩, g4⟩, g5⟩, g6⟩ := hk
    exact threeT2 i j q hr ho ho' ho'' (fun K hK => late_do g1 h (fun a w hSt => tree_sound hs hQ t _ a w fuel g4 hSt) K hK) (fun K hK => late_do g2 h' (fun a w hSt => tree_sound hs hQ u _ a w fuel g5 hSt) K hK) (fun K hK => late_do g3 h'' (fun a w hSt => tree_sound hs hQ v _ a w fuel g6 hSt) K hK)
theorem wp_region_tree {id : Nat} {a : Act} {w : World} (S S2 : World → Prop) (st : List Nat) (r : SeqT) (hm : P.follows .mixedOrders = true)
    (hk : (Region.noSelect ops && treeOk .any ops st r (Array.replicate ops.size false) ops.size) = true) (hQ : ∀ c a w d v, Q (.panic c) (a.put d v) w → Q (.panic c) a w)
    (hS : S w.drew) (hS2 : S2 w.drew) (h : wpTree P ops Q S S2 r a w.drew) : (Code.region id ops true).wp P Q a w := by
  simp only [Bool.and_eq_true] at hk
  exact wp_region_stage2 S S2 st hm (tree_sound hk.1 hQ r _ a _ _ hk.2 ⟨hS2, fun _ => hS⟩ h)
variable {i j : Nat} {r u : SeqT} {o o' : Oper} {d d' : Option Tmp} {v : Value} {a : Act} {w : World}
theorem trW (ho : ops[i]? = some o) (hd : o.dst = d) (hw : Region.wanted o (yielded ops a.tmps) = true) (hy : ∀ x, (execOp a.eval o).run P x = .ok (.value v) x) (h : wpTree P ops Q S S2 r (a.put d v) w) : wpTree P ops Q S S2 (.s i 0 d r) a w := ⟨o, ho, hd, v, hw, hy, h⟩
theorem trS (ho : ops[i]? = some o) (hd : o.dst = d) (hw : Region.wanted o (yielded ops a.tmps) = true) (hy : ∀ x, S x → (execOp a.eval o).run P x = .ok (.value v) x) (h : wpTree P ops Q S S2 r (a.put d v) w) : wpTree P ops Q S S2 (.s i 1 d r) a w := ⟨o, ho, hd, v, hw, hy, h⟩
theorem trP (ho : ops[i]? = some o) (hd : o.dst = d) (hw : Region.wanted o (yielded ops a.tmps) = true) (hy : ∀ x, S2 x → (execOp a.eval o).run P x = .ok (.value v) x) (h : wpTree P ops Q S S2 r (a.put d v) w) : wpTree P ops Q S S2 (.s i 5 d r) a w := ⟨o, ho, hd, v, hw, hy, h⟩
theorem trX (ho : ops[i]? = some o) (hd : o.dst = d) (hw : Region.wanted o (yielded ops a.tmps) = false) (h : wpTree P ops Q S S2 r (a.put d undef) w) : wpTree P ops Q S S2 (.s i 4 d r) a w := ⟨o, ho, hd, hw, h⟩
theorem trL (ho : ops[i]? = some o) (hd : o.dst = d) (h : ∀ K : Act → World → Prop, Shut (∀ a w, S2 w → S w → (S2 w → S w → wpTree P ops Q S S2 r a w) → K a w) → if Region.wanted o (yielded ops a.tmps) = true then Oper.wp P o a w K Q else K (a.put o.dst undef) w) : wpTree P ops Q S S2 (.s i 2 d r) a w := ⟨o, ho, hd, h⟩
theorem trT (ho : ops[i]? = some o) (hd : o.dst = d) (h : ∀ K : Act → World → Prop, Shut (∀ a w, S2 w → (S2 w → wpTree P ops Q S S2 r a w) → K a w) → if Region.wanted o (yielded ops a.tmps) = true then Oper.wp P o a w K Q else K (a.put o.dst undef) w) : wpTree P ops Q S S2 (.s i 3 d r) a w := ⟨o, ho, hd, h⟩
theorem trB {k k' : Nat} (h : wpTree P ops Q S S2 (.s i k d r) a w) (h' : wpTree P ops Q S S2 (.s j k' d' u) a w) : wpTree P ops Q S S2 (.b i k d r j k' d' u) a w := ⟨h, h'⟩
theorem trC {n : Nat} {z : SeqT} {d'' : Option Tmp} {k k' k'' : Nat} (h : wpTree P ops Q S S2 (.s i k d r) a w) (h' : wpTree P ops Q S S2 (.s j k' d' u) a w) (h'' : wpTree P ops Q S S2 (.s n k'' d'' z) a w) : wpTree P ops Q S S2 (.c i k d r j k' d' u n k'' d'' z) a w := ⟨h, h', h''⟩
theorem trE (h : Q .normal a w) : wpTree P ops Q S S2 .e a w := h
end
end Go.Proofs.Ytcfhkpjheemkgaa
