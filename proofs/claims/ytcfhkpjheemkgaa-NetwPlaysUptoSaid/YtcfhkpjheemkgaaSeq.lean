/-
  A drawn region as one row of steps: what may be taken first is taken first, the rest comes up alone.
-/
import Derived.Test.YtcfhkpjheemkgaaStageTwo
namespace Go.Proofs.Ytcfhkpjheemkgaa
set_option linter.unusedSectionVars false
set_option linter.unnecessarySimpa false
set_option linter.unusedSimpArgs false
set_option linter.unusedVariables false
open Go

section
variable {P : Program} {ops : Array Oper} {Q : Exit → Act → World → Prop} {md : Region.Mode} {S S2 : World → Prop} {st : List Nat}
/-- A step of a kind: 0: yields in whatever world; 1: yields where S holds; 2: comes up alone, and S lives on; 3: comes up alone, and S is done with; 4: is passed over; else: yields where S2 holds. -/
def seqOne (md : Region.Mode) (ops : Array Oper) (st : List Nat) (i : Nat) (l : Array Bool) : Nat → Bool
  | 1 => Region.free md ops l i && (Region.ready md ops l).contains i && st.all (fun s => Region.waitsFor md ops s i && (s != i)) && st.all (fun s => !(l.getD s true))
  | 2 => Region.ready md ops l == [i]
  | 3 => Region.ready md ops l == [i] && !(st.all (fun s => !((l.setIfInBounds i true).getD s true)))
  | _ => Region.free md ops l i && (Region.ready md ops l).contains i && st.all (fun s => s != i)
def seqOk (md : Region.Mode) (ops : Array Oper) (st : List Nat) : List (Nat × Nat × Option Tmp) → Array Bool → Bool
  | [], l => Region.ready md ops l == []
  | (i, k, _) :: r, l => seqOne md ops st i l k && seqOk md ops st r (l.setIfInBounds i true)
def seqDo (P : Program) (ops : Array Oper) (Q : Exit → Act → World → Prop) (S S2 : World → Prop) (o : Oper) (d : Option Tmp) (F : Act → World → Prop) (a : Act) (w : World) : Nat → Prop
  | 0 => ∃ v, Region.wanted o (yielded ops a.tmps) = true ∧ (∀ x, (execOp a.eval o).run P x = .ok (.value v) x) ∧ F (a.put d v) w
  | 1 => ∃ v, Region.wanted o (yielded ops a.tmps) = true ∧ (∀ x, S x → (execOp a.eval o).run P x = .ok (.value v) x) ∧ F (a.put d v) w
  | 2 => ∀ K : Act → World → Prop, Shut (∀ a w, S2 w → S w → (S2 w → S w → F a w) → K a w) → if Region.wanted o (yielded ops a.tmps) = true then Oper.wp P o a w K Q else K (a.put o.dst undef) w
  | 3 => ∀ K : Act → World → Prop, Shut (∀ a w, S2 w → (S2 w → F a w) → K a w) → if Region.wanted o (yielded ops a.tmps) = true then Oper.wp P o a w K Q else K (a.put o.dst undef) w
  | 4 => Region.wanted o (yielded ops a.tmps) = false ∧ F (a.put d undef) w
  | _ => ∃ v, Region.wanted o (yielded ops a.tmps) = true ∧ (∀ x, S2 x → (execOp a.eval o).run P x = .ok (.value v) x) ∧ F (a.put d v) w
def wpSeq (P : Program) (ops : Array Oper) (Q : Exit → Act → World → Prop) (S S2 : World → Prop)   : List (Nat × Nat × Option Tmp) → Act → World → Prop
  | [], a, w => Q .normal a w
  | (i, k, d) :: r, a, w => ∃ o, ops[i]? = some o ∧ o.dst = d ∧ seqDo P ops Q S S2 o d (wpSeq P ops Q S S2 r) a w k

theorem Stage2.now {l : Array Bool} {w : World} (h : Stage2 st S S2 l w) (hf : st.all (fun s => !(l.getD s true)) = true) : S w := h.2 (Fresh.of hf)
theorem Stage2.set {l : Array Bool} {w : World} {i : Nat} (h : Stage2 st S S2 l w) : Stage2 st S S2 (l.setIfInBounds i true) w := ⟨h.1, fun hf => h.2 hf.back⟩
theorem seq_sound (hs : Region.noSelect ops = true) (hQ : ∀ c a w d v, Q (.panic c) (a.put d v) w → Q (.panic c) a w) : ∀ (r : List (Nat × Nat × Option Tmp)) (l : Array Bool) (a : Act) (w : World) (fuel : Nat), r.length ≤ fuel → seqOk md ops st r l = true → Stage2 st S S2 l w → wpSeq P ops Q S S2 r a w → wpAnyT2 P md ops Q S S2 st fuel l a w
  | [], l, a, w, fuel, _, hk, _, h => doneT2 (by simpa [seqOk] using hk) h fuel
  | (i, k, d) :: r, l, a, w, 0, hl, _, _, _ => by simp at hl
  | (i, k, d) :: r, l, a, w, fuel + 1, hl, hk, hT, ⟨o, ho, hd, h⟩ => by
    subst hd
    have hl' : r.length ≤ fuel := by simpa using hl
    unfold seqOk at hk
    rw [Bool.and_eq_true] at hk
    obtain ⟨h1, h2⟩ := hk
    have ih := seq_sound hs hQ r (l.setIfInBounds i true)
    unfold seqOne at h1
    unfold seqDo at h
    split at h
    · obtain ⟨v, hw, hy, hF⟩ := h
      simp only [Bool.and_eq_true] at h1
      exact takeW2 i o.dst ho rfl hs h1.1.1 h1.1.2 (fun c a w => hQ c a w _ _) hw h1.2 hy hT (ih _ w fuel hl' h2 hT.set hF)
    · obtain ⟨v, hw, hy, hF⟩ := h
      simp only [Bool.and_eq_true] at h1
      exact takeS2 i o.dst ho rfl hs h1.1.1.1 h1.1.1.2 (fun c a w => hQ c a w _ _) hw h1.1.2 h1.2 hy hT.1 (hT.now h1.2) (ih _ w fuel hl' h2 hT.set hF)
    · simp only [beq_iff_eq] at h1
      exact oneT2 i h1 ho (fun K hK => h K (fun a w g2 g gg => hK.out a w ⟨g2, fun _ => g⟩ (fun hSt => ih a w fuel hl' h2 hSt (gg g2 g))))
    · simp only [Bool.and_eq_true, beq_iff_eq, Bool.not_eq_true'] at h1
      exact oneT2 i h1.1 ho (fun K hK => h K (fun a w g2 gg => hK.out a w (Stage2.past g2 h1.2) (fun hSt => ih a w fuel hl' h2 hSt (gg g2))))
    · obtain ⟨hw, hF⟩ := h
      simp only [Bool.and_eq_true] at h1
      exact skipT2 i o.dst (by rw [ho]; simp [hw]) hs h1.1.1 h1.1.2 (fun c a w => hQ c a w _ _) h1.2 hT (ih _ w fuel hl' h2 hT.set hF)
    · obtain ⟨v, hw, hy, hF⟩ := h
      split at h1
      · contradiction
      · contradiction
      · contradiction
      · simp only [Bool.and_eq_true] at h1
        exact takeP2 i o.dst ho rfl hs h1.1.1 h1.1.2 (fun c a w => hQ c a w _ _) hw h1.2 hy hT (ih _ w fuel hl' h2 hT.set hF)
theorem wp_region_seq {id : Nat} {a : Act} {w : World} (S S2 : World → Prop) (st : List Nat) (r : List (Nat × Nat × Option Tmp)) (hm : P.follows .mixedOrders = true)
    (hk : (Region.noSelect ops && decide (r.length ≤ ops.size) && seqOk .any ops st r (Array.replicate ops.size false)) = true) (hQ : ∀ c a w d v, Q (.panic c) (a.put d v) w → Q (.panic c) a w)
    (hS : S w.drew) (hS2 : S2 w.drew) (h : wpSeq P ops Q S S2 r a w.drew) : (Code.region id ops true).wp P Q a w := by
  simp only [Bool.and_eq_true, decide_eq_true_eq] at hk
  exact wp_region_stage2 S S2 st hm (seq_sound hk.1.1 hQ r _ a _ _ hk.1.2 hk.2 ⟨hS2, fun _ => hS⟩ h)
/-- No condition at all. -/
def anyW : World → Prop := fun _ => True
theorem anyW.i {w : World} : anyW w := trivial
variable {i : Nat} {r : List (Nat × Nat × Option Tmp)} {o : Oper} {d : Option Tmp} {v : Value} {a : Act} {w : World}
theorem seqW (ho : ops[i]? = some o) (hd : o.dst = d) (hw : Region.wanted o (yielded ops a.tmps) = true) (hy : ∀ x, (execOp a.eval o).run P x = .ok (.value v) x) (h : wpSeq P ops Q S S2 r (a.put d v) w) : wpSeq P ops Q S S2 ((i, 0, d) :: r) a w := ⟨o, ho, hd, v, hw, hy, h⟩
theorem seqS (ho : ops[i]? = some o) (hd : o.dst = d) (hw : Region.wanted o (yielded ops a.tmps) = true) (hy : ∀ x, S x → (execOp a.eval o).run P x = .ok (.value v) x) (h : wpSeq P ops Q S S2 r (a.put d v) w) : wpSeq P ops Q S S2 ((i, 1, d) :: r) a w := ⟨o, ho, hd, v, hw, hy, h⟩
theorem seqP (ho : ops[i]? = some o) (hd : o.dst = d) (hw : Region.wanted o (yielded ops a.tmps) = true) (hy : ∀ x, S2 x → (execOp a.eval o).run P x = .ok (.value v) x) (h : wpSeq P ops Q S S2 r (a.put d v) w) : wpSeq P ops Q S S2 ((i, 5, d) :: r) a w := ⟨o, ho, hd, v, hw, hy, h⟩
theorem seqX (ho : ops[i]? = some o) (hd : o.dst = d) (hw : Region.wanted o (yielded ops a.tmps) = false) (h : wpSeq P ops Q S S2 r (a.put d undef) w) : wpSeq P ops Q S S2 ((i, 4, d) :: r) a w := ⟨o, ho, hd, hw, h⟩
theorem seqL (ho : ops[i]? = some o) (hd : o.dst = d) (h : ∀ K : Act → World → Prop, Shut (∀ a w, S2 w → S w → (S2 w → S w → wpSeq P ops Q S S2 r a w) → K a w) → if Region.wanted o (yielded ops a.tmps) = true then Oper.wp P o a w K Q else K (a.put o.dst undef) w) : wpSeq P ops Q S S2 ((i, 2, d) :: r) a w := ⟨o, ho, hd, h⟩
theorem seqT (ho : ops[i]? = some o) (hd : o.dst = d) (h : ∀ K : Act → World → Prop, Shut (∀ a w, S2 w → (S2 w → wpSeq P ops Q S S2 r a w) → K a w) → if Region.wanted o (yielded ops a.tmps) = true then Oper.wp P o a w K Q else K (a.put o.dst undef) w) : wpSeq P ops Q S S2 ((i, 3, d) :: r) a w := ⟨o, ho, hd, h⟩
theorem seqE (h : Q .normal a w) : wpSeq P ops Q S S2 [] a w := h
theorem exec_at {ρ : Operand → Value} (ty : TypeId) (x : Operand) (ho : o.op = .load ty x) (b off : Nat) (hx : ρ x = .pointer (some ⟨b, off, none⟩)) (cs : List Value) (d : TypeDesc)
    (hc : ∀ (j : Nat) (v : Value), cs[j]? = some v → w.cell? ⟨b, off + j, none⟩ = some v) (hu : P.underlying ty = some d) (hd : (match d with | .struct _ | .array _ _ => true | _ => false) = true) (hi : (P.info? ty).map (·.size) = some cs.length) :
    (execOp ρ o).run P w = .ok (.value (.agg cs.toArray)) w := by
  unfold execOp
  simp only [ho, hx, Instr.loadAt, Instr.sureAddr, Sem.run_bind, Sem.run_pure, Result.andThen_ok, run_loadVar_at w b off ty cs d hc hu hd hi]
theorem exec_row {ρ : Operand → Value} (ty : TypeId) (x : Operand) (ho : o.op = .load ty x) (b : Nat) (hx : ρ x = .pointer (some ⟨b, 0, none⟩)) (cs : List Value) (t : TypeId) (fr : Nat × Nat) (d : TypeDesc)
    (hb : w.heap[b]? = some (.cells cs.toArray t fr)) (hu : P.underlying ty = some d) (hd : (match d with | .struct _ | .array _ _ => true | _ => false) = true) (hi : (P.info? ty).map (·.size) = some cs.length) :
    (execOp ρ o).run P w = .ok (.value (.agg cs.toArray)) w :=
  exec_at ty x ho b 0 hx cs d (fun j v hj => by rw [Nat.zero_add, cell_of_blk hb j]; simpa using hj) hu hd hi
end
end Go.Proofs.Ytcfhkpjheemkgaa
