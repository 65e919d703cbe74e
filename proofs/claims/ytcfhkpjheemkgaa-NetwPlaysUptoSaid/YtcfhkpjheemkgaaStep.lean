/-
  append of one new element at a step of a region that draws its order, in the words of 'Own' and 'Chg'; and the worlds behind such steps.
-/
import Derived.Test.YtcfhkpjheemkgaaAppend
import Derived.Deep.RegionLaw
namespace Go.Proofs.Ytcfhkpjheemkgaa
set_option linter.unusedSectionVars false
set_option linter.unusedSimpArgs false
set_option linter.unusedVariables false
open Go.RowKit Go.MapKept

/-- append(v, one new element whose cells lie in block B), as an equation. -/
theorem own_append_blk {P : Program} {E size bytes T : Nat} {i : TypeInfo} {z : Value} (ht : P.underlying T = some (.slice E)) (hi : P.info? E = some i) (hz : i.zero = some z) (hsize : i.size = size) (hby : i.bytes = bytes) (hzs : z.cells.size = size) (hsz : 0 < size)
    {w : World} {v : Value} {n : Nat} {xs : List Value} (h : Own E size w v n xs) (news : List Value) (hl : news.length = size) (h1 : ∀ u ∈ news, u.oneCell' = true) (hb : (n + 1) * bytes ≤ 140737488355328) (hm : n + 1 ≤ maxLen) (ty : TypeId)
    {B : Nat} {t : TypeId} {fr : Nat × Nat} (hB : w.heap[B]? = some (.cells news.toArray t fr)) :
    ∃ v' w', (Builtin.append_ #[T, T] ty #[v, .slice (some ⟨B, 0, none⟩) 1 1]).run P w = .ok v' w' ∧ Own E size w' v' (n + 1) (xs ++ news) ∧ Chg (fun k => v.ownBlock = some k) w w' ∧ (v'.ownBlock = v.ownBlock ∨ ∃ k, v'.ownBlock = some k ∧ w.heap.size ≤ k) := by
  obtain ⟨v', w', h2, h3, h4, _, h6⟩ := run_append_own_at (P := P) w 0 T ty E i z size bytes ht hi hz hsize hby hzs hsz v n xs h ⟨B, 0, none⟩ 1 1 news (by omega)
    (fun j u hu => by
      have e : (⟨B, 0, none⟩ : Addr).add j = ⟨B, j, none⟩ := by unfold Addr.add; split <;> simp_all
      rw [e, cell_of_blk hB]; simpa using hu) h1 hm hb (Nat.zero_le _)
  refine ⟨v', w', h2, h3, ⟨h4.os, h4.tape, h4.output, h4.size, fun k hk hs => h4.block k hk (fun e => hs e.symm)⟩, ?_⟩
  rcases h6 with h6 | h6
  · exact .inl h6
  · exact .inr ⟨_, h6, Nat.le_refl _⟩

/-- .. at a step of a region: on the goal as 'AllReady.cons' leaves it: for 'go_region_law (refine step_own_append ..)'. -/
theorem step_own_append {P : Program} {ops : Array Oper} {o : Oper} {a : Act} {w : World} {K : Act → World → Prop} {Q : Exit → Act → World → Prop} {D : Prop} (hgd : o.guard = none) (s x : Operand) (T : TypeId)
    (ho : o.op = .call { callee := .builtin .append, args := #[s, x], argTypes := #[T, T] })
    {E size bytes : Nat} {i : TypeInfo} {z : Value} (ht : P.underlying T = some (.slice E)) (hi : P.info? E = some i) (hz : i.zero = some z) (hsize : i.size = size) (hby : i.bytes = bytes) (hzs : z.cells.size = size) (hsz : 0 < size)
    {v : Value} {n : Nat} {xs : List Value} (hs : a.eval s = v) (h : Own E size w v n xs)
    {B : Nat} {t : TypeId} {fr : Nat × Nat} (hx : a.eval x = .slice (some ⟨B, 0, none⟩) 1 1) (news : List Value) (hB : w.heap[B]? = some (.cells news.toArray t fr)) (hl : news.length = size) (h1 : ∀ u ∈ news, u.oneCell' = true) (hb : (n + 1) * bytes ≤ 140737488355328) (hm : n + 1 ≤ maxLen)
    (hK : ∀ v' w', Own E size w' v' (n + 1) (xs ++ news) → Chg (fun k => v.ownBlock = some k) w w' → (v'.ownBlock = v.ownBlock ∨ ∃ k, v'.ownBlock = some k ∧ w.heap.size ≤ k) → K (a.put o.dst v') w') :
    if Region.wanted o (yielded ops a.tmps) = true then Oper.wp P o a w K Q else D := by
  have hw : Region.wanted o (yielded ops a.tmps) = true := by simp [Region.wanted, hgd]
  rw [if_pos hw]
  obtain ⟨v', w', hrun, h2, h3, h4⟩ := own_append_blk ht hi hz hsize hby hzs hsz h news hl h1 hb hm o.type hB
  unfold Oper.wp
  simp [execOp, ho, resolve, invoke, builtin, hs, hx, hrun, Result.andThen]
  exact hK _ _ h2 h3 h4

end Go.Proofs.Ytcfhkpjheemkgaa
