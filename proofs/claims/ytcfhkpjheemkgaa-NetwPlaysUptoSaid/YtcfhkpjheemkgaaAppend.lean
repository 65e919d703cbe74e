/-
  append of new elements onto a slice that the code owns: as an equation on the operation's run, laid ahead of the walk.
-/
import Derived.Test.YtcfhkpjheemkgaaInts
import Derived.Maps.AppendAt
namespace Go.Proofs.Ytcfhkpjheemkgaa
set_option linter.unusedSectionVars false
set_option linter.unusedSimpArgs false
set_option linter.unusedVariables false
open Go.RowKit Go.MapKept

/-- The slice v is nil, or starts at the head of a block of elements of type E (size cells each) whose first n elements are the cells xs. -/
def Own (E size : Nat) (w : World) (v : Value) (n : Nat) (xs : List Value) : Prop := w.ownsRow 0 E size v n xs
section
variable {E size : Nat} {w w' : World} {v : Value} {n : Nat} {xs : List Value}
theorem Own.nil (E size : Nat) (w : World) : Own E size w (.slice none 0 0) 0 [] := w.ownsRow_nil 0 E size
theorem Own.lt (h : Own E size w v n xs) {k : Nat} (hk : v.ownBlock = some k) : k < w.heap.size := (World.ownsRow.lt h k hk).2
theorem Own.chg {S : Nat → Prop} (h : Own E size w v n xs) (hc : Chg S w w') (hs : ∀ k, v.ownBlock = some k → ¬ S k) : Own E size w' v n xs := by
  refine ⟨h.1, ?_⟩
  rcases h.2 with hn | ⟨g, cap, cur, rfl, hb, hg, rest⟩
  · exact .inl hn
  · exact .inr ⟨g, cap, cur, rfl, hb, hc.blk hg (hs g rfl), rest⟩
theorem Own.below (h : Own E size w v n xs) (hb : Below w.heap.size w w') : Own E size w' v n xs := h.chg (S := none_) (Chg.of_below hb) fun _ _ h => h
theorem Own.alloc (h : Own E size w v n xs) (o : Obj) : Own E size (w.alloc o) v n xs := World.ownsRow.alloc h o
/-- Written out. -/
theorem Own.open (h : Own E size w v n xs) : ∃ a cap, v = .slice a n cap ∧ n ≤ cap ∧ cap ≤ maxLen ∧ xs.length = n * size ∧ ((a = none ∧ n = 0 ∧ cap = 0) ∨ ∃ g cs, a = some ⟨g, 0, none⟩ ∧ w.heap[g]? = some (.cells cs E (0, 0)) ∧ cs.size = cap * size ∧ cs.toList.take (n * size) = xs) := by
  rcases h.2 with ⟨rfl, rfl⟩ | ⟨g, cap, cur, rfl, _, hg, h4, h5, h6, h7⟩
  · exact ⟨none, 0, rfl, Nat.le_refl _, Nat.zero_le _, h.1, .inl ⟨rfl, rfl, rfl⟩⟩
  · exact ⟨_, cap, rfl, h4, h5, h.1, .inr ⟨g, cur, rfl, hg, h6, h7⟩⟩
theorem own_cell {g : Nat} {cs : Array Value} {fr : Nat × Nat} (hg : w.heap[g]? = some (.cells cs E fr)) {m : Nat} (ht : cs.toList.take m = xs) {i : Nat} (hi : i < m) {u : Value} (hu : xs[i]? = some u) : w.cell? ⟨g, i, none⟩ = some u := by
  rw [cell_of_blk hg]
  rw [← ht, List.getElem?_take, if_pos hi] at hu
  simpa using hu
end

/-- append(v, one new element), the element's cells laid in a block of their own just before. -/
theorem own_append {P : Program} {E size bytes T : Nat} {i : TypeInfo} {z : Value} (ht : P.underlying T = some (.slice E)) (hi : P.info? E = some i) (hz : i.zero = some z) (hsize : i.size = size) (hby : i.bytes = bytes) (hzs : z.cells.size = size) (hsz : 0 < size)
    {w : World} {v : Value} {n : Nat} {xs : List Value} (h : Own E size w v n xs) (news : List Value) (hl : news.length = size) (h1 : ∀ u ∈ news, u.oneCell' = true) (hb : (n + 1) * bytes ≤ 140737488355328) (hm : n + 1 ≤ maxLen) (ty : TypeId) :
    ∃ v' w', (Builtin.append_ #[T, T] ty #[v, .slice (some ⟨w.heap.size, 0, none⟩) 1 1]).run P (w.alloc (.cells news.toArray E)) = .ok v' w' ∧ Own E size w' v' (n + 1) (xs ++ news) ∧ Chg (fun k => v.ownBlock = some k) w w' ∧ (v'.ownBlock = v.ownBlock ∨ ∃ k, v'.ownBlock = some k ∧ w.heap.size ≤ k) := by
  obtain ⟨v', w', h2, h3, h4, _, h6⟩ := run_append_own_at (P := P) (w.alloc (.cells news.toArray E)) 0 T ty E i z size bytes ht hi hz hsize hby hzs hsz v n xs (Own.alloc h _) ⟨w.heap.size, 0, none⟩ 1 1 news (by omega)
    (fun j u hu => by
      have e : (⟨w.heap.size, 0, none⟩ : Addr).add j = ⟨w.heap.size, j, none⟩ := by unfold Addr.add; split <;> simp_all
      rw [e, cell_of_blk (alloc_new w _ _ rfl)]; simpa using hu) h1 hm hb (Nat.zero_le _)
  refine ⟨v', w', h2, h3, ?_, ?_⟩
  · have hc : Chg (fun k => v.ownBlock = some k) (w.alloc (.cells news.toArray E)) w' := ⟨h4.os, h4.tape, h4.output, h4.size, fun k hk hs => h4.block k hk (fun e => hs e.symm)⟩
    exact ((Chg.refl _ _).alloc _).trans hc
  · rcases h6 with h6 | h6
    · exact .inl h6
    · exact .inr ⟨_, h6, by simp⟩
/-- An append whose run is known, at the operation: '(at_builtin; refine wpl_append rfl _ _ _ rfl rfl rfl ha ?_)'. -/
theorem wpl_append {P : Program} {w w' : World} {ops : Array Oper} {rest : List Oper} {o : Oper} {a : Act} {Q : Exit → Act → World → Prop} (hgd : o.guard = none) (s x : Operand) (t : TypeId)
    (ho : o.op = .call { callee := .builtin .append, args := #[s, x], argTypes := #[t, t] }) {v vx v' : Value} (hs : a.eval s = v) (hx : a.eval x = vx)
    (hrun : (Builtin.append_ #[t, t] o.type #[v, vx]).run P w = .ok v' w') (h : wpList P ops Q rest (a.put o.dst v') w') : wpList P ops Q (o :: rest) a w := by
  refine wpList_plain hgd fun K hK => ?_
  unfold Oper.wp
  simp [execOp, ho, resolve, invoke, builtin, hs, hx, hrun, Result.andThen]
  exact hK _ _ h
theorem info_parts' {P : Program} {e : TypeId} {z : Option Value} {s b : Nat} (h : (P.info? e).map (fun i => (i.zero, i.size, i.bytes)) = some (z, s, b)) : ∃ i, P.info? e = some i ∧ i.zero = z ∧ i.size = s ∧ i.bytes = b := by
  obtain ⟨i, hi, he⟩ := Option.map_eq_some_iff.1 h
  simp only [Prod.mk.injEq] at he
  exact ⟨i, hi, he⟩
/-- .. of a whole number onto a row of whole numbers. -/
theorem own_append_int {w : World} {v : Value} {n : Nat} {xs : List Value} (h : Own 3 1 w v n xs) (x : Int) (hb : n ≤ 1000000000) (ty : TypeId) :
    ∃ v' w', (Builtin.append_ #[23, 23] ty #[v, .slice (some ⟨w.heap.size, 0, none⟩) 1 1]).run Try.prog (w.alloc (.cells #[.int .i64 x] 3)) = .ok v' w' ∧ Own 3 1 w' v' (n + 1) (xs ++ [.int .i64 x]) ∧ Chg (fun k => v.ownBlock = some k) w w' ∧ (v'.ownBlock = v.ownBlock ∨ ∃ k, v'.ownBlock = some k ∧ w.heap.size ≤ k) := by
  obtain ⟨i, hi, hz, hs, hby⟩ := info_parts' (P := Try.prog) (e := 3) (z := some (.int .i64 0)) (s := 1) (b := 8) (by kernel_rfl)
  exact own_append Try.underlying23 hi hz hs hby rfl (by decide) h [.int .i64 x] rfl (by intro u hu; simp at hu; subst hu; rfl) (by omega) (by unfold maxLen; omega) ty
end Go.Proofs.Ytcfhkpjheemkgaa
