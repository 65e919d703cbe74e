/-
  append onto rows of the code's own: of numbers, and of envelopes; the source nil, empty or not.
-/
import Derived.Test.YtcfhkpjheemkgaaVal
namespace Go.Proofs.Ytcfhkpjheemkgaa
set_option linter.unusedSectionVars false
set_option linter.unnecessarySimpa false
set_option linter.unusedSimpArgs false
set_option linter.unusedVariables false
open Go.RowKit Go.MapKept

/-- append at a step of a drawn region, by an equation on its run. -/
theorem step_run_append {P : Program} {ops : Array Oper} {o : Oper} {a : Act} {w w' : World} {K : Act → World → Prop} {Q : Exit → Act → World → Prop} {D : Prop} (hgd : o.guard = none) (s x : Operand) (T : TypeId)
    (ho : o.op = .call { callee := .builtin .append, args := #[s, x], argTypes := #[T, T] }) {v vx v' : Value} (hs : a.eval s = v) (hx : a.eval x = vx)
    (hrun : (Builtin.append_ #[T, T] o.type #[v, vx]).run P w = .ok v' w') (hK : K (a.put o.dst v') w') : if Region.wanted o (yielded ops a.tmps) = true then Oper.wp P o a w K Q else D := by
  have hw : Region.wanted o (yielded ops a.tmps) = true := by simp [Region.wanted, hgd]
  rw [if_pos hw]
  unfold Oper.wp
  simp [execOp, ho, resolve, invoke, builtin, hs, hx, hrun, Result.andThen]
  exact hK
section
variable {w w' : World} {m : Nat → Thing} {l : List Thing} {v : Value} {n : Nat} {L : List Int} {E : List EnvX}
theorem run_append_none {P : Program} {E' size t : Nat} {i : TypeInfo} {xs : List Value} (ht : P.underlying t = some (.slice E')) (hi : P.info? E' = some i) (ty : TypeId)
    (hown : Own E' size w v n xs) (c : Nat) : (Builtin.append_ #[t, t] ty #[v, .slice none 0 c]).run P w = .ok v w := by
  rcases hown.2 with ⟨rfl, rfl⟩ | ⟨g, cap, cur, rfl, _, _, hnc, _⟩
  · simp [Builtin.append_, run_underlying ht, sizeOf, typeInfo, hi, Builtin.lenOf, Builtin.firstCells]
  · simp [Builtin.append_, run_underlying ht, sizeOf, typeInfo, hi, Builtin.lenOf, Builtin.firstCells, hnc, storeCells]
theorem Sys.appInts {k : Nat} (h : Sys w m (own 3 1 v n (L.map (Value.int .i64)) :: l)) (sa : Option Addr) (c : Nat) (news : List Int) (hk : news.length = k) (hs : IntsAt w sa news) (hb : n + k ≤ 1000000000000) (ty : TypeId) :
    ∃ v' w', (Builtin.append_ #[23, 23] ty #[v, .slice sa k c]).run Try.prog w = .ok v' w' ∧ Sys w' m (own 3 1 v' (n + k) ((L ++ news).map (Value.int .i64)) :: l) := by
  obtain ⟨i, hi, hz, hs1, hby⟩ := info_parts' (P := Try.prog) (e := 3) (z := some (.int .i64 0)) (s := 1) (b := 8) (by kernel_rfl)
  rw [List.map_append]
  cases sa with
  | none =>
    have h0 : news = [] := by
      rcases hs with h | ⟨b, off, e, _⟩
      · exact h
      · cases e
    subst h0
    obtain rfl : k = 0 := by simpa using hk.symm
    exact ⟨v, w, run_append_none (size := 1) Try.underlying23 hi ty h.getOwn c, by simpa using h⟩
  | some ad =>
    refine h.appendRow (P := Try.prog) Try.underlying23 hi hz hs1 hby rfl (by decide) ad k c (news.map (Value.int .i64)) (by simp [hk]) (fun j u hu => ?_) (fun u hu => ?_) (by omega) (by unfold maxLen; omega) ty
    · rw [List.getElem?_map] at hu
      rcases hs with h | ⟨b, off, e, h⟩
      · rw [h] at hu; simp at hu
      · cases e
        have hj : j < news.length := by
          rcases Nat.lt_or_ge j news.length with h | h
          · exact h
          · rw [List.getElem?_eq_none h] at hu; cases hu
        rw [addr_add, h j hj, List.getD_eq_getElem?_getD]
        rw [List.getElem?_eq_getElem hj] at hu ⊢
        exact hu
    · obtain ⟨x, _, rfl⟩ := List.mem_map.1 hu; rfl
theorem Sys.appEnvs {k : Nat} (h : Sys w m (own 33 4 v n (flatE E) :: l)) (sa : Option Addr) (c : Nat) (news : List EnvX) (hk : news.length = k) (hs : EnvsAt w sa news) (hb : n + k ≤ 1000000000000) (ty : TypeId) :
    ∃ v' w', (Builtin.append_ #[63, 63] ty #[v, .slice sa k c]).run Try.prog w = .ok v' w' ∧ Sys w' m (own 33 4 v' (n + k) (flatE (E ++ news)) :: l) := by
  obtain ⟨i, hi, hz, hs1, hby⟩ := info_parts' (P := Try.prog) (e := 33) (z := some (.agg #[.int .i64 0, .int .u64 0, .int .u64 0, .int .i64 0])) (s := 4) (b := 32) (by kernel_rfl)
  rw [show flatE (E ++ news) = flatE E ++ flatE news by simp [flatE]]
  cases sa with
  | none =>
    have h0 : news = [] := by
      rcases hs with h | ⟨b, off, e, _⟩
      · exact h
      · cases e
    subst h0
    obtain rfl : k = 0 := by simpa using hk.symm
    exact ⟨v, w, run_append_none (size := 4) Try.underlying63 hi ty h.getOwn c, by simpa [flatE] using h⟩
  | some ad =>
    refine h.appendRow (P := Try.prog) Try.underlying63 hi hz hs1 hby rfl (by decide) ad k c (flatE news) (by rw [flatE_length, hk]) (fun j u hu => ?_) (flatE_one news) (by omega) (by unfold maxLen; omega) ty
    rcases hs with h | ⟨b, off, e, h⟩
    · rw [h] at hu; simp [flatE] at hu
    · cases e
      have hj : j < news.length * 4 := by
        rw [← flatE_length]
        rcases Nat.lt_or_ge j (flatE news).length with h | h
        · exact h
        · rw [List.getElem?_eq_none h] at hu; cases hu
      have hlt : j / 4 < news.length := by omega
      have hjm : j % 4 < 4 := by omega
      obtain ⟨u', hu'⟩ : ∃ u', (news.getD (j / 4) default).cells[j % 4]? = some u' := ⟨_, List.getElem?_eq_getElem (by show j % 4 < 4; omega)⟩
      have h1 := flatE_cells news (j / 4) hlt (j % 4) u' hu'
      rw [show j / 4 * 4 + j % 4 = j by omega, hu] at h1
      cases h1
      rw [addr_add]
      have := h (j / 4) hlt (j % 4) u hu'
      rw [Nat.add_assoc, show j / 4 * 4 + j % 4 = j by omega] at this
      exact this
end
end Go.Proofs.Ytcfhkpjheemkgaa
