/-
  mess.own: a message with the fields of its kind alone.
-/
import Derived.Test.YtcfhkpjheemkgaaMessAll
import Derived.Test.YtcfhkpjheemkgaaSeq
import Derived.Great.BuildSlice
namespace Go.Proofs.Ytcfhkpjheemkgaa
set_option linter.unusedSectionVars false
set_option linter.unnecessarySimpa false
set_option linter.unusedSimpArgs false
set_option linter.unusedVariables false
open Go.RowKit Go.MapKept
section
variable {P : Program} {w : World}
theorem wp_store_at {o : Oper} {a : Act} {K : Act → World → Prop} {Q : Exit → Act → World → Prop} (ty : TypeId) (x y : Operand) (ho : o.op = .store ty x y)
    (b off : Nat) (hx : a.eval x = .pointer (some ⟨b, off, none⟩)) (cs : List Value) (hy : a.eval y = .agg cs.toArray) (hi : (P.info? ty).map (·.size) = some cs.length)
    (hc : ∀ j, j < cs.length → (w.cell? ⟨b, off + j, none⟩).isSome = true) (hf : ∀ j, j < cs.length → w.frozen? ⟨b, off + j, none⟩ = false) (h1 : ∀ v ∈ cs, v.oneCell' = true)
    (h : K (a.put o.dst undef) (w.setCells b off cs)) : o.wp P a w K Q := by
  have hst := run_storeCells_cells (P := P) b off cs 0 w (by simpa using hc) (by simpa using hf) h1
  simp only [Nat.add_zero] at hst
  have hsv : (storeVar ty ⟨b, off, none⟩ (.agg cs.toArray)).run P w = .ok () (w.setCells b off cs) := by
    cases hq : P.info? ty with
    | none => simp [hq] at hi
    | some i =>
      have hs : i.size = cs.length := by simpa [hq] using hi
      simp [storeVar, Sem.run_bind, sizeOf, typeInfo, hq, hs, Value.cells, hst]
  unfold Oper.wp execOp
  simp only [ho, hx, hy, Instr.storeAt, Instr.sureAddr, Sem.run_bind, Sem.run_pure, Result.andThen_ok, hsv]
  exact h
theorem wp_store_row' {o : Oper} {a : Act} {K : Act → World → Prop} {Q : Exit → Act → World → Prop} (ty : TypeId) (x y : Operand) (ho : o.op = .store ty x y)
    (g : Nat) (cells : Array Value) (hx : a.eval x = .pointer (some ⟨g, 0, none⟩)) (hy : a.eval y = .agg cells)
    (t : TypeId) (old : Array Value) (hg : w.heap[g]? = some (.cells old t (0, 0))) (hi : (P.info? ty).map (·.size) = some cells.size)
    (hold : old.size = cells.size) (h1 : cells.all (·.oneCell') = true) (h : K (a.put o.dst undef) (w.setRow g cells)) : o.wp P a w K Q :=
  wp_store_row ty x y ho g cells hx hy t old hg hi hold h1 h
theorem exec_rowA {o : Oper} {ρ : Operand → Value} (ty : TypeId) (x : Operand) (ho : o.op = .load ty x) (b : Nat) (hx : ρ x = .pointer (some ⟨b, 0, none⟩)) (cs : Array Value) (t : TypeId) (fr : Nat × Nat) (d : TypeDesc)
    (hb : w.heap[b]? = some (.cells cs t fr)) (hu : P.underlying ty = some d) (hd : (match d with | .struct _ | .array _ _ => true | _ => false) = true) (hi : (P.info? ty).map (·.size) = some cs.size) :
    (execOp ρ o).run P w = .ok (.value (.agg cs)) w := by
  have h := exec_row (ρ := ρ) ty x ho b hx cs.toList t fr d (by rw [Array.toArray_toList]; exact hb) hu hd (by rw [Array.length_toList]; exact hi)
  rw [Array.toArray_toList] at h
  exact h
end
section
variable {w w' : World} {m : Nat → Thing} {l : List Thing}
set_option maxRecDepth 100000 in
set_option maxHeartbeats 4000000 in
theorem mess_own_vote (ifr ito iv im qv qb tv hv hb ec en ef ei : Int) (vq vt vh vg vb : Value)  (h : Sys w m l) :
    Calls Try.prog 78 #[.agg #[.int .i64 3, .int .i64 ifr, .int .i64 ito, .int .i64 iv, .int .i64 im, .int .i64 qv, .int .i64 qb, vq, .int .i64 tv, vt, vh, .int .i64 hv, .int .i64 hb, vg, .int .i64 ec, .int .u64 en, .int .u64 ef, .int .i64 ei, vb]] w fun z w' => z = .returned (.tuple #[.agg #[.int .i64 3, .int .i64 ifr, .int .i64 ito, .int .i64 iv, .int .i64 im, .int .i64 0, .int .i64 0, .slice none 0 0, .int .i64 0, .slice none 0 0, .slice none 0 0, .int .i64 0, .int .i64 0, .slice none 0 0, .int .i64 0, .int .u64 0, .int .u64 0, .int .i64 0, .slice none 0 0], .bool true]) ∧ Sys w' m l := by
  obtain ⟨n1, x1, EN1, EX1, ES1, H1⟩ := h.box (.cells #[.int .i64 3, .int .i64 ifr, .int .i64 ito, .int .i64 iv, .int .i64 im, .int .i64 qv, .int .i64 qb, vq, .int .i64 tv, vt, vh, .int .i64 hv, .int .i64 hb, vg, .int .i64 ec, .int .u64 en, .int .u64 ef, .int .i64 ei, vb] 36 (0, 0))
  obtain ⟨n2, x2, EN2, EX2, ES2, H2⟩ := Sys.box' H1 ES1 (.cells #[.int .i64 0, .int .i64 0, .int .i64 0, .int .i64 0, .int .i64 0, .int .i64 0, .int .i64 0, .slice none 0 0, .int .i64 0, .slice none 0 0, .slice none 0 0, .int .i64 0, .int .i64 0, .slice none 0 0, .int .i64 0, .int .u64 0, .int .u64 0, .int .i64 0, .slice none 0 0] 36 (0, 0))
  obtain ⟨n4, x4, EN4, EX4, ES4, H4⟩ := H2.out.box (.cells #[.int .i64 0, .int .i64 0, .int .i64 0, .int .i64 0, .int .i64 0, .int .i64 0, .int .i64 0, .slice none 0 0, .int .i64 0, .slice none 0 0, .slice none 0 0, .int .i64 0, .int .i64 0, .slice none 0 0, .int .i64 0, .int .u64 0, .int .u64 0, .int .i64 0, .slice none 0 0] 36 (0, 0))
  have hb4 : x4.heap[n4]? = some (.cells #[.int .i64 0, .int .i64 0, .int .i64 0, .int .i64 0, .int .i64 0, .int .i64 0, .int .i64 0, .slice none 0 0, .int .i64 0, .slice none 0 0, .slice none 0 0, .int .i64 0, .int .i64 0, .slice none 0 0, .int .i64 0, .int .u64 0, .int .u64 0, .int .i64 0, .slice none 0 0] 36 (0, 0)) := H4.out.nth 0 rfl
  obtain ⟨cs, hcs⟩ : ∃ cs : Array Value, cs = #[.int .i64 3, .int .i64 ifr, .int .i64 ito, .int .i64 0, .int .i64 0, .int .i64 0, .int .i64 0, .slice none 0 0, .int .i64 0, .slice none 0 0, .slice none 0 0, .int .i64 0, .int .i64 0, .slice none 0 0, .int .i64 0, .int .u64 0, .int .u64 0, .int .i64 0, .slice none 0 0] := ⟨_, rfl⟩
  obtain ⟨x5, hx5⟩ : ∃ x, x = x4.setRow n4 cs := ⟨_, rfl⟩
  have hone : cs.all (·.oneCell') = true := by rw [hcs]; simp [Value.oneCell']
  have hcl : (Try.prog.info? 36).map (·.size) = some cs.size := by rw [hcs]; exact size19
  have hcz : (#[.int .i64 0, .int .i64 0, .int .i64 0, .int .i64 0, .int .i64 0, .int .i64 0, .int .i64 0, .slice none 0 0, .int .i64 0, .slice none 0 0, .slice none 0 0, .int .i64 0, .int .i64 0, .slice none 0 0, .int .i64 0, .int .u64 0, .int .u64 0, .int .i64 0, .slice none 0 0] : Array Value).size = cs.size := by rw [hcs]; rfl
  have H5 : Hid (Sys x5 m (blk n4 (.cells #[.int .i64 3, .int .i64 ifr, .int .i64 ito, .int .i64 0, .int .i64 0, .int .i64 0, .int .i64 0, .slice none 0 0, .int .i64 0, .slice none 0 0, .slice none 0 0, .int .i64 0, .int .i64 0, .slice none 0 0, .int .i64 0, .int .u64 0, .int .u64 0, .int .i64 0, .slice none 0 0] 36 (0, 0)) :: blk n2 (.cells #[.int .i64 0, .int .i64 0, .int .i64 0, .int .i64 0, .int .i64 0, .int .i64 0, .int .i64 0, .slice none 0 0, .int .i64 0, .slice none 0 0, .slice none 0 0, .int .i64 0, .int .i64 0, .slice none 0 0, .int .i64 0, .int .u64 0, .int .u64 0, .int .i64 0, .slice none 0 0] 36 (0, 0)) :: blk n1 (.cells #[.int .i64 3, .int .i64 ifr, .int .i64 ito, .int .i64 iv, .int .i64 im, .int .i64 qv, .int .i64 qb, vq, .int .i64 tv, vt, vh, .int .i64 hv, .int .i64 hb, vg, .int .i64 ec, .int .u64 en, .int .u64 ef, .int .i64 ei, vb] 36 (0, 0)) :: l)) := by
    rw [hx5, hcs]
    exact H4.out.store ((Chg.refl (· = n4) x4).row #[.int .i64 3, .int .i64 ifr, .int .i64 ito, .int .i64 0, .int .i64 0, .int .i64 0, .int .i64 0, .slice none 0 0, .int .i64 0, .slice none 0 0, .slice none 0 0, .int .i64 0, .int .i64 0, .slice none 0 0, .int .i64 0, .int .u64 0, .int .u64 0, .int .i64 0, .slice none 0 0]) (setRow_heap _ _ _ _ _ _ hb4)
  have hb1 : x2.heap[n1]? = some (.cells #[.int .i64 3, .int .i64 ifr, .int .i64 ito, .int .i64 iv, .int .i64 im, .int .i64 qv, .int .i64 qb, vq, .int .i64 tv, vt, vh, .int .i64 hv, .int .i64 hb, vg, .int .i64 ec, .int .u64 en, .int .u64 ef, .int .i64 ei, vb] 36 (0, 0)) := H2.out.nth 1 rfl
  have q0 : x2.cell? ⟨n1, 0, none⟩ = some (.int .i64 3) := (cell_of_blk hb1 0).trans rfl
  have q1 : x2.cell? ⟨n1, 1, none⟩ = some (.int .i64 ifr) := (cell_of_blk hb1 1).trans rfl
  have q2 : x2.cell? ⟨n1, 2, none⟩ = some (.int .i64 ito) := (cell_of_blk hb1 2).trans rfl
  have hbt : Try.prog.built 36 [(0, .int .i64 3), (1, .int .i64 ifr), (2, .int .i64 ito)] = some cs := by rw [hcs]; rfl
  have HBT := Lib.hid hbt
  have HX5 := Lib.hid hx5
  have HCS := Lib.hid hcs
  have HB4 := Lib.hid hb4
  clear h hx5 hb4 hb1 hcs hbt
  go_enter Try.func78, Try.ntmps78
  go_upto_region 1 with fail
  rw [EX1.out, EX2.out, EN2.out, EN1.out]
  go_upto_region 2 with (first | (refine wpList_buildTo rfl 36 _ rfl (some 11) rfl cs ?_ ?_; (focus (simp only [List.map_toArray, List.map_cons, List.map_nil]; exact HBT.out))) | (rw [EX4.out, EN4.out]; refine wpList_store_row rfl 36 _ _ rfl n4 cs rfl rfl _ _ HB4.out hcl hcz hone ?_; rw [← HX5.out]))
  have hbi : x5.heap[n1]? = some (.cells #[.int .i64 3, .int .i64 ifr, .int .i64 ito, .int .i64 iv, .int .i64 im, .int .i64 qv, .int .i64 qb, vq, .int .i64 tv, vt, vh, .int .i64 hv, .int .i64 hb, vg, .int .i64 ec, .int .u64 en, .int .u64 ef, .int .i64 ei, vb] 36 (0, 0)) := H5.out.nth 2 rfl
  have q0 : x5.cell? ⟨n1, 0, none⟩ = some (.int .i64 3) := (cell_of_blk hbi 0).trans rfl
  go_upto_region 10 with fail
  have f3 := frozen_of_blk (H5.out.drew.nth 0 rfl) 3
  have e3 : x5.drew.cell? ⟨n4, 3, none⟩ = some (.int .i64 0) := (cell_of_blk (H5.out.drew.nth 0 rfl) 3).trans rfl
  refine wp_region_seq (fun x : World => x.heap[n1]? = some (.cells #[.int .i64 3, .int .i64 ifr, .int .i64 ito, .int .i64 iv, .int .i64 im, .int .i64 qv, .int .i64 qb, vq, .int .i64 tv, vt, vh, .int .i64 hv, .int .i64 hb, vg, .int .i64 ec, .int .u64 en, .int .u64 ef, .int .i64 ei, vb] 36 (0, 0))) anyW [7] [(0, 0, some 32), (1, 1, some 33), (2, 0, some 34), (3, 1, some 35), (4, 0, some 36), (5, 2, none), (6, 0, some 37), (7, 3, none)] (by kernel_rfl) (by kernel_rfl) (fun _ _ _ d _ h => by cases d <;> exact h) (H5.out.drew.nth 2 rfl) anyW.i ?_
  repeat (first | (refine seqW (v := ?_) rfl rfl (by kernel_rfl) ?_ ?_; rotate_left; (focus ((intro x; go_simp); try (with_reducible rfl))); try simp only [Act.put, List.setIfInBounds_toArray, List.set_cons_zero, List.set_cons_succ]) | (refine seqS (v := ?_) rfl rfl (by kernel_rfl) ?_ ?_; rotate_left; (focus (intro x hS; first | (have q3 : x.cell? ⟨n1, 3, none⟩ = some (.int .i64 iv) := (cell_of_blk hS 3).trans rfl; have q4 : x.cell? ⟨n1, 4, none⟩ = some (.int .i64 im) := (cell_of_blk hS 4).trans rfl; go_simp; try (with_reducible rfl)))); try simp only [Act.put, List.setIfInBounds_toArray, List.set_cons_zero, List.set_cons_succ]) | (refine seqX rfl rfl (by kernel_rfl) ?_; try simp only [Act.put, List.setIfInBounds_toArray, List.set_cons_zero, List.set_cons_succ]))
  refine seqL rfl rfl (fun K hK => ?_)
  go_simp
  have H6 : Hid (Sys (x5.setCell ⟨n4, 3, none⟩ (.int .i64 iv)).drew m (blk n4 (.cells #[.int .i64 3, .int .i64 ifr, .int .i64 ito, .int .i64 iv, .int .i64 0, .int .i64 0, .int .i64 0, .slice none 0 0, .int .i64 0, .slice none 0 0, .slice none 0 0, .int .i64 0, .int .i64 0, .slice none 0 0, .int .i64 0, .int .u64 0, .int .u64 0, .int .i64 0, .slice none 0 0] 36 (0, 0)) :: blk n2 (.cells #[.int .i64 0, .int .i64 0, .int .i64 0, .int .i64 0, .int .i64 0, .int .i64 0, .int .i64 0, .slice none 0 0, .int .i64 0, .slice none 0 0, .slice none 0 0, .int .i64 0, .int .i64 0, .slice none 0 0, .int .i64 0, .int .u64 0, .int .u64 0, .int .i64 0, .slice none 0 0] 36 (0, 0)) :: blk n1 (.cells #[.int .i64 3, .int .i64 ifr, .int .i64 ito, .int .i64 iv, .int .i64 im, .int .i64 qv, .int .i64 qb, vq, .int .i64 tv, vt, vh, .int .i64 hv, .int .i64 hb, vg, .int .i64 ec, .int .u64 en, .int .u64 ef, .int .i64 ei, vb] 36 (0, 0)) :: l)) := (H5.out.setCell (i := 3) (.int .i64 iv)).drew
  generalize (x5.setCell ⟨n4, 3, none⟩ (.int .i64 iv)).drew = z6 at *
  have f4 := frozen_of_blk (H6.out.nth 0 rfl) 4
  have e4 : z6.cell? ⟨n4, 4, none⟩ = some (.int .i64 0) := (cell_of_blk (H6.out.nth 0 rfl) 4).trans rfl
  refine hK.out _ _ anyW.i ?_ (fun _ hSt => ?_)
  · exact H6.out.nth 2 rfl
  clear hSt hK K
  try simp only [Act.put, List.setIfInBounds_toArray, List.set_cons_zero, List.set_cons_succ]
  repeat (first | (refine seqW (v := ?_) rfl rfl (by kernel_rfl) ?_ ?_; rotate_left; (focus ((intro x; go_simp); try (with_reducible rfl))); try simp only [Act.put, List.setIfInBounds_toArray, List.set_cons_zero, List.set_cons_succ]) | (refine seqS (v := ?_) rfl rfl (by kernel_rfl) ?_ ?_; rotate_left; (focus (intro x hS; first | (have q3 : x.cell? ⟨n1, 3, none⟩ = some (.int .i64 iv) := (cell_of_blk hS 3).trans rfl; have q4 : x.cell? ⟨n1, 4, none⟩ = some (.int .i64 im) := (cell_of_blk hS 4).trans rfl; go_simp; try (with_reducible rfl)))); try simp only [Act.put, List.setIfInBounds_toArray, List.set_cons_zero, List.set_cons_succ]) | (refine seqX rfl rfl (by kernel_rfl) ?_; try simp only [Act.put, List.setIfInBounds_toArray, List.set_cons_zero, List.set_cons_succ]))
  refine seqT rfl rfl (fun K hK => ?_)
  go_simp
  have H7 : Hid (Sys (z6.setCell ⟨n4, 4, none⟩ (.int .i64 im)) m (blk n4 (.cells #[.int .i64 3, .int .i64 ifr, .int .i64 ito, .int .i64 iv, .int .i64 im, .int .i64 0, .int .i64 0, .slice none 0 0, .int .i64 0, .slice none 0 0, .slice none 0 0, .int .i64 0, .int .i64 0, .slice none 0 0, .int .i64 0, .int .u64 0, .int .u64 0, .int .i64 0, .slice none 0 0] 36 (0, 0)) :: blk n2 (.cells #[.int .i64 0, .int .i64 0, .int .i64 0, .int .i64 0, .int .i64 0, .int .i64 0, .int .i64 0, .slice none 0 0, .int .i64 0, .slice none 0 0, .slice none 0 0, .int .i64 0, .int .i64 0, .slice none 0 0, .int .i64 0, .int .u64 0, .int .u64 0, .int .i64 0, .slice none 0 0] 36 (0, 0)) :: blk n1 (.cells #[.int .i64 3, .int .i64 ifr, .int .i64 ito, .int .i64 iv, .int .i64 im, .int .i64 qv, .int .i64 qb, vq, .int .i64 tv, vt, vh, .int .i64 hv, .int .i64 hb, vg, .int .i64 ec, .int .u64 en, .int .u64 ef, .int .i64 ei, vb] 36 (0, 0)) :: l)) := H6.out.setCell (i := 4) (.int .i64 im)
  generalize z6.setCell ⟨n4, 4, none⟩ (.int .i64 im) = x6 at *
  refine hK.out _ _ anyW.i (fun _ => ?_)
  clear hK K
  try simp only [Act.put, List.setIfInBounds_toArray, List.set_cons_zero, List.set_cons_succ]
  refine seqE ?_
  go_upto_region 25 with fail
  have hc4 : x6.heap[n4]? = some (.cells #[.int .i64 3, .int .i64 ifr, .int .i64 ito, .int .i64 iv, .int .i64 im, .int .i64 0, .int .i64 0, .slice none 0 0, .int .i64 0, .slice none 0 0, .slice none 0 0, .int .i64 0, .int .i64 0, .slice none 0 0, .int .i64 0, .int .u64 0, .int .u64 0, .int .i64 0, .slice none 0 0] 36 (0, 0)) := H7.out.nth 0 rfl
  have hc2 : x6.heap[n2]? = some (.cells #[.int .i64 0, .int .i64 0, .int .i64 0, .int .i64 0, .int .i64 0, .int .i64 0, .int .i64 0, .slice none 0 0, .int .i64 0, .slice none 0 0, .slice none 0 0, .int .i64 0, .int .i64 0, .slice none 0 0, .int .i64 0, .int .u64 0, .int .u64 0, .int .i64 0, .slice none 0 0] 36 (0, 0)) := H7.out.nth 1 rfl
  obtain ⟨co, hco⟩ : ∃ co : Array Value, co = #[.int .i64 3, .int .i64 ifr, .int .i64 ito, .int .i64 iv, .int .i64 im, .int .i64 0, .int .i64 0, .slice none 0 0, .int .i64 0, .slice none 0 0, .slice none 0 0, .int .i64 0, .int .i64 0, .slice none 0 0, .int .i64 0, .int .u64 0, .int .u64 0, .int .i64 0, .slice none 0 0] := ⟨_, rfl⟩
  have hone2 : co.all (·.oneCell') = true := by rw [hco]; simp [Value.oneCell']
  have hcl2 : (Try.prog.info? 36).map (·.size) = some co.size := by rw [hco]; exact size19
  have hcz2 : (#[.int .i64 0, .int .i64 0, .int .i64 0, .int .i64 0, .int .i64 0, .int .i64 0, .int .i64 0, .slice none 0 0, .int .i64 0, .slice none 0 0, .slice none 0 0, .int .i64 0, .int .i64 0, .slice none 0 0, .int .i64 0, .int .u64 0, .int .u64 0, .int .i64 0, .slice none 0 0] : Array Value).size = co.size := by rw [hco]; rfl
  obtain ⟨y9, hy9⟩ : ∃ y, y = x6.setRow n2 co := ⟨_, rfl⟩
  have hr9 : y9.heap[n2]? = some (.cells co 36 (0, 0)) := by rw [hy9]; exact setRow_heap _ n2 _ co _ _ hc2
  have H9 : Hid (Sys y9 m l) := by rw [hy9]; exact (H7.out.tail.store ((Chg.refl (· = n2) x6).row co) (setRow_heap _ n2 _ co _ _ hc2)).tail.tail
  rw [← hco] at hc4
  have HCO := Lib.hid hco
  have HY9 := Lib.hid hy9
  clear hco hy9
  go_wp2_with (first | (refine wpList_load_row rfl 36 _ rfl n4 rfl _ _ _ _ hc4 Try.underlying36 rfl hcl2 ?_) | (refine wpList_store_row rfl 36 _ _ rfl n2 co rfl rfl _ _ hc2 hcl2 hcz2 hone2 ?_; rw [← HY9.out]))
  refine bodyPost_ret (results_cell_tmp rfl _ _ n2 _ _ _ _ rfl hr9 Try.underlying36 rfl hcl2) rfl ?_
  refine ⟨?_, H9.out⟩
  rw [HCO.out]
  try rfl
set_option maxRecDepth 100000 in
set_option maxHeartbeats 4000000 in
theorem mess_own_share (ifr ito iv im qv qb tv hv hb ec en ef ei : Int) (vq vt vh vg vb : Value)  (h : Sys w m l) :
    Calls Try.prog 78 #[.agg #[.int .i64 8, .int .i64 ifr, .int .i64 ito, .int .i64 iv, .int .i64 im, .int .i64 qv, .int .i64 qb, vq, .int .i64 tv, vt, vh, .int .i64 hv, .int .i64 hb, vg, .int .i64 ec, .int .u64 en, .int .u64 ef, .int .i64 ei, vb]] w fun z w' => z = .returned (.tuple #[.agg #[.int .i64 8, .int .i64 ifr, .int .i64 ito, .int .i64 0, .int .i64 im, .int .i64 0, .int .i64 0, .slice none 0 0, .int .i64 0, .slice none 0 0, .slice none 0 0, .int .i64 0, .int .i64 0, .slice none 0 0, .int .i64 0, .int .u64 0, .int .u64 0, .int .i64 0, .slice none 0 0], .bool true]) ∧ Sys w' m l := by
  obtain ⟨n1, x1, EN1, EX1, ES1, H1⟩ := h.box (.cells #[.int .i64 8, .int .i64 ifr, .int .i64 ito, .int .i64 iv, .int .i64 im, .int .i64 qv, .int .i64 qb, vq, .int .i64 tv, vt, vh, .int .i64 hv, .int .i64 hb, vg, .int .i64 ec, .int .u64 en, .int .u64 ef, .int .i64 ei, vb] 36 (0, 0))
  obtain ⟨n2, x2, EN2, EX2, ES2, H2⟩ := Sys.box' H1 ES1 (.cells #[.int .i64 0, .int .i64 0, .int .i64 0, .int .i64 0, .int .i64 0, .int .i64 0, .int .i64 0, .slice none 0 0, .int .i64 0, .slice none 0 0, .slice none 0 0, .int .i64 0, .int .i64 0, .slice none 0 0, .int .i64 0, .int .u64 0, .int .u64 0, .int .i64 0, .slice none 0 0] 36 (0, 0))
  obtain ⟨n4, x4, EN4, EX4, ES4, H4⟩ := H2.out.box (.cells #[.int .i64 0, .int .i64 0, .int .i64 0, .int .i64 0, .int .i64 0, .int .i64 0, .int .i64 0, .slice none 0 0, .int .i64 0, .slice none 0 0, .slice none 0 0, .int .i64 0, .int .i64 0, .slice none 0 0, .int .i64 0, .int .u64 0, .int .u64 0, .int .i64 0, .slice none 0 0] 36 (0, 0))
  have hb4 : x4.heap[n4]? = some (.cells #[.int .i64 0, .int .i64 0, .int .i64 0, .int .i64 0, .int .i64 0, .int .i64 0, .int .i64 0, .slice none 0 0, .int .i64 0, .slice none 0 0, .slice none 0 0, .int .i64 0, .int .i64 0, .slice none 0 0, .int .i64 0, .int .u64 0, .int .u64 0, .int .i64 0, .slice none 0 0] 36 (0, 0)) := H4.out.nth 0 rfl
  obtain ⟨cs, hcs⟩ : ∃ cs : Array Value, cs = #[.int .i64 8, .int .i64 ifr, .int .i64 ito, .int .i64 0, .int .i64 0, .int .i64 0, .int .i64 0, .slice none 0 0, .int .i64 0, .slice none 0 0, .slice none 0 0, .int .i64 0, .int .i64 0, .slice none 0 0, .int .i64 0, .int .u64 0, .int .u64 0, .int .i64 0, .slice none 0 0] := ⟨_, rfl⟩
  obtain ⟨x5, hx5⟩ : ∃ x, x = x4.setRow n4 cs := ⟨_, rfl⟩
  have hone : cs.all (·.oneCell') = true := by rw [hcs]; simp [Value.oneCell']
  have hcl : (Try.prog.info? 36).map (·.size) = some cs.size := by rw [hcs]; exact size19
  have hcz : (#[.int .i64 0, .int .i64 0, .int .i64 0, .int .i64 0, .int .i64 0, .int .i64 0, .int .i64 0, .slice none 0 0, .int .i64 0, .slice none 0 0, .slice none 0 0, .int .i64 0, .int .i64 0, .slice none 0 0, .int .i64 0, .int .u64 0, .int .u64 0, .int .i64 0, .slice none 0 0] : Array Value).size = cs.size := by rw [hcs]; rfl
  have H5 : Hid (Sys x5 m (blk n4 (.cells #[.int .i64 8, .int .i64 ifr, .int .i64 ito, .int .i64 0, .int .i64 0, .int .i64 0, .int .i64 0, .slice none 0 0, .int .i64 0, .slice none 0 0, .slice none 0 0, .int .i64 0, .int .i64 0, .slice none 0 0, .int .i64 0, .int .u64 0, .int .u64 0, .int .i64 0, .slice none 0 0] 36 (0, 0)) :: blk n2 (.cells #[.int .i64 0, .int .i64 0, .int .i64 0, .int .i64 0, .int .i64 0, .int .i64 0, .int .i64 0, .slice none 0 0, .int .i64 0, .slice none 0 0, .slice none 0 0, .int .i64 0, .int .i64 0, .slice none 0 0, .int .i64 0, .int .u64 0, .int .u64 0, .int .i64 0, .slice none 0 0] 36 (0, 0)) :: blk n1 (.cells #[.int .i64 8, .int .i64 ifr, .int .i64 ito, .int .i64 iv, .int .i64 im, .int .i64 qv, .int .i64 qb, vq, .int .i64 tv, vt, vh, .int .i64 hv, .int .i64 hb, vg, .int .i64 ec, .int .u64 en, .int .u64 ef, .int .i64 ei, vb] 36 (0, 0)) :: l)) := by
    rw [hx5, hcs]
    exact H4.out.store ((Chg.refl (· = n4) x4).row #[.int .i64 8, .int .i64 ifr, .int .i64 ito, .int .i64 0, .int .i64 0, .int .i64 0, .int .i64 0, .slice none 0 0, .int .i64 0, .slice none 0 0, .slice none 0 0, .int .i64 0, .int .i64 0, .slice none 0 0, .int .i64 0, .int .u64 0, .int .u64 0, .int .i64 0, .slice none 0 0]) (setRow_heap _ _ _ _ _ _ hb4)
  have hb1 : x2.heap[n1]? = some (.cells #[.int .i64 8, .int .i64 ifr, .int .i64 ito, .int .i64 iv, .int .i64 im, .int .i64 qv, .int .i64 qb, vq, .int .i64 tv, vt, vh, .int .i64 hv, .int .i64 hb, vg, .int .i64 ec, .int .u64 en, .int .u64 ef, .int .i64 ei, vb] 36 (0, 0)) := H2.out.nth 1 rfl
  have q0 : x2.cell? ⟨n1, 0, none⟩ = some (.int .i64 8) := (cell_of_blk hb1 0).trans rfl
  have q1 : x2.cell? ⟨n1, 1, none⟩ = some (.int .i64 ifr) := (cell_of_blk hb1 1).trans rfl
  have q2 : x2.cell? ⟨n1, 2, none⟩ = some (.int .i64 ito) := (cell_of_blk hb1 2).trans rfl
  have hbt : Try.prog.built 36 [(0, .int .i64 8), (1, .int .i64 ifr), (2, .int .i64 ito)] = some cs := by rw [hcs]; rfl
  have HBT := Lib.hid hbt
  have HX5 := Lib.hid hx5
  have HCS := Lib.hid hcs
  have HB4 := Lib.hid hb4
  clear h hx5 hb4 hb1 hcs hbt
  go_enter Try.func78, Try.ntmps78
  go_upto_region 1 with fail
  rw [EX1.out, EX2.out, EN2.out, EN1.out]
  go_upto_region 2 with (first | (refine wpList_buildTo rfl 36 _ rfl (some 11) rfl cs ?_ ?_; (focus (simp only [List.map_toArray, List.map_cons, List.map_nil]; exact HBT.out))) | (rw [EX4.out, EN4.out]; refine wpList_store_row rfl 36 _ _ rfl n4 cs rfl rfl _ _ HB4.out hcl hcz hone ?_; rw [← HX5.out]))
  have hbi : x5.heap[n1]? = some (.cells #[.int .i64 8, .int .i64 ifr, .int .i64 ito, .int .i64 iv, .int .i64 im, .int .i64 qv, .int .i64 qb, vq, .int .i64 tv, vt, vh, .int .i64 hv, .int .i64 hb, vg, .int .i64 ec, .int .u64 en, .int .u64 ef, .int .i64 ei, vb] 36 (0, 0)) := H5.out.nth 2 rfl
  have q0 : x5.cell? ⟨n1, 0, none⟩ = some (.int .i64 8) := (cell_of_blk hbi 0).trans rfl
  have q4 : x5.cell? ⟨n1, 4, none⟩ = some (.int .i64 im) := (cell_of_blk hbi 4).trans rfl
  have f4 := frozen_of_blk (H5.out.nth 0 rfl) 4
  have e4 : x5.cell? ⟨n4, 4, none⟩ = some (.int .i64 0) := (cell_of_blk (H5.out.nth 0 rfl) 4).trans rfl
  go_upto_region 25 with fail
  have H7 : Hid (Sys (x5.setCell ⟨n4, 4, none⟩ (.int .i64 im)) m (blk n4 (.cells #[.int .i64 8, .int .i64 ifr, .int .i64 ito, .int .i64 0, .int .i64 im, .int .i64 0, .int .i64 0, .slice none 0 0, .int .i64 0, .slice none 0 0, .slice none 0 0, .int .i64 0, .int .i64 0, .slice none 0 0, .int .i64 0, .int .u64 0, .int .u64 0, .int .i64 0, .slice none 0 0] 36 (0, 0)) :: blk n2 (.cells #[.int .i64 0, .int .i64 0, .int .i64 0, .int .i64 0, .int .i64 0, .int .i64 0, .int .i64 0, .slice none 0 0, .int .i64 0, .slice none 0 0, .slice none 0 0, .int .i64 0, .int .i64 0, .slice none 0 0, .int .i64 0, .int .u64 0, .int .u64 0, .int .i64 0, .slice none 0 0] 36 (0, 0)) :: blk n1 (.cells #[.int .i64 8, .int .i64 ifr, .int .i64 ito, .int .i64 iv, .int .i64 im, .int .i64 qv, .int .i64 qb, vq, .int .i64 tv, vt, vh, .int .i64 hv, .int .i64 hb, vg, .int .i64 ec, .int .u64 en, .int .u64 ef, .int .i64 ei, vb] 36 (0, 0)) :: l)) := H5.out.setCell (i := 4) (.int .i64 im)
  generalize x5.setCell ⟨n4, 4, none⟩ (.int .i64 im) = x6 at *
  have hc4 : x6.heap[n4]? = some (.cells #[.int .i64 8, .int .i64 ifr, .int .i64 ito, .int .i64 0, .int .i64 im, .int .i64 0, .int .i64 0, .slice none 0 0, .int .i64 0, .slice none 0 0, .slice none 0 0, .int .i64 0, .int .i64 0, .slice none 0 0, .int .i64 0, .int .u64 0, .int .u64 0, .int .i64 0, .slice none 0 0] 36 (0, 0)) := H7.out.nth 0 rfl
  have hc2 : x6.heap[n2]? = some (.cells #[.int .i64 0, .int .i64 0, .int .i64 0, .int .i64 0, .int .i64 0, .int .i64 0, .int .i64 0, .slice none 0 0, .int .i64 0, .slice none 0 0, .slice none 0 0, .int .i64 0, .int .i64 0, .slice none 0 0, .int .i64 0, .int .u64 0, .int .u64 0, .int .i64 0, .slice none 0 0] 36 (0, 0)) := H7.out.nth 1 rfl
  obtain ⟨co, hco⟩ : ∃ co : Array Value, co = #[.int .i64 8, .int .i64 ifr, .int .i64 ito, .int .i64 0, .int .i64 im, .int .i64 0, .int .i64 0, .slice none 0 0, .int .i64 0, .slice none 0 0, .slice none 0 0, .int .i64 0, .int .i64 0, .slice none 0 0, .int .i64 0, .int .u64 0, .int .u64 0, .int .i64 0, .slice none 0 0] := ⟨_, rfl⟩
  have hone2 : co.all (·.oneCell') = true := by rw [hco]; simp [Value.oneCell']
  have hcl2 : (Try.prog.info? 36).map (·.size) = some co.size := by rw [hco]; exact size19
  have hcz2 : (#[.int .i64 0, .int .i64 0, .int .i64 0, .int .i64 0, .int .i64 0, .int .i64 0, .int .i64 0, .slice none 0 0, .int .i64 0, .slice none 0 0, .slice none 0 0, .int .i64 0, .int .i64 0, .slice none 0 0, .int .i64 0, .int .u64 0, .int .u64 0, .int .i64 0, .slice none 0 0] : Array Value).size = co.size := by rw [hco]; rfl
  obtain ⟨y9, hy9⟩ : ∃ y, y = x6.setRow n2 co := ⟨_, rfl⟩
  have hr9 : y9.heap[n2]? = some (.cells co 36 (0, 0)) := by rw [hy9]; exact setRow_heap _ n2 _ co _ _ hc2
  have H9 : Hid (Sys y9 m l) := by rw [hy9]; exact (H7.out.tail.store ((Chg.refl (· = n2) x6).row co) (setRow_heap _ n2 _ co _ _ hc2)).tail.tail
  rw [← hco] at hc4
  have HCO := Lib.hid hco
  have HY9 := Lib.hid hy9
  clear hco hy9
  go_wp2_with (first | (refine wpList_load_row rfl 36 _ rfl n4 rfl _ _ _ _ hc4 Try.underlying36 rfl hcl2 ?_) | (refine wpList_store_row rfl 36 _ _ rfl n2 co rfl rfl _ _ hc2 hcl2 hcz2 hone2 ?_; rw [← HY9.out]))
  refine bodyPost_ret (results_cell_tmp rfl _ _ n2 _ _ _ _ rfl hr9 Try.underlying36 rfl hcl2) rfl ?_
  refine ⟨?_, H9.out⟩
  rw [HCO.out]
  try rfl
set_option maxRecDepth 100000 in
set_option maxHeartbeats 4000000 in
theorem mess_own_out (ifr ito iv im qv qb tv hv hb ec en ef ei : Int) (qa : Option Addr) (nq qc : Nat) (vt vh vg vb : Value)  (h : Sys w m l) :
    Calls Try.prog 78 #[.agg #[.int .i64 4, .int .i64 ifr, .int .i64 ito, .int .i64 iv, .int .i64 im, .int .i64 qv, .int .i64 qb, .slice qa nq qc, .int .i64 tv, vt, vh, .int .i64 hv, .int .i64 hb, vg, .int .i64 ec, .int .u64 en, .int .u64 ef, .int .i64 ei, vb]] w fun z w' => z = .returned (.tuple #[.agg #[.int .i64 4, .int .i64 ifr, .int .i64 ito, .int .i64 iv, .int .i64 0, .int .i64 qv, .int .i64 qb, .slice qa nq qc, .int .i64 0, .slice none 0 0, .slice none 0 0, .int .i64 0, .int .i64 0, .slice none 0 0, .int .i64 0, .int .u64 0, .int .u64 0, .int .i64 0, .slice none 0 0], .bool true]) ∧ Sys w' m l := by
  obtain ⟨n1, x1, EN1, EX1, ES1, H1⟩ := h.box (.cells #[.int .i64 4, .int .i64 ifr, .int .i64 ito, .int .i64 iv, .int .i64 im, .int .i64 qv, .int .i64 qb, .slice qa nq qc, .int .i64 tv, vt, vh, .int .i64 hv, .int .i64 hb, vg, .int .i64 ec, .int .u64 en, .int .u64 ef, .int .i64 ei, vb] 36 (0, 0))
  obtain ⟨n2, x2, EN2, EX2, ES2, H2⟩ := Sys.box' H1 ES1 (.cells #[.int .i64 0, .int .i64 0, .int .i64 0, .int .i64 0, .int .i64 0, .int .i64 0, .int .i64 0, .slice none 0 0, .int .i64 0, .slice none 0 0, .slice none 0 0, .int .i64 0, .int .i64 0, .slice none 0 0, .int .i64 0, .int .u64 0, .int .u64 0, .int .i64 0, .slice none 0 0] 36 (0, 0))
  obtain ⟨n4, x4, EN4, EX4, ES4, H4⟩ := H2.out.box (.cells #[.int .i64 0, .int .i64 0, .int .i64 0, .int .i64 0, .int .i64 0, .int .i64 0, .int .i64 0, .slice none 0 0, .int .i64 0, .slice none 0 0, .slice none 0 0, .int .i64 0, .int .i64 0, .slice none 0 0, .int .i64 0, .int .u64 0, .int .u64 0, .int .i64 0, .slice none 0 0] 36 (0, 0))
  have hb4 : x4.heap[n4]? = some (.cells #[.int .i64 0, .int .i64 0, .int .i64 0, .int .i64 0, .int .i64 0, .int .i64 0, .int .i64 0, .slice none 0 0, .int .i64 0, .slice none 0 0, .slice none 0 0, .int .i64 0, .int .i64 0, .slice none 0 0, .int .i64 0, .int .u64 0, .int .u64 0, .int .i64 0, .slice none 0 0] 36 (0, 0)) := H4.out.nth 0 rfl
  obtain ⟨cs, hcs⟩ : ∃ cs : Array Value, cs = #[.int .i64 4, .int .i64 ifr, .int .i64 ito, .int .i64 0, .int .i64 0, .int .i64 0, .int .i64 0, .slice none 0 0, .int .i64 0, .slice none 0 0, .slice none 0 0, .int .i64 0, .int .i64 0, .slice none 0 0, .int .i64 0, .int .u64 0, .int .u64 0, .int .i64 0, .slice none 0 0] := ⟨_, rfl⟩
  obtain ⟨x5, hx5⟩ : ∃ x, x = x4.setRow n4 cs := ⟨_, rfl⟩
  have hone : cs.all (·.oneCell') = true := by rw [hcs]; simp [Value.oneCell']
  have hcl : (Try.prog.info? 36).map (·.size) = some cs.size := by rw [hcs]; exact size19
  have hcz : (#[.int .i64 0, .int .i64 0, .int .i64 0, .int .i64 0, .int .i64 0, .int .i64 0, .int .i64 0, .slice none 0 0, .int .i64 0, .slice none 0 0, .slice none 0 0, .int .i64 0, .int .i64 0, .slice none 0 0, .int .i64 0, .int .u64 0, .int .u64 0, .int .i64 0, .slice none 0 0] : Array Value).size = cs.size := by rw [hcs]; rfl
  have H5 : Hid (Sys x5 m (blk n4 (.cells #[.int .i64 4, .int .i64 ifr, .int .i64 ito, .int .i64 0, .int .i64 0, .int .i64 0, .int .i64 0, .slice none 0 0, .int .i64 0, .slice none 0 0, .slice none 0 0, .int .i64 0, .int .i64 0, .slice none 0 0, .int .i64 0, .int .u64 0, .int .u64 0, .int .i64 0, .slice none 0 0] 36 (0, 0)) :: blk n2 (.cells #[.int .i64 0, .int .i64 0, .int .i64 0, .int .i64 0, .int .i64 0, .int .i64 0, .int .i64 0, .slice none 0 0, .int .i64 0, .slice none 0 0, .slice none 0 0, .int .i64 0, .int .i64 0, .slice none 0 0, .int .i64 0, .int .u64 0, .int .u64 0, .int .i64 0, .slice none 0 0] 36 (0, 0)) :: blk n1 (.cells #[.int .i64 4, .int .i64 ifr, .int .i64 ito, .int .i64 iv, .int .i64 im, .int .i64 qv, .int .i64 qb, .slice qa nq qc, .int .i64 tv, vt, vh, .int .i64 hv, .int .i64 hb, vg, .int .i64 ec, .int .u64 en, .int .u64 ef, .int .i64 ei, vb] 36 (0, 0)) :: l)) := by
    rw [hx5, hcs]
    exact H4.out.store ((Chg.refl (· = n4) x4).row #[.int .i64 4, .int .i64 ifr, .int .i64 ito, .int .i64 0, .int .i64 0, .int .i64 0, .int .i64 0, .slice none 0 0, .int .i64 0, .slice none 0 0, .slice none 0 0, .int .i64 0, .int .i64 0, .slice none 0 0, .int .i64 0, .int .u64 0, .int .u64 0, .int .i64 0, .slice none 0 0]) (setRow_heap _ _ _ _ _ _ hb4)
  have hb1 : x2.heap[n1]? = some (.cells #[.int .i64 4, .int .i64 ifr, .int .i64 ito, .int .i64 iv, .int .i64 im, .int .i64 qv, .int .i64 qb, .slice qa nq qc, .int .i64 tv, vt, vh, .int .i64 hv, .int .i64 hb, vg, .int .i64 ec, .int .u64 en, .int .u64 ef, .int .i64 ei, vb] 36 (0, 0)) := H2.out.nth 1 rfl
  have q0 : x2.cell? ⟨n1, 0, none⟩ = some (.int .i64 4) := (cell_of_blk hb1 0).trans rfl
  have q1 : x2.cell? ⟨n1, 1, none⟩ = some (.int .i64 ifr) := (cell_of_blk hb1 1).trans rfl
  have q2 : x2.cell? ⟨n1, 2, none⟩ = some (.int .i64 ito) := (cell_of_blk hb1 2).trans rfl
  have hbt : Try.prog.built 36 [(0, .int .i64 4), (1, .int .i64 ifr), (2, .int .i64 ito)] = some cs := by rw [hcs]; rfl
  have HBT := Lib.hid hbt
  have HX5 := Lib.hid hx5
  have HCS := Lib.hid hcs
  have HB4 := Lib.hid hb4
  clear h hx5 hb4 hb1 hcs hbt
  go_enter Try.func78, Try.ntmps78
  go_upto_region 1 with fail
  rw [EX1.out, EX2.out, EN2.out, EN1.out]
  go_upto_region 2 with (first | (refine wpList_buildTo rfl 36 _ rfl (some 11) rfl cs ?_ ?_; (focus (simp only [List.map_toArray, List.map_cons, List.map_nil]; exact HBT.out))) | (rw [EX4.out, EN4.out]; refine wpList_store_row rfl 36 _ _ rfl n4 cs rfl rfl _ _ HB4.out hcl hcz hone ?_; rw [← HX5.out]))
  have hbi : x5.heap[n1]? = some (.cells #[.int .i64 4, .int .i64 ifr, .int .i64 ito, .int .i64 iv, .int .i64 im, .int .i64 qv, .int .i64 qb, .slice qa nq qc, .int .i64 tv, vt, vh, .int .i64 hv, .int .i64 hb, vg, .int .i64 ec, .int .u64 en, .int .u64 ef, .int .i64 ei, vb] 36 (0, 0)) := H5.out.nth 2 rfl
  have q0 : x5.cell? ⟨n1, 0, none⟩ = some (.int .i64 4) := (cell_of_blk hbi 0).trans rfl
  go_upto_region 13 with fail
  have f3 := frozen_of_blk (H5.out.drew.nth 0 rfl) 3
  have e3 : x5.drew.cell? ⟨n4, 3, none⟩ = some (.int .i64 0) := (cell_of_blk (H5.out.drew.nth 0 rfl) 3).trans rfl
  refine wp_region_seq (fun x : World => x.heap[n1]? = some (.cells #[.int .i64 4, .int .i64 ifr, .int .i64 ito, .int .i64 iv, .int .i64 im, .int .i64 qv, .int .i64 qb, .slice qa nq qc, .int .i64 tv, vt, vh, .int .i64 hv, .int .i64 hb, vg, .int .i64 ec, .int .u64 en, .int .u64 ef, .int .i64 ei, vb] 36 (0, 0))) anyW [7] [(0, 0, some 41), (1, 1, some 42), (2, 0, some 43), (3, 1, some 44), (4, 0, some 45), (5, 2, none), (6, 0, some 46), (7, 3, none)] (by kernel_rfl) (by kernel_rfl) (fun _ _ _ d _ h => by cases d <;> exact h) (H5.out.drew.nth 2 rfl) anyW.i ?_
  repeat (first | (refine seqW (v := ?_) rfl rfl (by kernel_rfl) ?_ ?_; rotate_left; (focus ((intro x; go_simp); try (with_reducible rfl))); try simp only [Act.put, List.setIfInBounds_toArray, List.set_cons_zero, List.set_cons_succ]) | (refine seqS (v := ?_) rfl rfl (by kernel_rfl) ?_ ?_; rotate_left; (focus (intro x hS; first | (refine (exec_at 28 _ (by rfl) n1 5 (by rfl) [.int .i64 qv, .int .i64 qb, .slice qa nq qc] _ (cells_at hS 5 _ rfl) Try.underlying28 rfl size3).trans ?_; with_reducible rfl) | (have q3 : x.cell? ⟨n1, 3, none⟩ = some (.int .i64 iv) := (cell_of_blk hS 3).trans rfl; go_simp; try (with_reducible rfl)))); try simp only [Act.put, List.setIfInBounds_toArray, List.set_cons_zero, List.set_cons_succ]) | (refine seqX rfl rfl (by kernel_rfl) ?_; try simp only [Act.put, List.setIfInBounds_toArray, List.set_cons_zero, List.set_cons_succ]))
  refine seqL rfl rfl (fun K hK => ?_)
  go_simp
  have H6 : Hid (Sys (x5.setCell ⟨n4, 3, none⟩ (.int .i64 iv)).drew m (blk n4 (.cells #[.int .i64 4, .int .i64 ifr, .int .i64 ito, .int .i64 iv, .int .i64 0, .int .i64 0, .int .i64 0, .slice none 0 0, .int .i64 0, .slice none 0 0, .slice none 0 0, .int .i64 0, .int .i64 0, .slice none 0 0, .int .i64 0, .int .u64 0, .int .u64 0, .int .i64 0, .slice none 0 0] 36 (0, 0)) :: blk n2 (.cells #[.int .i64 0, .int .i64 0, .int .i64 0, .int .i64 0, .int .i64 0, .int .i64 0, .int .i64 0, .slice none 0 0, .int .i64 0, .slice none 0 0, .slice none 0 0, .int .i64 0, .int .i64 0, .slice none 0 0, .int .i64 0, .int .u64 0, .int .u64 0, .int .i64 0, .slice none 0 0] 36 (0, 0)) :: blk n1 (.cells #[.int .i64 4, .int .i64 ifr, .int .i64 ito, .int .i64 iv, .int .i64 im, .int .i64 qv, .int .i64 qb, .slice qa nq qc, .int .i64 tv, vt, vh, .int .i64 hv, .int .i64 hb, vg, .int .i64 ec, .int .u64 en, .int .u64 ef, .int .i64 ei, vb] 36 (0, 0)) :: l)) := (H5.out.setCell (i := 3) (.int .i64 iv)).drew
  generalize (x5.setCell ⟨n4, 3, none⟩ (.int .i64 iv)).drew = z6 at *
  refine hK.out _ _ anyW.i ?_ (fun _ hSt => ?_)
  · exact H6.out.nth 2 rfl
  clear hSt hK K
  try simp only [Act.put, List.setIfInBounds_toArray, List.set_cons_zero, List.set_cons_succ]
  repeat (first | (refine seqW (v := ?_) rfl rfl (by kernel_rfl) ?_ ?_; rotate_left; (focus ((intro x; go_simp); try (with_reducible rfl))); try simp only [Act.put, List.setIfInBounds_toArray, List.set_cons_zero, List.set_cons_succ]) | (refine seqS (v := ?_) rfl rfl (by kernel_rfl) ?_ ?_; rotate_left; (focus (intro x hS; first | (refine (exec_at 28 _ (by rfl) n1 5 (by rfl) [.int .i64 qv, .int .i64 qb, .slice qa nq qc] _ (cells_at hS 5 _ rfl) Try.underlying28 rfl size3).trans ?_; with_reducible rfl) | (have q3 : x.cell? ⟨n1, 3, none⟩ = some (.int .i64 iv) := (cell_of_blk hS 3).trans rfl; go_simp; try (with_reducible rfl)))); try simp only [Act.put, List.setIfInBounds_toArray, List.set_cons_zero, List.set_cons_succ]) | (refine seqX rfl rfl (by kernel_rfl) ?_; try simp only [Act.put, List.setIfInBounds_toArray, List.set_cons_zero, List.set_cons_succ]))
  refine seqT rfl rfl (fun K hK => ?_)
  have hz4 : z6.heap[n4]? = some (.cells #[.int .i64 4, .int .i64 ifr, .int .i64 ito, .int .i64 iv, .int .i64 0, .int .i64 0, .int .i64 0, .slice none 0 0, .int .i64 0, .slice none 0 0, .slice none 0 0, .int .i64 0, .int .i64 0, .slice none 0 0, .int .i64 0, .int .u64 0, .int .u64 0, .int .i64 0, .slice none 0 0] 36 (0, 0)) := H6.out.nth 0 rfl
  refine wp_store_at 28 _ _ rfl n4 5 rfl [.int .i64 qv, .int .i64 qb, .slice qa nq qc] rfl size3 (fun j hj => by rw [cell_of_blk hz4]; have : j < 3 := hj; rcases j with _ | _ | _ | j <;> first | rfl | omega) (fun j _ => frozen_of_blk hz4 _) (by intro v hv; simp at hv; rcases hv with rfl | rfl | rfl <;> rfl) ?_
  have H7 : Hid (Sys (z6.setCells n4 5 [.int .i64 qv, .int .i64 qb, .slice qa nq qc]) m (blk n4 (.cells #[.int .i64 4, .int .i64 ifr, .int .i64 ito, .int .i64 iv, .int .i64 0, .int .i64 qv, .int .i64 qb, .slice qa nq qc, .int .i64 0, .slice none 0 0, .slice none 0 0, .int .i64 0, .int .i64 0, .slice none 0 0, .int .i64 0, .int .u64 0, .int .u64 0, .int .i64 0, .slice none 0 0] 36 (0, 0)) :: blk n2 (.cells #[.int .i64 0, .int .i64 0, .int .i64 0, .int .i64 0, .int .i64 0, .int .i64 0, .int .i64 0, .slice none 0 0, .int .i64 0, .slice none 0 0, .slice none 0 0, .int .i64 0, .int .i64 0, .slice none 0 0, .int .i64 0, .int .u64 0, .int .u64 0, .int .i64 0, .slice none 0 0] 36 (0, 0)) :: blk n1 (.cells #[.int .i64 4, .int .i64 ifr, .int .i64 ito, .int .i64 iv, .int .i64 im, .int .i64 qv, .int .i64 qb, .slice qa nq qc, .int .i64 tv, vt, vh, .int .i64 hv, .int .i64 hb, vg, .int .i64 ec, .int .u64 en, .int .u64 ef, .int .i64 ei, vb] 36 (0, 0)) :: l)) := ((H6.out.setCell (i := 5) (.int .i64 qv)).setCell (i := 6) (.int .i64 qb)).setCell (i := 7) (.slice qa nq qc)
  generalize z6.setCells n4 5 [.int .i64 qv, .int .i64 qb, .slice qa nq qc] = x6 at *
  refine hK.out _ _ anyW.i (fun _ => ?_)
  clear hK K
  try simp only [Act.put, List.setIfInBounds_toArray, List.set_cons_zero, List.set_cons_succ]
  refine seqE ?_
  go_upto_region 25 with fail
  have hc4 : x6.heap[n4]? = some (.cells #[.int .i64 4, .int .i64 ifr, .int .i64 ito, .int .i64 iv, .int .i64 0, .int .i64 qv, .int .i64 qb, .slice qa nq qc, .int .i64 0, .slice none 0 0, .slice none 0 0, .int .i64 0, .int .i64 0, .slice none 0 0, .int .i64 0, .int .u64 0, .int .u64 0, .int .i64 0, .slice none 0 0] 36 (0, 0)) := H7.out.nth 0 rfl
  have hc2 : x6.heap[n2]? = some (.cells #[.int .i64 0, .int .i64 0, .int .i64 0, .int .i64 0, .int .i64 0, .int .i64 0, .int .i64 0, .slice none 0 0, .int .i64 0, .slice none 0 0, .slice none 0 0, .int .i64 0, .int .i64 0, .slice none 0 0, .int .i64 0, .int .u64 0, .int .u64 0, .int .i64 0, .slice none 0 0] 36 (0, 0)) := H7.out.nth 1 rfl
  obtain ⟨co, hco⟩ : ∃ co : Array Value, co = #[.int .i64 4, .int .i64 ifr, .int .i64 ito, .int .i64 iv, .int .i64 0, .int .i64 qv, .int .i64 qb, .slice qa nq qc, .int .i64 0, .slice none 0 0, .slice none 0 0, .int .i64 0, .int .i64 0, .slice none 0 0, .int .i64 0, .int .u64 0, .int .u64 0, .int .i64 0, .slice none 0 0] := ⟨_, rfl⟩
  have hone2 : co.all (·.oneCell') = true := by rw [hco]; simp [Value.oneCell']
  have hcl2 : (Try.prog.info? 36).map (·.size) = some co.size := by rw [hco]; exact size19
  have hcz2 : (#[.int .i64 0, .int .i64 0, .int .i64 0, .int .i64 0, .int .i64 0, .int .i64 0, .int .i64 0, .slice none 0 0, .int .i64 0, .slice none 0 0, .slice none 0 0, .int .i64 0, .int .i64 0, .slice none 0 0, .int .i64 0, .int .u64 0, .int .u64 0, .int .i64 0, .slice none 0 0] : Array Value).size = co.size := by rw [hco]; rfl
  obtain ⟨y9, hy9⟩ : ∃ y, y = x6.setRow n2 co := ⟨_, rfl⟩
  have hr9 : y9.heap[n2]? = some (.cells co 36 (0, 0)) := by rw [hy9]; exact setRow_heap _ n2 _ co _ _ hc2
  have H9 : Hid (Sys y9 m l) := by rw [hy9]; exact (H7.out.tail.store ((Chg.refl (· = n2) x6).row co) (setRow_heap _ n2 _ co _ _ hc2)).tail.tail
  rw [← hco] at hc4
  have HCO := Lib.hid hco
  have HY9 := Lib.hid hy9
  clear hco hy9
  go_wp2_with (first | (refine wpList_load_row rfl 36 _ rfl n4 rfl _ _ _ _ hc4 Try.underlying36 rfl hcl2 ?_) | (refine wpList_store_row rfl 36 _ _ rfl n2 co rfl rfl _ _ hc2 hcl2 hcz2 hone2 ?_; rw [← HY9.out]))
  refine bodyPost_ret (results_cell_tmp rfl _ _ n2 _ _ _ _ rfl hr9 Try.underlying36 rfl hcl2) rfl ?_
  refine ⟨?_, H9.out⟩
  rw [HCO.out]
  try rfl
set_option maxRecDepth 100000 in
set_option maxHeartbeats 4000000 in
theorem mess_own_ask (ifr ito iv im qv qb tv hv hb ec en ef ei : Int) (qa : Option Addr) (nq qc : Nat) (vt vh vg vb : Value)  (h : Sys w m l) :
    Calls Try.prog 78 #[.agg #[.int .i64 6, .int .i64 ifr, .int .i64 ito, .int .i64 iv, .int .i64 im, .int .i64 qv, .int .i64 qb, .slice qa nq qc, .int .i64 tv, vt, vh, .int .i64 hv, .int .i64 hb, vg, .int .i64 ec, .int .u64 en, .int .u64 ef, .int .i64 ei, vb]] w fun z w' => z = .returned (.tuple #[.agg #[.int .i64 6, .int .i64 ifr, .int .i64 ito, .int .i64 iv, .int .i64 0, .int .i64 qv, .int .i64 qb, .slice qa nq qc, .int .i64 0, .slice none 0 0, .slice none 0 0, .int .i64 0, .int .i64 0, .slice none 0 0, .int .i64 0, .int .u64 0, .int .u64 0, .int .i64 0, .slice none 0 0], .bool true]) ∧ Sys w' m l := by
  obtain ⟨n1, x1, EN1, EX1, ES1, H1⟩ := h.box (.cells #[.int .i64 6, .int .i64 ifr, .int .i64 ito, .int .i64 iv, .int .i64 im, .int .i64 qv, .int .i64 qb, .slice qa nq qc, .int .i64 tv, vt, vh, .int .i64 hv, .int .i64 hb, vg, .int .i64 ec, .int .u64 en, .int .u64 ef, .int .i64 ei, vb] 36 (0, 0))
  obtain ⟨n2, x2, EN2, EX2, ES2, H2⟩ := Sys.box' H1 ES1 (.cells #[.int .i64 0, .int .i64 0, .int .i64 0, .int .i64 0, .int .i64 0, .int .i64 0, .int .i64 0, .slice none 0 0, .int .i64 0, .slice none 0 0, .slice none 0 0, .int .i64 0, .int .i64 0, .slice none 0 0, .int .i64 0, .int .u64 0, .int .u64 0, .int .i64 0, .slice none 0 0] 36 (0, 0))
  obtain ⟨n4, x4, EN4, EX4, ES4, H4⟩ := H2.out.box (.cells #[.int .i64 0, .int .i64 0, .int .i64 0, .int .i64 0, .int .i64 0, .int .i64 0, .int .i64 0, .slice none 0 0, .int .i64 0, .slice none 0 0, .slice none 0 0, .int .i64 0, .int .i64 0, .slice none 0 0, .int .i64 0, .int .u64 0, .int .u64 0, .int .i64 0, .slice none 0 0] 36 (0, 0))
  have hb4 : x4.heap[n4]? = some (.cells #[.int .i64 0, .int .i64 0, .int .i64 0, .int .i64 0, .int .i64 0, .int .i64 0, .int .i64 0, .slice none 0 0, .int .i64 0, .slice none 0 0, .slice none 0 0, .int .i64 0, .int .i64 0, .slice none 0 0, .int .i64 0, .int .u64 0, .int .u64 0, .int .i64 0, .slice none 0 0] 36 (0, 0)) := H4.out.nth 0 rfl
  obtain ⟨cs, hcs⟩ : ∃ cs : Array Value, cs = #[.int .i64 6, .int .i64 ifr, .int .i64 ito, .int .i64 0, .int .i64 0, .int .i64 0, .int .i64 0, .slice none 0 0, .int .i64 0, .slice none 0 0, .slice none 0 0, .int .i64 0, .int .i64 0, .slice none 0 0, .int .i64 0, .int .u64 0, .int .u64 0, .int .i64 0, .slice none 0 0] := ⟨_, rfl⟩
  obtain ⟨x5, hx5⟩ : ∃ x, x = x4.setRow n4 cs := ⟨_, rfl⟩
  have hone : cs.all (·.oneCell') = true := by rw [hcs]; simp [Value.oneCell']
  have hcl : (Try.prog.info? 36).map (·.size) = some cs.size := by rw [hcs]; exact size19
  have hcz : (#[.int .i64 0, .int .i64 0, .int .i64 0, .int .i64 0, .int .i64 0, .int .i64 0, .int .i64 0, .slice none 0 0, .int .i64 0, .slice none 0 0, .slice none 0 0, .int .i64 0, .int .i64 0, .slice none 0 0, .int .i64 0, .int .u64 0, .int .u64 0, .int .i64 0, .slice none 0 0] : Array Value).size = cs.size := by rw [hcs]; rfl
  have H5 : Hid (Sys x5 m (blk n4 (.cells #[.int .i64 6, .int .i64 ifr, .int .i64 ito, .int .i64 0, .int .i64 0, .int .i64 0, .int .i64 0, .slice none 0 0, .int .i64 0, .slice none 0 0, .slice none 0 0, .int .i64 0, .int .i64 0, .slice none 0 0, .int .i64 0, .int .u64 0, .int .u64 0, .int .i64 0, .slice none 0 0] 36 (0, 0)) :: blk n2 (.cells #[.int .i64 0, .int .i64 0, .int .i64 0, .int .i64 0, .int .i64 0, .int .i64 0, .int .i64 0, .slice none 0 0, .int .i64 0, .slice none 0 0, .slice none 0 0, .int .i64 0, .int .i64 0, .slice none 0 0, .int .i64 0, .int .u64 0, .int .u64 0, .int .i64 0, .slice none 0 0] 36 (0, 0)) :: blk n1 (.cells #[.int .i64 6, .int .i64 ifr, .int .i64 ito, .int .i64 iv, .int .i64 im, .int .i64 qv, .int .i64 qb, .slice qa nq qc, .int .i64 tv, vt, vh, .int .i64 hv, .int .i64 hb, vg, .int .i64 ec, .int .u64 en, .int .u64 ef, .int .i64 ei, vb] 36 (0, 0)) :: l)) := by
    rw [hx5, hcs]
    exact H4.out.store ((Chg.refl (· = n4) x4).row #[.int .i64 6, .int .i64 ifr, .int .i64 ito, .int .i64 0, .int .i64 0, .int .i64 0, .int .i64 0, .slice none 0 0, .int .i64 0, .slice none 0 0, .slice none 0 0, .int .i64 0, .int .i64 0, .slice none 0 0, .int .i64 0, .int .u64 0, .int .u64 0, .int .i64 0, .slice none 0 0]) (setRow_heap _ _ _ _ _ _ hb4)
  have hb1 : x2.heap[n1]? = some (.cells #[.int .i64 6, .int .i64 ifr, .int .i64 ito, .int .i64 iv, .int .i64 im, .int .i64 qv, .int .i64 qb, .slice qa nq qc, .int .i64 tv, vt, vh, .int .i64 hv, .int .i64 hb, vg, .int .i64 ec, .int .u64 en, .int .u64 ef, .int .i64 ei, vb] 36 (0, 0)) := H2.out.nth 1 rfl
  have q0 : x2.cell? ⟨n1, 0, none⟩ = some (.int .i64 6) := (cell_of_blk hb1 0).trans rfl
  have q1 : x2.cell? ⟨n1, 1, none⟩ = some (.int .i64 ifr) := (cell_of_blk hb1 1).trans rfl
  have q2 : x2.cell? ⟨n1, 2, none⟩ = some (.int .i64 ito) := (cell_of_blk hb1 2).trans rfl
  have hbt : Try.prog.built 36 [(0, .int .i64 6), (1, .int .i64 ifr), (2, .int .i64 ito)] = some cs := by rw [hcs]; rfl
  have HBT := Lib.hid hbt
  have HX5 := Lib.hid hx5
  have HCS := Lib.hid hcs
  have HB4 := Lib.hid hb4
  clear h hx5 hb4 hb1 hcs hbt
  go_enter Try.func78, Try.ntmps78
  go_upto_region 1 with fail
  rw [EX1.out, EX2.out, EN2.out, EN1.out]
  go_upto_region 2 with (first | (refine wpList_buildTo rfl 36 _ rfl (some 11) rfl cs ?_ ?_; (focus (simp only [List.map_toArray, List.map_cons, List.map_nil]; exact HBT.out))) | (rw [EX4.out, EN4.out]; refine wpList_store_row rfl 36 _ _ rfl n4 cs rfl rfl _ _ HB4.out hcl hcz hone ?_; rw [← HX5.out]))
  have hbi : x5.heap[n1]? = some (.cells #[.int .i64 6, .int .i64 ifr, .int .i64 ito, .int .i64 iv, .int .i64 im, .int .i64 qv, .int .i64 qb, .slice qa nq qc, .int .i64 tv, vt, vh, .int .i64 hv, .int .i64 hb, vg, .int .i64 ec, .int .u64 en, .int .u64 ef, .int .i64 ei, vb] 36 (0, 0)) := H5.out.nth 2 rfl
  have q0 : x5.cell? ⟨n1, 0, none⟩ = some (.int .i64 6) := (cell_of_blk hbi 0).trans rfl
  go_upto_region 13 with fail
  have f3 := frozen_of_blk (H5.out.drew.nth 0 rfl) 3
  have e3 : x5.drew.cell? ⟨n4, 3, none⟩ = some (.int .i64 0) := (cell_of_blk (H5.out.drew.nth 0 rfl) 3).trans rfl
  refine wp_region_seq (fun x : World => x.heap[n1]? = some (.cells #[.int .i64 6, .int .i64 ifr, .int .i64 ito, .int .i64 iv, .int .i64 im, .int .i64 qv, .int .i64 qb, .slice qa nq qc, .int .i64 tv, vt, vh, .int .i64 hv, .int .i64 hb, vg, .int .i64 ec, .int .u64 en, .int .u64 ef, .int .i64 ei, vb] 36 (0, 0))) anyW [7] [(0, 0, some 41), (1, 1, some 42), (2, 0, some 43), (3, 1, some 44), (4, 0, some 45), (5, 2, none), (6, 0, some 46), (7, 3, none)] (by kernel_rfl) (by kernel_rfl) (fun _ _ _ d _ h => by cases d <;> exact h) (H5.out.drew.nth 2 rfl) anyW.i ?_
  repeat (first | (refine seqW (v := ?_) rfl rfl (by kernel_rfl) ?_ ?_; rotate_left; (focus ((intro x; go_simp); try (with_reducible rfl))); try simp only [Act.put, List.setIfInBounds_toArray, List.set_cons_zero, List.set_cons_succ]) | (refine seqS (v := ?_) rfl rfl (by kernel_rfl) ?_ ?_; rotate_left; (focus (intro x hS; first | (refine (exec_at 28 _ (by rfl) n1 5 (by rfl) [.int .i64 qv, .int .i64 qb, .slice qa nq qc] _ (cells_at hS 5 _ rfl) Try.underlying28 rfl size3).trans ?_; with_reducible rfl) | (have q3 : x.cell? ⟨n1, 3, none⟩ = some (.int .i64 iv) := (cell_of_blk hS 3).trans rfl; go_simp; try (with_reducible rfl)))); try simp only [Act.put, List.setIfInBounds_toArray, List.set_cons_zero, List.set_cons_succ]) | (refine seqX rfl rfl (by kernel_rfl) ?_; try simp only [Act.put, List.setIfInBounds_toArray, List.set_cons_zero, List.set_cons_succ]))
  refine seqL rfl rfl (fun K hK => ?_)
  go_simp
  have H6 : Hid (Sys (x5.setCell ⟨n4, 3, none⟩ (.int .i64 iv)).drew m (blk n4 (.cells #[.int .i64 6, .int .i64 ifr, .int .i64 ito, .int .i64 iv, .int .i64 0, .int .i64 0, .int .i64 0, .slice none 0 0, .int .i64 0, .slice none 0 0, .slice none 0 0, .int .i64 0, .int .i64 0, .slice none 0 0, .int .i64 0, .int .u64 0, .int .u64 0, .int .i64 0, .slice none 0 0] 36 (0, 0)) :: blk n2 (.cells #[.int .i64 0, .int .i64 0, .int .i64 0, .int .i64 0, .int .i64 0, .int .i64 0, .int .i64 0, .slice none 0 0, .int .i64 0, .slice none 0 0, .slice none 0 0, .int .i64 0, .int .i64 0, .slice none 0 0, .int .i64 0, .int .u64 0, .int .u64 0, .int .i64 0, .slice none 0 0] 36 (0, 0)) :: blk n1 (.cells #[.int .i64 6, .int .i64 ifr, .int .i64 ito, .int .i64 iv, .int .i64 im, .int .i64 qv, .int .i64 qb, .slice qa nq qc, .int .i64 tv, vt, vh, .int .i64 hv, .int .i64 hb, vg, .int .i64 ec, .int .u64 en, .int .u64 ef, .int .i64 ei, vb] 36 (0, 0)) :: l)) := (H5.out.setCell (i := 3) (.int .i64 iv)).drew
  generalize (x5.setCell ⟨n4, 3, none⟩ (.int .i64 iv)).drew = z6 at *
  refine hK.out _ _ anyW.i ?_ (fun _ hSt => ?_)
  · exact H6.out.nth 2 rfl
  clear hSt hK K
  try simp only [Act.put, List.setIfInBounds_toArray, List.set_cons_zero, List.set_cons_succ]
  repeat (first | (refine seqW (v := ?_) rfl rfl (by kernel_rfl) ?_ ?_; rotate_left; (focus ((intro x; go_simp); try (with_reducible rfl))); try simp only [Act.put, List.setIfInBounds_toArray, List.set_cons_zero, List.set_cons_succ]) | (refine seqS (v := ?_) rfl rfl (by kernel_rfl) ?_ ?_; rotate_left; (focus (intro x hS; first | (refine (exec_at 28 _ (by rfl) n1 5 (by rfl) [.int .i64 qv, .int .i64 qb, .slice qa nq qc] _ (cells_at hS 5 _ rfl) Try.underlying28 rfl size3).trans ?_; with_reducible rfl) | (have q3 : x.cell? ⟨n1, 3, none⟩ = some (.int .i64 iv) := (cell_of_blk hS 3).trans rfl; go_simp; try (with_reducible rfl)))); try simp only [Act.put, List.setIfInBounds_toArray, List.set_cons_zero, List.set_cons_succ]) | (refine seqX rfl rfl (by kernel_rfl) ?_; try simp only [Act.put, List.setIfInBounds_toArray, List.set_cons_zero, List.set_cons_succ]))
  refine seqT rfl rfl (fun K hK => ?_)
  have hz4 : z6.heap[n4]? = some (.cells #[.int .i64 6, .int .i64 ifr, .int .i64 ito, .int .i64 iv, .int .i64 0, .int .i64 0, .int .i64 0, .slice none 0 0, .int .i64 0, .slice none 0 0, .slice none 0 0, .int .i64 0, .int .i64 0, .slice none 0 0, .int .i64 0, .int .u64 0, .int .u64 0, .int .i64 0, .slice none 0 0] 36 (0, 0)) := H6.out.nth 0 rfl
  refine wp_store_at 28 _ _ rfl n4 5 rfl [.int .i64 qv, .int .i64 qb, .slice qa nq qc] rfl size3 (fun j hj => by rw [cell_of_blk hz4]; have : j < 3 := hj; rcases j with _ | _ | _ | j <;> first | rfl | omega) (fun j _ => frozen_of_blk hz4 _) (by intro v hv; simp at hv; rcases hv with rfl | rfl | rfl <;> rfl) ?_
  have H7 : Hid (Sys (z6.setCells n4 5 [.int .i64 qv, .int .i64 qb, .slice qa nq qc]) m (blk n4 (.cells #[.int .i64 6, .int .i64 ifr, .int .i64 ito, .int .i64 iv, .int .i64 0, .int .i64 qv, .int .i64 qb, .slice qa nq qc, .int .i64 0, .slice none 0 0, .slice none 0 0, .int .i64 0, .int .i64 0, .slice none 0 0, .int .i64 0, .int .u64 0, .int .u64 0, .int .i64 0, .slice none 0 0] 36 (0, 0)) :: blk n2 (.cells #[.int .i64 0, .int .i64 0, .int .i64 0, .int .i64 0, .int .i64 0, .int .i64 0, .int .i64 0, .slice none 0 0, .int .i64 0, .slice none 0 0, .slice none 0 0, .int .i64 0, .int .i64 0, .slice none 0 0, .int .i64 0, .int .u64 0, .int .u64 0, .int .i64 0, .slice none 0 0] 36 (0, 0)) :: blk n1 (.cells #[.int .i64 6, .int .i64 ifr, .int .i64 ito, .int .i64 iv, .int .i64 im, .int .i64 qv, .int .i64 qb, .slice qa nq qc, .int .i64 tv, vt, vh, .int .i64 hv, .int .i64 hb, vg, .int .i64 ec, .int .u64 en, .int .u64 ef, .int .i64 ei, vb] 36 (0, 0)) :: l)) := ((H6.out.setCell (i := 5) (.int .i64 qv)).setCell (i := 6) (.int .i64 qb)).setCell (i := 7) (.slice qa nq qc)
  generalize z6.setCells n4 5 [.int .i64 qv, .int .i64 qb, .slice qa nq qc] = x6 at *
  refine hK.out _ _ anyW.i (fun _ => ?_)
  clear hK K
  try simp only [Act.put, List.setIfInBounds_toArray, List.set_cons_zero, List.set_cons_succ]
  refine seqE ?_
  go_upto_region 25 with fail
  have hc4 : x6.heap[n4]? = some (.cells #[.int .i64 6, .int .i64 ifr, .int .i64 ito, .int .i64 iv, .int .i64 0, .int .i64 qv, .int .i64 qb, .slice qa nq qc, .int .i64 0, .slice none 0 0, .slice none 0 0, .int .i64 0, .int .i64 0, .slice none 0 0, .int .i64 0, .int .u64 0, .int .u64 0, .int .i64 0, .slice none 0 0] 36 (0, 0)) := H7.out.nth 0 rfl
  have hc2 : x6.heap[n2]? = some (.cells #[.int .i64 0, .int .i64 0, .int .i64 0, .int .i64 0, .int .i64 0, .int .i64 0, .int .i64 0, .slice none 0 0, .int .i64 0, .slice none 0 0, .slice none 0 0, .int .i64 0, .int .i64 0, .slice none 0 0, .int .i64 0, .int .u64 0, .int .u64 0, .int .i64 0, .slice none 0 0] 36 (0, 0)) := H7.out.nth 1 rfl
  obtain ⟨co, hco⟩ : ∃ co : Array Value, co = #[.int .i64 6, .int .i64 ifr, .int .i64 ito, .int .i64 iv, .int .i64 0, .int .i64 qv, .int .i64 qb, .slice qa nq qc, .int .i64 0, .slice none 0 0, .slice none 0 0, .int .i64 0, .int .i64 0, .slice none 0 0, .int .i64 0, .int .u64 0, .int .u64 0, .int .i64 0, .slice none 0 0] := ⟨_, rfl⟩
  have hone2 : co.all (·.oneCell') = true := by rw [hco]; simp [Value.oneCell']
  have hcl2 : (Try.prog.info? 36).map (·.size) = some co.size := by rw [hco]; exact size19
  have hcz2 : (#[.int .i64 0, .int .i64 0, .int .i64 0, .int .i64 0, .int .i64 0, .int .i64 0, .int .i64 0, .slice none 0 0, .int .i64 0, .slice none 0 0, .slice none 0 0, .int .i64 0, .int .i64 0, .slice none 0 0, .int .i64 0, .int .u64 0, .int .u64 0, .int .i64 0, .slice none 0 0] : Array Value).size = co.size := by rw [hco]; rfl
  obtain ⟨y9, hy9⟩ : ∃ y, y = x6.setRow n2 co := ⟨_, rfl⟩
  have hr9 : y9.heap[n2]? = some (.cells co 36 (0, 0)) := by rw [hy9]; exact setRow_heap _ n2 _ co _ _ hc2
  have H9 : Hid (Sys y9 m l) := by rw [hy9]; exact (H7.out.tail.store ((Chg.refl (· = n2) x6).row co) (setRow_heap _ n2 _ co _ _ hc2)).tail.tail
  rw [← hco] at hc4
  have HCO := Lib.hid hco
  have HY9 := Lib.hid hy9
  clear hco hy9
  go_wp2_with (first | (refine wpList_load_row rfl 36 _ rfl n4 rfl _ _ _ _ hc4 Try.underlying36 rfl hcl2 ?_) | (refine wpList_store_row rfl 36 _ _ rfl n2 co rfl rfl _ _ hc2 hcl2 hcz2 hone2 ?_; rw [← HY9.out]))
  refine bodyPost_ret (results_cell_tmp rfl _ _ n2 _ _ _ _ rfl hr9 Try.underlying36 rfl hcl2) rfl ?_
  refine ⟨?_, H9.out⟩
  rw [HCO.out]
  try rfl
set_option maxRecDepth 100000 in
set_option maxHeartbeats 4000000 in
theorem mess_own_block (ifr ito iv im qv qb tv hv hb ec en ef ei : Int) (ba : Option Addr) (bc : Nat) (vq vt vh vg : Value)  (h : Sys w m l) :
    Calls Try.prog 78 #[.agg #[.int .i64 2, .int .i64 ifr, .int .i64 ito, .int .i64 iv, .int .i64 im, .int .i64 qv, .int .i64 qb, vq, .int .i64 tv, vt, vh, .int .i64 hv, .int .i64 hb, vg, .int .i64 ec, .int .u64 en, .int .u64 ef, .int .i64 ei, .slice ba 1 bc]] w fun z w' => z = .returned (.tuple #[.agg #[.int .i64 2, .int .i64 ifr, .int .i64 ito, .int .i64 0, .int .i64 0, .int .i64 0, .int .i64 0, .slice none 0 0, .int .i64 0, .slice none 0 0, .slice none 0 0, .int .i64 0, .int .i64 0, .slice none 0 0, .int .i64 0, .int .u64 0, .int .u64 0, .int .i64 0, .slice ba 1 bc], .bool true]) ∧ Sys w' m l := by
  obtain ⟨n1, x1, EN1, EX1, ES1, H1⟩ := h.box (.cells #[.int .i64 2, .int .i64 ifr, .int .i64 ito, .int .i64 iv, .int .i64 im, .int .i64 qv, .int .i64 qb, vq, .int .i64 tv, vt, vh, .int .i64 hv, .int .i64 hb, vg, .int .i64 ec, .int .u64 en, .int .u64 ef, .int .i64 ei, .slice ba 1 bc] 36 (0, 0))
  obtain ⟨n2, x2, EN2, EX2, ES2, H2⟩ := Sys.box' H1 ES1 (.cells #[.int .i64 0, .int .i64 0, .int .i64 0, .int .i64 0, .int .i64 0, .int .i64 0, .int .i64 0, .slice none 0 0, .int .i64 0, .slice none 0 0, .slice none 0 0, .int .i64 0, .int .i64 0, .slice none 0 0, .int .i64 0, .int .u64 0, .int .u64 0, .int .i64 0, .slice none 0 0] 36 (0, 0))
  obtain ⟨n4, x4, EN4, EX4, ES4, H4⟩ := H2.out.box (.cells #[.int .i64 0, .int .i64 0, .int .i64 0, .int .i64 0, .int .i64 0, .int .i64 0, .int .i64 0, .slice none 0 0, .int .i64 0, .slice none 0 0, .slice none 0 0, .int .i64 0, .int .i64 0, .slice none 0 0, .int .i64 0, .int .u64 0, .int .u64 0, .int .i64 0, .slice none 0 0] 36 (0, 0))
  have hb4 : x4.heap[n4]? = some (.cells #[.int .i64 0, .int .i64 0, .int .i64 0, .int .i64 0, .int .i64 0, .int .i64 0, .int .i64 0, .slice none 0 0, .int .i64 0, .slice none 0 0, .slice none 0 0, .int .i64 0, .int .i64 0, .slice none 0 0, .int .i64 0, .int .u64 0, .int .u64 0, .int .i64 0, .slice none 0 0] 36 (0, 0)) := H4.out.nth 0 rfl
  obtain ⟨cs, hcs⟩ : ∃ cs : Array Value, cs = #[.int .i64 2, .int .i64 ifr, .int .i64 ito, .int .i64 0, .int .i64 0, .int .i64 0, .int .i64 0, .slice none 0 0, .int .i64 0, .slice none 0 0, .slice none 0 0, .int .i64 0, .int .i64 0, .slice none 0 0, .int .i64 0, .int .u64 0, .int .u64 0, .int .i64 0, .slice none 0 0] := ⟨_, rfl⟩
  obtain ⟨x5, hx5⟩ : ∃ x, x = x4.setRow n4 cs := ⟨_, rfl⟩
  have hone : cs.all (·.oneCell') = true := by rw [hcs]; simp [Value.oneCell']
  have hcl : (Try.prog.info? 36).map (·.size) = some cs.size := by rw [hcs]; exact size19
  have hcz : (#[.int .i64 0, .int .i64 0, .int .i64 0, .int .i64 0, .int .i64 0, .int .i64 0, .int .i64 0, .slice none 0 0, .int .i64 0, .slice none 0 0, .slice none 0 0, .int .i64 0, .int .i64 0, .slice none 0 0, .int .i64 0, .int .u64 0, .int .u64 0, .int .i64 0, .slice none 0 0] : Array Value).size = cs.size := by rw [hcs]; rfl
  have H5 : Hid (Sys x5 m (blk n4 (.cells #[.int .i64 2, .int .i64 ifr, .int .i64 ito, .int .i64 0, .int .i64 0, .int .i64 0, .int .i64 0, .slice none 0 0, .int .i64 0, .slice none 0 0, .slice none 0 0, .int .i64 0, .int .i64 0, .slice none 0 0, .int .i64 0, .int .u64 0, .int .u64 0, .int .i64 0, .slice none 0 0] 36 (0, 0)) :: blk n2 (.cells #[.int .i64 0, .int .i64 0, .int .i64 0, .int .i64 0, .int .i64 0, .int .i64 0, .int .i64 0, .slice none 0 0, .int .i64 0, .slice none 0 0, .slice none 0 0, .int .i64 0, .int .i64 0, .slice none 0 0, .int .i64 0, .int .u64 0, .int .u64 0, .int .i64 0, .slice none 0 0] 36 (0, 0)) :: blk n1 (.cells #[.int .i64 2, .int .i64 ifr, .int .i64 ito, .int .i64 iv, .int .i64 im, .int .i64 qv, .int .i64 qb, vq, .int .i64 tv, vt, vh, .int .i64 hv, .int .i64 hb, vg, .int .i64 ec, .int .u64 en, .int .u64 ef, .int .i64 ei, .slice ba 1 bc] 36 (0, 0)) :: l)) := by
    rw [hx5, hcs]
    exact H4.out.store ((Chg.refl (· = n4) x4).row #[.int .i64 2, .int .i64 ifr, .int .i64 ito, .int .i64 0, .int .i64 0, .int .i64 0, .int .i64 0, .slice none 0 0, .int .i64 0, .slice none 0 0, .slice none 0 0, .int .i64 0, .int .i64 0, .slice none 0 0, .int .i64 0, .int .u64 0, .int .u64 0, .int .i64 0, .slice none 0 0]) (setRow_heap _ _ _ _ _ _ hb4)
  have hb1 : x2.heap[n1]? = some (.cells #[.int .i64 2, .int .i64 ifr, .int .i64 ito, .int .i64 iv, .int .i64 im, .int .i64 qv, .int .i64 qb, vq, .int .i64 tv, vt, vh, .int .i64 hv, .int .i64 hb, vg, .int .i64 ec, .int .u64 en, .int .u64 ef, .int .i64 ei, .slice ba 1 bc] 36 (0, 0)) := H2.out.nth 1 rfl
  have q0 : x2.cell? ⟨n1, 0, none⟩ = some (.int .i64 2) := (cell_of_blk hb1 0).trans rfl
  have q1 : x2.cell? ⟨n1, 1, none⟩ = some (.int .i64 ifr) := (cell_of_blk hb1 1).trans rfl
  have q2 : x2.cell? ⟨n1, 2, none⟩ = some (.int .i64 ito) := (cell_of_blk hb1 2).trans rfl
  have hbt : Try.prog.built 36 [(0, .int .i64 2), (1, .int .i64 ifr), (2, .int .i64 ito)] = some cs := by rw [hcs]; rfl
  have HBT := Lib.hid hbt
  have HX5 := Lib.hid hx5
  have HCS := Lib.hid hcs
  have HB4 := Lib.hid hb4
  clear h hx5 hb4 hb1 hcs hbt
  go_enter Try.func78, Try.ntmps78
  go_upto_region 1 with fail
  rw [EX1.out, EX2.out, EN2.out, EN1.out]
  go_upto_region 2 with (first | (refine wpList_buildTo rfl 36 _ rfl (some 11) rfl cs ?_ ?_; (focus (simp only [List.map_toArray, List.map_cons, List.map_nil]; exact HBT.out))) | (rw [EX4.out, EN4.out]; refine wpList_store_row rfl 36 _ _ rfl n4 cs rfl rfl _ _ HB4.out hcl hcz hone ?_; rw [← HX5.out]))
  have hbi : x5.heap[n1]? = some (.cells #[.int .i64 2, .int .i64 ifr, .int .i64 ito, .int .i64 iv, .int .i64 im, .int .i64 qv, .int .i64 qb, vq, .int .i64 tv, vt, vh, .int .i64 hv, .int .i64 hb, vg, .int .i64 ec, .int .u64 en, .int .u64 ef, .int .i64 ei, .slice ba 1 bc] 36 (0, 0)) := H5.out.nth 2 rfl
  have q0 : x5.cell? ⟨n1, 0, none⟩ = some (.int .i64 2) := (cell_of_blk hbi 0).trans rfl
  have q18 : x5.cell? ⟨n1, 18, none⟩ = some (.slice ba 1 bc) := (cell_of_blk hbi 18).trans rfl
  have f18 := frozen_of_blk (H5.out.nth 0 rfl) 18
  have e18 : x5.cell? ⟨n4, 18, none⟩ = some (.slice none 0 0) := (cell_of_blk (H5.out.nth 0 rfl) 18).trans rfl
  go_upto_region 8 with fail
  have H7 : Hid (Sys (x5.setCell ⟨n4, 18, none⟩ (.slice ba 1 bc)) m (blk n4 (.cells #[.int .i64 2, .int .i64 ifr, .int .i64 ito, .int .i64 0, .int .i64 0, .int .i64 0, .int .i64 0, .slice none 0 0, .int .i64 0, .slice none 0 0, .slice none 0 0, .int .i64 0, .int .i64 0, .slice none 0 0, .int .i64 0, .int .u64 0, .int .u64 0, .int .i64 0, .slice ba 1 bc] 36 (0, 0)) :: blk n2 (.cells #[.int .i64 0, .int .i64 0, .int .i64 0, .int .i64 0, .int .i64 0, .int .i64 0, .int .i64 0, .slice none 0 0, .int .i64 0, .slice none 0 0, .slice none 0 0, .int .i64 0, .int .i64 0, .slice none 0 0, .int .i64 0, .int .u64 0, .int .u64 0, .int .i64 0, .slice none 0 0] 36 (0, 0)) :: blk n1 (.cells #[.int .i64 2, .int .i64 ifr, .int .i64 ito, .int .i64 iv, .int .i64 im, .int .i64 qv, .int .i64 qb, vq, .int .i64 tv, vt, vh, .int .i64 hv, .int .i64 hb, vg, .int .i64 ec, .int .u64 en, .int .u64 ef, .int .i64 ei, .slice ba 1 bc] 36 (0, 0)) :: l)) := H5.out.setCell (i := 18) (.slice ba 1 bc)
  generalize x5.setCell ⟨n4, 18, none⟩ (.slice ba 1 bc) = x6 at *
  have hc4 : x6.drew.heap[n4]? = some (.cells #[.int .i64 2, .int .i64 ifr, .int .i64 ito, .int .i64 0, .int .i64 0, .int .i64 0, .int .i64 0, .slice none 0 0, .int .i64 0, .slice none 0 0, .slice none 0 0, .int .i64 0, .int .i64 0, .slice none 0 0, .int .i64 0, .int .u64 0, .int .u64 0, .int .i64 0, .slice ba 1 bc] 36 (0, 0)) := H7.out.drew.nth 0 rfl
  have hc2 : x6.drew.heap[n2]? = some (.cells #[.int .i64 0, .int .i64 0, .int .i64 0, .int .i64 0, .int .i64 0, .int .i64 0, .int .i64 0, .slice none 0 0, .int .i64 0, .slice none 0 0, .slice none 0 0, .int .i64 0, .int .i64 0, .slice none 0 0, .int .i64 0, .int .u64 0, .int .u64 0, .int .i64 0, .slice none 0 0] 36 (0, 0)) := H7.out.drew.nth 1 rfl
  obtain ⟨co, hco⟩ : ∃ co : Array Value, co = #[.int .i64 2, .int .i64 ifr, .int .i64 ito, .int .i64 0, .int .i64 0, .int .i64 0, .int .i64 0, .slice none 0 0, .int .i64 0, .slice none 0 0, .slice none 0 0, .int .i64 0, .int .i64 0, .slice none 0 0, .int .i64 0, .int .u64 0, .int .u64 0, .int .i64 0, .slice ba 1 bc] := ⟨_, rfl⟩
  have hone2 : co.all (·.oneCell') = true := by rw [hco]; simp [Value.oneCell']
  have hcl2 : (Try.prog.info? 36).map (·.size) = some co.size := by rw [hco]; exact size19
  have hcz2 : (#[.int .i64 0, .int .i64 0, .int .i64 0, .int .i64 0, .int .i64 0, .int .i64 0, .int .i64 0, .slice none 0 0, .int .i64 0, .slice none 0 0, .slice none 0 0, .int .i64 0, .int .i64 0, .slice none 0 0, .int .i64 0, .int .u64 0, .int .u64 0, .int .i64 0, .slice none 0 0] : Array Value).size = co.size := by rw [hco]; rfl
  obtain ⟨y9, hy9⟩ : ∃ y, y = x6.drew.setRow n2 co := ⟨_, rfl⟩
  have hr9 : y9.heap[n2]? = some (.cells co 36 (0, 0)) := by rw [hy9]; exact setRow_heap _ n2 _ co _ _ hc2
  have H9a : Hid (Sys y9 m (blk n2 (.cells co 36 (0, 0)) :: blk n4 (.cells #[.int .i64 2, .int .i64 ifr, .int .i64 ito, .int .i64 0, .int .i64 0, .int .i64 0, .int .i64 0, .slice none 0 0, .int .i64 0, .slice none 0 0, .slice none 0 0, .int .i64 0, .int .i64 0, .slice none 0 0, .int .i64 0, .int .u64 0, .int .u64 0, .int .i64 0, .slice ba 1 bc] 36 (0, 0)) :: blk n1 (.cells #[.int .i64 2, .int .i64 ifr, .int .i64 ito, .int .i64 iv, .int .i64 im, .int .i64 qv, .int .i64 qb, vq, .int .i64 tv, vt, vh, .int .i64 hv, .int .i64 hb, vg, .int .i64 ec, .int .u64 en, .int .u64 ef, .int .i64 ei, .slice ba 1 bc] 36 (0, 0)) :: l)) := by rw [hy9]; exact (H7.out.drew.swap.store ((Chg.refl (· = n2) x6.drew).row co) (setRow_heap _ n2 _ co _ _ hc2))
  have H9 : Hid (Sys y9 m l) := by rw [hy9]; exact (H7.out.drew.tail.store ((Chg.refl (· = n2) x6.drew).row co) (setRow_heap _ n2 _ co _ _ hc2)).tail.tail
  rw [← hco] at hc4
  have HCO := Lib.hid hco
  have HY9 := Lib.hid hy9
  clear hco hy9
  refine wp_region_seq (fun x : World => x.heap[n4]? = some (.cells co 36 (0, 0)) ∧ x.cell? ⟨n1, 18, none⟩ = some (.slice ba 1 bc)) (fun x : World => x.cell? ⟨n1, 18, none⟩ = some (.slice ba 1 bc)) [5] [(0, 1, some 25), (1, 0, some 26), (2, 5, some 27), (3, 0, some 28), (4, 0, some 29), (5, 3, none), (6, 0, some 3)] (by kernel_rfl) (by kernel_rfl) (fun _ _ _ d _ h => by cases d <;> exact h) ⟨hc4, (cell_of_blk (H7.out.drew.nth 2 rfl) 18).trans rfl⟩ ((cell_of_blk (H7.out.drew.nth 2 rfl) 18).trans rfl) ?_
  repeat (first | (refine seqW (v := ?_) rfl rfl (by kernel_rfl) ?_ ?_; rotate_left; (focus ((intro x; go_simp); try (with_reducible rfl))); try simp only [Act.put, List.setIfInBounds_toArray, List.set_cons_zero, List.set_cons_succ]) | (refine seqS (v := ?_) rfl rfl (by kernel_rfl) ?_ ?_; rotate_left; (focus (intro x hS; first | (refine (exec_rowA 36 _ (by rfl) n4 (by rfl) co _ _ _ hS.1 Try.underlying36 rfl hcl2).trans ?_; with_reducible rfl) | (have s1 := hS.2; go_simp; try (with_reducible rfl)))); try simp only [Act.put, List.setIfInBounds_toArray, List.set_cons_zero, List.set_cons_succ]) | (refine seqP (v := ?_) rfl rfl (by kernel_rfl) ?_ ?_; rotate_left; (focus (intro x hS; first | (skip; go_simp; try (with_reducible rfl)))); try simp only [Act.put, List.setIfInBounds_toArray, List.set_cons_zero, List.set_cons_succ]) | (refine seqX rfl rfl (by kernel_rfl) ?_; try simp only [Act.put, List.setIfInBounds_toArray, List.set_cons_zero, List.set_cons_succ]))
  refine seqT rfl rfl (fun K hK => ?_)
  refine wp_store_row' 36 _ _ rfl n2 co rfl rfl _ _ hc2 hcl2 hcz2 hone2 ?_
  rw [← HY9.out]
  refine hK.out _ _ ?_ (fun _ => ?_)
  · exact (cell_of_blk (H9a.out.nth 2 rfl) 18).trans rfl
  clear hK K
  try simp only [Act.put, List.setIfInBounds_toArray, List.set_cons_zero, List.set_cons_succ]
  repeat (first | (refine seqW (v := ?_) rfl rfl (by kernel_rfl) ?_ ?_; rotate_left; (focus ((intro x; go_simp); try (with_reducible rfl))); try simp only [Act.put, List.setIfInBounds_toArray, List.set_cons_zero, List.set_cons_succ]) | (refine seqS (v := ?_) rfl rfl (by kernel_rfl) ?_ ?_; rotate_left; (focus (intro x hS; first | (refine (exec_rowA 36 _ (by rfl) n4 (by rfl) co _ _ _ hS.1 Try.underlying36 rfl hcl2).trans ?_; with_reducible rfl) | (have s1 := hS.2; go_simp; try (with_reducible rfl)))); try simp only [Act.put, List.setIfInBounds_toArray, List.set_cons_zero, List.set_cons_succ]) | (refine seqP (v := ?_) rfl rfl (by kernel_rfl) ?_ ?_; rotate_left; (focus (intro x hS; first | (skip; go_simp; try (with_reducible rfl)))); try simp only [Act.put, List.setIfInBounds_toArray, List.set_cons_zero, List.set_cons_succ]) | (refine seqX rfl rfl (by kernel_rfl) ?_; try simp only [Act.put, List.setIfInBounds_toArray, List.set_cons_zero, List.set_cons_succ]))
  refine seqE ?_
  go_wp2_with fail
  refine bodyPost_ret (results_cell_tmp rfl _ _ n2 _ _ _ _ rfl hr9 Try.underlying36 rfl hcl2) rfl ?_
  refine ⟨?_, H9.out⟩
  rw [HCO.out]
  try rfl
end
end Go.Proofs.Ytcfhkpjheemkgaa
