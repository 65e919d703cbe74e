/-
  mess.own: the other kinds.
-/
import Derived.Test.YtcfhkpjheemkgaaMessOwn
namespace Go.Proofs.Ytcfhkpjheemkgaa
set_option linter.unusedSectionVars false
set_option linter.unnecessarySimpa false
set_option linter.unusedSimpArgs false
set_option linter.unusedVariables false
open Go.RowKit Go.MapKept
section
variable {P : Program} {w : World} {ops : Array Oper} {rest : List Oper}
theorem wpList_store_atM {o : Oper} {a : Act} {Q : Exit → Act → World → Prop} (hgd : o.guard = none) (ty : TypeId) (x y : Operand) (ho : o.op = .store ty x y)
    (b off : Nat) (hx : a.eval x = .pointer (some ⟨b, off, none⟩)) (cs : List Value) (hy : a.eval y = .agg cs.toArray) (hi : (P.info? ty).map (·.size) = some cs.length)
    (hc : ∀ j, j < cs.length → (w.cell? ⟨b, off + j, none⟩).isSome = true) (hf : ∀ j, j < cs.length → w.frozen? ⟨b, off + j, none⟩ = false) (h1 : ∀ v ∈ cs, v.oneCell' = true)
    (h : wpList P ops Q rest (a.put o.dst undef) (w.setCells b off cs)) : wpList P ops Q (o :: rest) a w :=
  wpList_plain hgd fun K hK => wp_store_at ty x y ho b off hx cs hy hi hc hf h1 (hK _ _ h)
theorem size6T : (Try.prog.info? 30).map (·.size) = some 6 := by kernel_rfl
end
section
variable {w w' : World} {m : Nat → Thing} {l : List Thing}
set_option maxRecDepth 100000 in
set_option maxHeartbeats 4000000 in
theorem mess_own_env (ifr ito iv im qv qb tv hv hb ec en ef ei : Int) (vq vt vh vg vb : Value)  (h : Sys w m l) :
    Calls Try.prog 78 #[.agg #[.int .i64 1, .int .i64 ifr, .int .i64 ito, .int .i64 iv, .int .i64 im, .int .i64 qv, .int .i64 qb, vq, .int .i64 tv, vt, vh, .int .i64 hv, .int .i64 hb, vg, .int .i64 ec, .int .u64 en, .int .u64 ef, .int .i64 ei, vb]] w fun z w' => z = .returned (.tuple #[.agg #[.int .i64 1, .int .i64 ifr, .int .i64 ito, .int .i64 0, .int .i64 0, .int .i64 0, .int .i64 0, .slice none 0 0, .int .i64 0, .slice none 0 0, .slice none 0 0, .int .i64 0, .int .i64 0, .slice none 0 0, .int .i64 ec, .int .u64 en, .int .u64 ef, .int .i64 ei, .slice none 0 0], .bool true]) ∧ Sys w' m l := by
  obtain ⟨n1, x1, EN1, EX1, ES1, H1⟩ := h.box (.cells #[.int .i64 1, .int .i64 ifr, .int .i64 ito, .int .i64 iv, .int .i64 im, .int .i64 qv, .int .i64 qb, vq, .int .i64 tv, vt, vh, .int .i64 hv, .int .i64 hb, vg, .int .i64 ec, .int .u64 en, .int .u64 ef, .int .i64 ei, vb] 36 (0, 0))
  obtain ⟨n2, x2, EN2, EX2, ES2, H2⟩ := Sys.box' H1 ES1 (.cells #[.int .i64 0, .int .i64 0, .int .i64 0, .int .i64 0, .int .i64 0, .int .i64 0, .int .i64 0, .slice none 0 0, .int .i64 0, .slice none 0 0, .slice none 0 0, .int .i64 0, .int .i64 0, .slice none 0 0, .int .i64 0, .int .u64 0, .int .u64 0, .int .i64 0, .slice none 0 0] 36 (0, 0))
  obtain ⟨n4, x4, EN4, EX4, ES4, H4⟩ := H2.out.box (.cells #[.int .i64 0, .int .i64 0, .int .i64 0, .int .i64 0, .int .i64 0, .int .i64 0, .int .i64 0, .slice none 0 0, .int .i64 0, .slice none 0 0, .slice none 0 0, .int .i64 0, .int .i64 0, .slice none 0 0, .int .i64 0, .int .u64 0, .int .u64 0, .int .i64 0, .slice none 0 0] 36 (0, 0))
  have hb4 : x4.heap[n4]? = some (.cells #[.int .i64 0, .int .i64 0, .int .i64 0, .int .i64 0, .int .i64 0, .int .i64 0, .int .i64 0, .slice none 0 0, .int .i64 0, .slice none 0 0, .slice none 0 0, .int .i64 0, .int .i64 0, .slice none 0 0, .int .i64 0, .int .u64 0, .int .u64 0, .int .i64 0, .slice none 0 0] 36 (0, 0)) := H4.out.nth 0 rfl
  obtain ⟨cs, hcs⟩ : ∃ cs : Array Value, cs = #[.int .i64 1, .int .i64 ifr, .int .i64 ito, .int .i64 0, .int .i64 0, .int .i64 0, .int .i64 0, .slice none 0 0, .int .i64 0, .slice none 0 0, .slice none 0 0, .int .i64 0, .int .i64 0, .slice none 0 0, .int .i64 0, .int .u64 0, .int .u64 0, .int .i64 0, .slice none 0 0] := ⟨_, rfl⟩
  obtain ⟨x5, hx5⟩ : ∃ x, x = x4.setRow n4 cs := ⟨_, rfl⟩
  have hone : cs.all (·.oneCell') = true := by rw [hcs]; simp [Value.oneCell']
  have hcl : (Try.prog.info? 36).map (·.size) = some cs.size := by rw [hcs]; exact size19
  have hcz : (#[.int .i64 0, .int .i64 0, .int .i64 0, .int .i64 0, .int .i64 0, .int .i64 0, .int .i64 0, .slice none 0 0, .int .i64 0, .slice none 0 0, .slice none 0 0, .int .i64 0, .int .i64 0, .slice none 0 0, .int .i64 0, .int .u64 0, .int .u64 0, .int .i64 0, .slice none 0 0] : Array Value).size = cs.size := by rw [hcs]; rfl
  have H5 : Hid (Sys x5 m (blk n4 (.cells #[.int .i64 1, .int .i64 ifr, .int .i64 ito, .int .i64 0, .int .i64 0, .int .i64 0, .int .i64 0, .slice none 0 0, .int .i64 0, .slice none 0 0, .slice none 0 0, .int .i64 0, .int .i64 0, .slice none 0 0, .int .i64 0, .int .u64 0, .int .u64 0, .int .i64 0, .slice none 0 0] 36 (0, 0)) :: blk n2 (.cells #[.int .i64 0, .int .i64 0, .int .i64 0, .int .i64 0, .int .i64 0, .int .i64 0, .int .i64 0, .slice none 0 0, .int .i64 0, .slice none 0 0, .slice none 0 0, .int .i64 0, .int .i64 0, .slice none 0 0, .int .i64 0, .int .u64 0, .int .u64 0, .int .i64 0, .slice none 0 0] 36 (0, 0)) :: blk n1 (.cells #[.int .i64 1, .int .i64 ifr, .int .i64 ito, .int .i64 iv, .int .i64 im, .int .i64 qv, .int .i64 qb, vq, .int .i64 tv, vt, vh, .int .i64 hv, .int .i64 hb, vg, .int .i64 ec, .int .u64 en, .int .u64 ef, .int .i64 ei, vb] 36 (0, 0)) :: l)) := by
    rw [hx5, hcs]
    exact H4.out.store ((Chg.refl (· = n4) x4).row #[.int .i64 1, .int .i64 ifr, .int .i64 ito, .int .i64 0, .int .i64 0, .int .i64 0, .int .i64 0, .slice none 0 0, .int .i64 0, .slice none 0 0, .slice none 0 0, .int .i64 0, .int .i64 0, .slice none 0 0, .int .i64 0, .int .u64 0, .int .u64 0, .int .i64 0, .slice none 0 0]) (setRow_heap _ _ _ _ _ _ hb4)
  have hb1 : x2.heap[n1]? = some (.cells #[.int .i64 1, .int .i64 ifr, .int .i64 ito, .int .i64 iv, .int .i64 im, .int .i64 qv, .int .i64 qb, vq, .int .i64 tv, vt, vh, .int .i64 hv, .int .i64 hb, vg, .int .i64 ec, .int .u64 en, .int .u64 ef, .int .i64 ei, vb] 36 (0, 0)) := H2.out.nth 1 rfl
  have q0 : x2.cell? ⟨n1, 0, none⟩ = some (.int .i64 1) := (cell_of_blk hb1 0).trans rfl
  have q1 : x2.cell? ⟨n1, 1, none⟩ = some (.int .i64 ifr) := (cell_of_blk hb1 1).trans rfl
  have q2 : x2.cell? ⟨n1, 2, none⟩ = some (.int .i64 ito) := (cell_of_blk hb1 2).trans rfl
  have hbt : Try.prog.built 36 [(0, .int .i64 1), (1, .int .i64 ifr), (2, .int .i64 ito)] = some cs := by rw [hcs]; rfl
  have HBT := Lib.hid hbt
  have HX5 := Lib.hid hx5
  have HCS := Lib.hid hcs
  have HB4 := Lib.hid hb4
  clear h hx5 hb4 hb1 hcs hbt
  go_enter Try.func78, Try.ntmps78
  go_upto_region 1 with fail
  rw [EX1.out, EX2.out, EN2.out, EN1.out]
  go_upto_region 2 with (first | (refine wpList_buildTo rfl 36 _ rfl (some 11) rfl cs ?_ ?_; (focus (simp only [List.map_toArray, List.map_cons, List.map_nil]; exact HBT.out))) | (rw [EX4.out, EN4.out]; refine wpList_store_row rfl 36 _ _ rfl n4 cs rfl rfl _ _ HB4.out hcl hcz hone ?_; rw [← HX5.out]))
  have hbi : x5.heap[n1]? = some (.cells #[.int .i64 1, .int .i64 ifr, .int .i64 ito, .int .i64 iv, .int .i64 im, .int .i64 qv, .int .i64 qb, vq, .int .i64 tv, vt, vh, .int .i64 hv, .int .i64 hb, vg, .int .i64 ec, .int .u64 en, .int .u64 ef, .int .i64 ei, vb] 36 (0, 0)) := H5.out.nth 2 rfl
  have q0 : x5.cell? ⟨n1, 0, none⟩ = some (.int .i64 1) := (cell_of_blk hbi 0).trans rfl
  have HLD := Lib.hid (cells_at hbi 14 [.int .i64 ec, .int .u64 en, .int .u64 ef, .int .i64 ei] rfl)
  have hz4 : x5.heap[n4]? = some (.cells #[.int .i64 1, .int .i64 ifr, .int .i64 ito, .int .i64 0, .int .i64 0, .int .i64 0, .int .i64 0, .slice none 0 0, .int .i64 0, .slice none 0 0, .slice none 0 0, .int .i64 0, .int .i64 0, .slice none 0 0, .int .i64 0, .int .u64 0, .int .u64 0, .int .i64 0, .slice none 0 0] 36 (0, 0)) := H5.out.nth 0 rfl
  have HFC : Hid (∀ j, j < 4 → (x5.cell? ⟨n4, 14 + j, none⟩).isSome = true) := fun j hj => by rw [cell_of_blk hz4]; rcases j with _ | _ | _ | _ | j <;> first | rfl | omega
  have HFF : Hid (∀ j, j < 4 → x5.frozen? ⟨n4, 14 + j, none⟩ = false) := fun j _ => frozen_of_blk hz4 _
  have H7 : Hid (Sys (x5.setCells n4 14 [.int .i64 ec, .int .u64 en, .int .u64 ef, .int .i64 ei]) m (blk n4 (.cells #[.int .i64 1, .int .i64 ifr, .int .i64 ito, .int .i64 0, .int .i64 0, .int .i64 0, .int .i64 0, .slice none 0 0, .int .i64 0, .slice none 0 0, .slice none 0 0, .int .i64 0, .int .i64 0, .slice none 0 0, .int .i64 ec, .int .u64 en, .int .u64 ef, .int .i64 ei, .slice none 0 0] 36 (0, 0)) :: blk n2 (.cells #[.int .i64 0, .int .i64 0, .int .i64 0, .int .i64 0, .int .i64 0, .int .i64 0, .int .i64 0, .slice none 0 0, .int .i64 0, .slice none 0 0, .slice none 0 0, .int .i64 0, .int .i64 0, .slice none 0 0, .int .i64 0, .int .u64 0, .int .u64 0, .int .i64 0, .slice none 0 0] 36 (0, 0)) :: blk n1 (.cells #[.int .i64 1, .int .i64 ifr, .int .i64 ito, .int .i64 iv, .int .i64 im, .int .i64 qv, .int .i64 qb, vq, .int .i64 tv, vt, vh, .int .i64 hv, .int .i64 hb, vg, .int .i64 ec, .int .u64 en, .int .u64 ef, .int .i64 ei, vb] 36 (0, 0)) :: l)) := ((((H5.out.setCell (i := 14) (.int .i64 ec)).setCell (i := 15) (.int .u64 en)).setCell (i := 16) (.int .u64 ef)).setCell (i := 17) (.int .i64 ei))
  clear hz4
  go_upto_region 25 with (first | (refine wpList_load_at rfl 33 _ rfl n1 14 rfl [.int .i64 ec, .int .u64 en, .int .u64 ef, .int .i64 ei] _ HLD.out Try.underlying33 rfl size4 ?_) | (refine wpList_store_atM rfl 33 _ _ rfl n4 14 rfl [.int .i64 ec, .int .u64 en, .int .u64 ef, .int .i64 ei] rfl size4 HFC.out HFF.out (by intro v hv; simp at hv; rcases hv with rfl | rfl | rfl | rfl <;> rfl) ?_))
  generalize x5.setCells n4 14 [.int .i64 ec, .int .u64 en, .int .u64 ef, .int .i64 ei] = x6 at *
  have hc4 : x6.heap[n4]? = some (.cells #[.int .i64 1, .int .i64 ifr, .int .i64 ito, .int .i64 0, .int .i64 0, .int .i64 0, .int .i64 0, .slice none 0 0, .int .i64 0, .slice none 0 0, .slice none 0 0, .int .i64 0, .int .i64 0, .slice none 0 0, .int .i64 ec, .int .u64 en, .int .u64 ef, .int .i64 ei, .slice none 0 0] 36 (0, 0)) := H7.out.nth 0 rfl
  have hc2 : x6.heap[n2]? = some (.cells #[.int .i64 0, .int .i64 0, .int .i64 0, .int .i64 0, .int .i64 0, .int .i64 0, .int .i64 0, .slice none 0 0, .int .i64 0, .slice none 0 0, .slice none 0 0, .int .i64 0, .int .i64 0, .slice none 0 0, .int .i64 0, .int .u64 0, .int .u64 0, .int .i64 0, .slice none 0 0] 36 (0, 0)) := H7.out.nth 1 rfl
  obtain ⟨co, hco⟩ : ∃ co : Array Value, co = #[.int .i64 1, .int .i64 ifr, .int .i64 ito, .int .i64 0, .int .i64 0, .int .i64 0, .int .i64 0, .slice none 0 0, .int .i64 0, .slice none 0 0, .slice none 0 0, .int .i64 0, .int .i64 0, .slice none 0 0, .int .i64 ec, .int .u64 en, .int .u64 ef, .int .i64 ei, .slice none 0 0] := ⟨_, rfl⟩
  have hone2 : co.all (·.oneCell') = true := by rw [hco]; simp [Value.oneCell']
  have hcl2 : (Try.prog.info? 36).map (·.size) = some co.size := by rw [hco]; exact size19
  have hcz2 : (#[.int .i64 0, .int .i64 0, .int .i64 0, .int .i64 0, .int .i64 0, .int .i64 0, .int .i64 0, .slice none 0 0, .int .i64 0, .slice none 0 0, .slice none 0 0, .int .i64 0, .int .i64 0, .slice none 0 0, .int .i64 0, .int .u64 0, .int .u64 0, .int .i64 0, .slice none 0 0] : Array Value).size = co.size := by rw [hco]; rfl
  obtain ⟨y9, hy9⟩ : ∃ y, y = x6.setRow n2 co := ⟨_, rfl⟩
  have hr9 : y9.heap[n2]? = some (.cells co 36 (0, 0)) := by rw [hy9]; exact setRow_heap _ n2 _ co _ _ hc2
  have H9 : Hid (Sys y9 m l) := by rw [hy9]; exact (H7.out.tail.store ((Chg.refl (· = n2) x6).row co) (setRow_heap _ n2 _ co _ _ hc2)).tail.tail
  rw [← hco] at hc4
  have HCO := Lib.hid hco
  have HY9 := Lib.hid hy9
  clear hco hy9
  go_wp2_with (first | (refine wpList_load_row rfl 36 _ rfl n4 rfl _ _ _ _ hc4 Try.underlying36 rfl hcl2 ?_) | (refine wpList_store_row rfl 36 _ _ rfl n2 co rfl rfl _ _ hc2 hcl2 hcz2 hone2 ?_; rw [← HY9.out]))
  refine bodyPost_ret (results_cell_tmp rfl _ _ n2 _ _ _ _ rfl hr9 Try.underlying36 rfl hcl2) rfl ?_
  refine ⟨?_, H9.out⟩
  rw [HCO.out]
  try rfl
set_option maxRecDepth 100000 in
set_option maxHeartbeats 4000000 in
theorem mess_own_blocks (ifr ito iv im qv qb tv hv hb ec en ef ei : Int) (ba : Option Addr) (nb bc : Nat) (vq vt vh vg : Value)  (h : Sys w m l) :
    Calls Try.prog 78 #[.agg #[.int .i64 2, .int .i64 ifr, .int .i64 ito, .int .i64 iv, .int .i64 im, .int .i64 qv, .int .i64 qb, vq, .int .i64 tv, vt, vh, .int .i64 hv, .int .i64 hb, vg, .int .i64 ec, .int .u64 en, .int .u64 ef, .int .i64 ei, .slice ba nb bc]] w fun z w' => z = .returned (.tuple #[.agg #[.int .i64 2, .int .i64 ifr, .int .i64 ito, .int .i64 0, .int .i64 0, .int .i64 0, .int .i64 0, .slice none 0 0, .int .i64 0, .slice none 0 0, .slice none 0 0, .int .i64 0, .int .i64 0, .slice none 0 0, .int .i64 0, .int .u64 0, .int .u64 0, .int .i64 0, .slice ba nb bc], .bool (decide ((nb : Int) = 1))]) ∧ Sys w' m l := by
  obtain ⟨n1, x1, EN1, EX1, ES1, H1⟩ := h.box (.cells #[.int .i64 2, .int .i64 ifr, .int .i64 ito, .int .i64 iv, .int .i64 im, .int .i64 qv, .int .i64 qb, vq, .int .i64 tv, vt, vh, .int .i64 hv, .int .i64 hb, vg, .int .i64 ec, .int .u64 en, .int .u64 ef, .int .i64 ei, .slice ba nb bc] 36 (0, 0))
  obtain ⟨n2, x2, EN2, EX2, ES2, H2⟩ := Sys.box' H1 ES1 (.cells #[.int .i64 0, .int .i64 0, .int .i64 0, .int .i64 0, .int .i64 0, .int .i64 0, .int .i64 0, .slice none 0 0, .int .i64 0, .slice none 0 0, .slice none 0 0, .int .i64 0, .int .i64 0, .slice none 0 0, .int .i64 0, .int .u64 0, .int .u64 0, .int .i64 0, .slice none 0 0] 36 (0, 0))
  obtain ⟨n4, x4, EN4, EX4, ES4, H4⟩ := H2.out.box (.cells #[.int .i64 0, .int .i64 0, .int .i64 0, .int .i64 0, .int .i64 0, .int .i64 0, .int .i64 0, .slice none 0 0, .int .i64 0, .slice none 0 0, .slice none 0 0, .int .i64 0, .int .i64 0, .slice none 0 0, .int .i64 0, .int .u64 0, .int .u64 0, .int .i64 0, .slice none 0 0] 36 (0, 0))
  have hb4 : x4.heap[n4]? = some (.cells #[.int .i64 0, .int .i64 0, .int .i64 0, .int .i64 0, .int .i64 0, .int .i64 0, .int .i64 0, .slice none 0 0, .int .i64 0, .slice none 0 0, .slice none 0 0, .int .i64 0, .int .i64 0, .slice none 0 0, .int .i64 0, .int .u64 0, .int .u64 0, .int .i64 0, .slice none 0 0] 36 (0, 0)) := H4.out.nth 0 rfl
  obtain ⟨cs, hcs⟩ : ∃ cs : Array Value, cs = #[.int .i64 2, .int .i64 ifr, .int .i64 ito, .int .i64 0, .int .i64 0, .int .i64 0, .int .i64 0, .slice none 0 0, .int .i64 0, .slice none 0 0, .slice none 0 0, .int .i64 0, .int .i64 0, .slice none 0 0, .int .i64 0, .int .u64 0, .int .u64 0, .int .i64 0, .slice none 0 0] := ⟨_, rfl⟩
  obtain ⟨x5, hx5⟩ : ∃ x, x = x4.setRow n4 cs := ⟨_, rfl⟩
  have hone : cs.all (·.oneCell') = true := by rw [hcs]; simp [Value.oneCell']
  have hcl : (Try.prog.info? 36).map (·.size) = some cs.size := by rw [hcs]; exact size19
  have hcz : (#[.int .i64 0, .int .i64 0, .int .i64 0, .int .i64 0, .int .i64 0, .int .i64 0, .int .i64 0, .slice none 0 0, .int .i64 0, .slice none 0 0, .slice none 0 0, .int .i64 0, .int .i64 0, .slice none 0 0, .int .i64 0, .int .u64 0, .int .u64 0, .int .i64 0, .slice none 0 0] : Array Value).size = cs.size := by rw [hcs]; rfl
  have H5 : Hid (Sys x5 m (blk n4 (.cells #[.int .i64 2, .int .i64 ifr, .int .i64 ito, .int .i64 0, .int .i64 0, .int .i64 0, .int .i64 0, .slice none 0 0, .int .i64 0, .slice none 0 0, .slice none 0 0, .int .i64 0, .int .i64 0, .slice none 0 0, .int .i64 0, .int .u64 0, .int .u64 0, .int .i64 0, .slice none 0 0] 36 (0, 0)) :: blk n2 (.cells #[.int .i64 0, .int .i64 0, .int .i64 0, .int .i64 0, .int .i64 0, .int .i64 0, .int .i64 0, .slice none 0 0, .int .i64 0, .slice none 0 0, .slice none 0 0, .int .i64 0, .int .i64 0, .slice none 0 0, .int .i64 0, .int .u64 0, .int .u64 0, .int .i64 0, .slice none 0 0] 36 (0, 0)) :: blk n1 (.cells #[.int .i64 2, .int .i64 ifr, .int .i64 ito, .int .i64 iv, .int .i64 im, .int .i64 qv, .int .i64 qb, vq, .int .i64 tv, vt, vh, .int .i64 hv, .int .i64 hb, vg, .int .i64 ec, .int .u64 en, .int .u64 ef, .int .i64 ei, .slice ba nb bc] 36 (0, 0)) :: l)) := by
    rw [hx5, hcs]
    exact H4.out.store ((Chg.refl (· = n4) x4).row #[.int .i64 2, .int .i64 ifr, .int .i64 ito, .int .i64 0, .int .i64 0, .int .i64 0, .int .i64 0, .slice none 0 0, .int .i64 0, .slice none 0 0, .slice none 0 0, .int .i64 0, .int .i64 0, .slice none 0 0, .int .i64 0, .int .u64 0, .int .u64 0, .int .i64 0, .slice none 0 0]) (setRow_heap _ _ _ _ _ _ hb4)
  have hb1 : x2.heap[n1]? = some (.cells #[.int .i64 2, .int .i64 ifr, .int .i64 ito, .int .i64 iv, .int .i64 im, .int .i64 qv, .int .i64 qb, vq, .int .i64 tv, vt, vh, .int .i64 hv, .int .i64 hb, vg, .int .i64 ec, .int .u64 en, .int .u64 ef, .int .i64 ei, .slice ba nb bc] 36 (0, 0)) := H2.out.nth 1 rfl
  have q0 : x2.cell? ⟨n1, 0, none⟩ = some (.int .i64 2) := (cell_of_blk hb1 0).trans rfl
  have q1 : x2.cell? ⟨n1, 1, none⟩ = some (.int .i64 ifr) := (cell_of_blk hb1 1).trans rfl
  have q2 : x2.cell? ⟨n1, 2, none⟩ = some (.int .i64 ito) := (cell_of_blk hb1 2).trans rfl
  have hbt : Try.prog.built 36 [(0, .int .i64 2), (1, .int .i64 ifr), (2, .int .i64 ito)] = some cs := by rw [hcs]; rfl
  have HBT := Lib.hid hbt
  have HX5 := Lib.hid hx5
  have HCS := Lib.hid hcs
  have HB4 := Lib.hid hb4
  clear h hx5 hb4 hb1 hcs hbt
  go_enter Try.func78, Try.ntmps78
  go_upto_region 1 with fail
  rw [EX1.out, EX2.out, EN2.out, EN1.out]
  go_upto_region 2 with (first | (refine wpList_buildTo rfl 36 _ rfl (some 11) rfl cs ?_ ?_; (focus (simp only [List.map_toArray, List.map_cons, List.map_nil]; exact HBT.out))) | (rw [EX4.out, EN4.out]; refine wpList_store_row rfl 36 _ _ rfl n4 cs rfl rfl _ _ HB4.out hcl hcz hone ?_; rw [← HX5.out]))
  have hbi : x5.heap[n1]? = some (.cells #[.int .i64 2, .int .i64 ifr, .int .i64 ito, .int .i64 iv, .int .i64 im, .int .i64 qv, .int .i64 qb, vq, .int .i64 tv, vt, vh, .int .i64 hv, .int .i64 hb, vg, .int .i64 ec, .int .u64 en, .int .u64 ef, .int .i64 ei, .slice ba nb bc] 36 (0, 0)) := H5.out.nth 2 rfl
  have q0 : x5.cell? ⟨n1, 0, none⟩ = some (.int .i64 2) := (cell_of_blk hbi 0).trans rfl
  have q18 : x5.cell? ⟨n1, 18, none⟩ = some (.slice ba nb bc) := (cell_of_blk hbi 18).trans rfl
  have f18 := frozen_of_blk (H5.out.nth 0 rfl) 18
  have e18 : x5.cell? ⟨n4, 18, none⟩ = some (.slice none 0 0) := (cell_of_blk (H5.out.nth 0 rfl) 18).trans rfl
  go_upto_region 8 with fail
  have H7 : Hid (Sys (x5.setCell ⟨n4, 18, none⟩ (.slice ba nb bc)) m (blk n4 (.cells #[.int .i64 2, .int .i64 ifr, .int .i64 ito, .int .i64 0, .int .i64 0, .int .i64 0, .int .i64 0, .slice none 0 0, .int .i64 0, .slice none 0 0, .slice none 0 0, .int .i64 0, .int .i64 0, .slice none 0 0, .int .i64 0, .int .u64 0, .int .u64 0, .int .i64 0, .slice ba nb bc] 36 (0, 0)) :: blk n2 (.cells #[.int .i64 0, .int .i64 0, .int .i64 0, .int .i64 0, .int .i64 0, .int .i64 0, .int .i64 0, .slice none 0 0, .int .i64 0, .slice none 0 0, .slice none 0 0, .int .i64 0, .int .i64 0, .slice none 0 0, .int .i64 0, .int .u64 0, .int .u64 0, .int .i64 0, .slice none 0 0] 36 (0, 0)) :: blk n1 (.cells #[.int .i64 2, .int .i64 ifr, .int .i64 ito, .int .i64 iv, .int .i64 im, .int .i64 qv, .int .i64 qb, vq, .int .i64 tv, vt, vh, .int .i64 hv, .int .i64 hb, vg, .int .i64 ec, .int .u64 en, .int .u64 ef, .int .i64 ei, .slice ba nb bc] 36 (0, 0)) :: l)) := H5.out.setCell (i := 18) (.slice ba nb bc)
  generalize x5.setCell ⟨n4, 18, none⟩ (.slice ba nb bc) = x6 at *
  have hc4 : x6.drew.heap[n4]? = some (.cells #[.int .i64 2, .int .i64 ifr, .int .i64 ito, .int .i64 0, .int .i64 0, .int .i64 0, .int .i64 0, .slice none 0 0, .int .i64 0, .slice none 0 0, .slice none 0 0, .int .i64 0, .int .i64 0, .slice none 0 0, .int .i64 0, .int .u64 0, .int .u64 0, .int .i64 0, .slice ba nb bc] 36 (0, 0)) := H7.out.drew.nth 0 rfl
  have hc2 : x6.drew.heap[n2]? = some (.cells #[.int .i64 0, .int .i64 0, .int .i64 0, .int .i64 0, .int .i64 0, .int .i64 0, .int .i64 0, .slice none 0 0, .int .i64 0, .slice none 0 0, .slice none 0 0, .int .i64 0, .int .i64 0, .slice none 0 0, .int .i64 0, .int .u64 0, .int .u64 0, .int .i64 0, .slice none 0 0] 36 (0, 0)) := H7.out.drew.nth 1 rfl
  obtain ⟨co, hco⟩ : ∃ co : Array Value, co = #[.int .i64 2, .int .i64 ifr, .int .i64 ito, .int .i64 0, .int .i64 0, .int .i64 0, .int .i64 0, .slice none 0 0, .int .i64 0, .slice none 0 0, .slice none 0 0, .int .i64 0, .int .i64 0, .slice none 0 0, .int .i64 0, .int .u64 0, .int .u64 0, .int .i64 0, .slice ba nb bc] := ⟨_, rfl⟩
  have hone2 : co.all (·.oneCell') = true := by rw [hco]; simp [Value.oneCell']
  have hcl2 : (Try.prog.info? 36).map (·.size) = some co.size := by rw [hco]; exact size19
  have hcz2 : (#[.int .i64 0, .int .i64 0, .int .i64 0, .int .i64 0, .int .i64 0, .int .i64 0, .int .i64 0, .slice none 0 0, .int .i64 0, .slice none 0 0, .slice none 0 0, .int .i64 0, .int .i64 0, .slice none 0 0, .int .i64 0, .int .u64 0, .int .u64 0, .int .i64 0, .slice none 0 0] : Array Value).size = co.size := by rw [hco]; rfl
  obtain ⟨y9, hy9⟩ : ∃ y, y = x6.drew.setRow n2 co := ⟨_, rfl⟩
  have hr9 : y9.heap[n2]? = some (.cells co 36 (0, 0)) := by rw [hy9]; exact setRow_heap _ n2 _ co _ _ hc2
  have H9a : Hid (Sys y9 m (blk n2 (.cells co 36 (0, 0)) :: blk n4 (.cells #[.int .i64 2, .int .i64 ifr, .int .i64 ito, .int .i64 0, .int .i64 0, .int .i64 0, .int .i64 0, .slice none 0 0, .int .i64 0, .slice none 0 0, .slice none 0 0, .int .i64 0, .int .i64 0, .slice none 0 0, .int .i64 0, .int .u64 0, .int .u64 0, .int .i64 0, .slice ba nb bc] 36 (0, 0)) :: blk n1 (.cells #[.int .i64 2, .int .i64 ifr, .int .i64 ito, .int .i64 iv, .int .i64 im, .int .i64 qv, .int .i64 qb, vq, .int .i64 tv, vt, vh, .int .i64 hv, .int .i64 hb, vg, .int .i64 ec, .int .u64 en, .int .u64 ef, .int .i64 ei, .slice ba nb bc] 36 (0, 0)) :: l)) := by rw [hy9]; exact (H7.out.drew.swap.store ((Chg.refl (· = n2) x6.drew).row co) (setRow_heap _ _ _ _ _ _ hc2))
  have H9 : Hid (Sys y9 m l) := by rw [hy9]; exact (H7.out.drew.tail.store ((Chg.refl (· = n2) x6.drew).row co) (setRow_heap _ n2 _ co _ _ hc2)).tail.tail
  rw [← hco] at hc4
  have HCO := Lib.hid hco
  have HY9 := Lib.hid hy9
  clear hco hy9
  refine wp_region_seq (fun x : World => x.heap[n4]? = some (.cells co 36 (0, 0)) ∧ x.cell? ⟨n1, 18, none⟩ = some (.slice ba nb bc)) (fun x : World => x.cell? ⟨n1, 18, none⟩ = some (.slice ba nb bc)) [5] [(0, 1, some 25), (1, 0, some 26), (2, 5, some 27), (3, 0, some 28), (4, 0, some 29), (5, 3, none), (6, 0, some 3)] (by kernel_rfl) (by kernel_rfl) (fun _ _ _ d _ h => by cases d <;> exact h) ⟨hc4, (cell_of_blk (H7.out.drew.nth 2 rfl) 18).trans rfl⟩ ((cell_of_blk (H7.out.drew.nth 2 rfl) 18).trans rfl) ?_
  repeat (first | (refine seqW (v := ?_) rfl rfl (by kernel_rfl) ?_ ?_; rotate_left; (focus ((intro x; go_simp); try (with_reducible rfl))); try simp only [Act.put, List.setIfInBounds_toArray, List.set_cons_zero, List.set_cons_succ]) | (refine seqS (v := ?_) rfl rfl (by kernel_rfl) ?_ ?_; rotate_left; (focus (intro x hS; first | (refine (exec_rowA 36 _ (by rfl) n4 (by rfl) co _ _ _ hS.1 Try.underlying36 rfl hcl2).trans ?_; with_reducible rfl) | (have s1 := hS.2; go_simp; try (with_reducible rfl)))); try simp only [Act.put, List.setIfInBounds_toArray, List.set_cons_zero, List.set_cons_succ]) | (refine seqP (v := ?_) rfl rfl (by kernel_rfl) ?_ ?_; rotate_left; (focus (intro x hS; first | (skip; go_simp; try (with_reducible rfl)))); try simp only [Act.put, List.setIfInBounds_toArray, List.set_cons_zero, List.set_cons_succ]) | (refine seqX rfl rfl (by kernel_rfl) ?_; try simp only [Act.put, List.setIfInBounds_toArray, List.set_cons_zero, List.set_cons_succ]))
  refine seqT rfl rfl (fun K hK => ?_)
  refine wp_store_row' 36 _ _ rfl n2 co rfl rfl _ _ hc2 hcl2 hcz2 hone2 ?_
  rw [← HY9.out]
  refine hK.out _ _ ?_ (fun _ => ?_)
  · exact (cell_of_blk (H9a.out.nth 2 rfl) 18).trans rfl
  clear hK K
  try simp only [Act.put, List.setIfInBounds_toArray, List.set_cons_zero, List.set_cons_succ]
  repeat (first | (refine seqW (v := ?_) rfl rfl (by kernel_rfl) ?_ ?_; rotate_left; (focus ((intro x; go_simp); try (with_reducible rfl))); try simp only [Act.put, List.setIfInBounds_toArray, List.set_cons_zero, List.set_cons_succ]) | (refine seqS (v := ?_) rfl rfl (by kernel_rfl) ?_ ?_; rotate_left; (focus (intro x hS; first | (refine (exec_rowA 36 _ (by rfl) n4 (by rfl) co _ _ _ hS.1 Try.underlying36 rfl hcl2).trans ?_; with_reducible rfl) | (have s1 := hS.2; go_simp; try (with_reducible rfl)))); try simp only [Act.put, List.setIfInBounds_toArray, List.set_cons_zero, List.set_cons_succ]) | (refine seqP (v := ?_) rfl rfl (by kernel_rfl) ?_ ?_; rotate_left; (focus (intro x hS; first | (skip; go_simp; try (with_reducible rfl)))); try simp only [Act.put, List.setIfInBounds_toArray, List.set_cons_zero, List.set_cons_succ]) | (refine seqX rfl rfl (by kernel_rfl) ?_; try simp only [Act.put, List.setIfInBounds_toArray, List.set_cons_zero, List.set_cons_succ]))
  refine seqE ?_
  go_wp2_with fail
  refine bodyPost_ret (results_cell_tmp rfl _ _ n2 _ _ _ _ rfl hr9 Try.underlying36 rfl hcl2) rfl ?_
  refine ⟨?_, H9.out⟩
  rw [HCO.out]
  first | rfl | (congr; simp) | trace_state
set_option maxRecDepth 100000 in
set_option maxHeartbeats 4000000 in
theorem mess_own_tell (ifr ito iv im qv qb tv hv hb ec en ef ei : Int) (ba : Option Addr) (nb bc : Nat) (vq vt vh vg : Value)  (h : Sys w m l) :
    Calls Try.prog 78 #[.agg #[.int .i64 7, .int .i64 ifr, .int .i64 ito, .int .i64 iv, .int .i64 im, .int .i64 qv, .int .i64 qb, vq, .int .i64 tv, vt, vh, .int .i64 hv, .int .i64 hb, vg, .int .i64 ec, .int .u64 en, .int .u64 ef, .int .i64 ei, .slice ba nb bc]] w fun z w' => z = .returned (.tuple #[.agg #[.int .i64 7, .int .i64 ifr, .int .i64 ito, .int .i64 0, .int .i64 0, .int .i64 0, .int .i64 0, .slice none 0 0, .int .i64 0, .slice none 0 0, .slice none 0 0, .int .i64 0, .int .i64 0, .slice none 0 0, .int .i64 0, .int .u64 0, .int .u64 0, .int .i64 0, .slice ba nb bc], .bool (decide ((nb : Int) ≤ 1000))]) ∧ Sys w' m l := by
  obtain ⟨n1, x1, EN1, EX1, ES1, H1⟩ := h.box (.cells #[.int .i64 7, .int .i64 ifr, .int .i64 ito, .int .i64 iv, .int .i64 im, .int .i64 qv, .int .i64 qb, vq, .int .i64 tv, vt, vh, .int .i64 hv, .int .i64 hb, vg, .int .i64 ec, .int .u64 en, .int .u64 ef, .int .i64 ei, .slice ba nb bc] 36 (0, 0))
  obtain ⟨n2, x2, EN2, EX2, ES2, H2⟩ := Sys.box' H1 ES1 (.cells #[.int .i64 0, .int .i64 0, .int .i64 0, .int .i64 0, .int .i64 0, .int .i64 0, .int .i64 0, .slice none 0 0, .int .i64 0, .slice none 0 0, .slice none 0 0, .int .i64 0, .int .i64 0, .slice none 0 0, .int .i64 0, .int .u64 0, .int .u64 0, .int .i64 0, .slice none 0 0] 36 (0, 0))
  obtain ⟨n4, x4, EN4, EX4, ES4, H4⟩ := H2.out.box (.cells #[.int .i64 0, .int .i64 0, .int .i64 0, .int .i64 0, .int .i64 0, .int .i64 0, .int .i64 0, .slice none 0 0, .int .i64 0, .slice none 0 0, .slice none 0 0, .int .i64 0, .int .i64 0, .slice none 0 0, .int .i64 0, .int .u64 0, .int .u64 0, .int .i64 0, .slice none 0 0] 36 (0, 0))
  have hb4 : x4.heap[n4]? = some (.cells #[.int .i64 0, .int .i64 0, .int .i64 0, .int .i64 0, .int .i64 0, .int .i64 0, .int .i64 0, .slice none 0 0, .int .i64 0, .slice none 0 0, .slice none 0 0, .int .i64 0, .int .i64 0, .slice none 0 0, .int .i64 0, .int .u64 0, .int .u64 0, .int .i64 0, .slice none 0 0] 36 (0, 0)) := H4.out.nth 0 rfl
  obtain ⟨cs, hcs⟩ : ∃ cs : Array Value, cs = #[.int .i64 7, .int .i64 ifr, .int .i64 ito, .int .i64 0, .int .i64 0, .int .i64 0, .int .i64 0, .slice none 0 0, .int .i64 0, .slice none 0 0, .slice none 0 0, .int .i64 0, .int .i64 0, .slice none 0 0, .int .i64 0, .int .u64 0, .int .u64 0, .int .i64 0, .slice none 0 0] := ⟨_, rfl⟩
  obtain ⟨x5, hx5⟩ : ∃ x, x = x4.setRow n4 cs := ⟨_, rfl⟩
  have hone : cs.all (·.oneCell') = true := by rw [hcs]; simp [Value.oneCell']
  have hcl : (Try.prog.info? 36).map (·.size) = some cs.size := by rw [hcs]; exact size19
  have hcz : (#[.int .i64 0, .int .i64 0, .int .i64 0, .int .i64 0, .int .i64 0, .int .i64 0, .int .i64 0, .slice none 0 0, .int .i64 0, .slice none 0 0, .slice none 0 0, .int .i64 0, .int .i64 0, .slice none 0 0, .int .i64 0, .int .u64 0, .int .u64 0, .int .i64 0, .slice none 0 0] : Array Value).size = cs.size := by rw [hcs]; rfl
  have H5 : Hid (Sys x5 m (blk n4 (.cells #[.int .i64 7, .int .i64 ifr, .int .i64 ito, .int .i64 0, .int .i64 0, .int .i64 0, .int .i64 0, .slice none 0 0, .int .i64 0, .slice none 0 0, .slice none 0 0, .int .i64 0, .int .i64 0, .slice none 0 0, .int .i64 0, .int .u64 0, .int .u64 0, .int .i64 0, .slice none 0 0] 36 (0, 0)) :: blk n2 (.cells #[.int .i64 0, .int .i64 0, .int .i64 0, .int .i64 0, .int .i64 0, .int .i64 0, .int .i64 0, .slice none 0 0, .int .i64 0, .slice none 0 0, .slice none 0 0, .int .i64 0, .int .i64 0, .slice none 0 0, .int .i64 0, .int .u64 0, .int .u64 0, .int .i64 0, .slice none 0 0] 36 (0, 0)) :: blk n1 (.cells #[.int .i64 7, .int .i64 ifr, .int .i64 ito, .int .i64 iv, .int .i64 im, .int .i64 qv, .int .i64 qb, vq, .int .i64 tv, vt, vh, .int .i64 hv, .int .i64 hb, vg, .int .i64 ec, .int .u64 en, .int .u64 ef, .int .i64 ei, .slice ba nb bc] 36 (0, 0)) :: l)) := by
    rw [hx5, hcs]
    exact H4.out.store ((Chg.refl (· = n4) x4).row #[.int .i64 7, .int .i64 ifr, .int .i64 ito, .int .i64 0, .int .i64 0, .int .i64 0, .int .i64 0, .slice none 0 0, .int .i64 0, .slice none 0 0, .slice none 0 0, .int .i64 0, .int .i64 0, .slice none 0 0, .int .i64 0, .int .u64 0, .int .u64 0, .int .i64 0, .slice none 0 0]) (setRow_heap _ _ _ _ _ _ hb4)
  have hb1 : x2.heap[n1]? = some (.cells #[.int .i64 7, .int .i64 ifr, .int .i64 ito, .int .i64 iv, .int .i64 im, .int .i64 qv, .int .i64 qb, vq, .int .i64 tv, vt, vh, .int .i64 hv, .int .i64 hb, vg, .int .i64 ec, .int .u64 en, .int .u64 ef, .int .i64 ei, .slice ba nb bc] 36 (0, 0)) := H2.out.nth 1 rfl
  have q0 : x2.cell? ⟨n1, 0, none⟩ = some (.int .i64 7) := (cell_of_blk hb1 0).trans rfl
  have q1 : x2.cell? ⟨n1, 1, none⟩ = some (.int .i64 ifr) := (cell_of_blk hb1 1).trans rfl
  have q2 : x2.cell? ⟨n1, 2, none⟩ = some (.int .i64 ito) := (cell_of_blk hb1 2).trans rfl
  have hbt : Try.prog.built 36 [(0, .int .i64 7), (1, .int .i64 ifr), (2, .int .i64 ito)] = some cs := by rw [hcs]; rfl
  have HBT := Lib.hid hbt
  have HX5 := Lib.hid hx5
  have HCS := Lib.hid hcs
  have HB4 := Lib.hid hb4
  clear h hx5 hb4 hb1 hcs hbt
  go_enter Try.func78, Try.ntmps78
  go_upto_region 1 with fail
  rw [EX1.out, EX2.out, EN2.out, EN1.out]
  go_upto_region 2 with (first | (refine wpList_buildTo rfl 36 _ rfl (some 11) rfl cs ?_ ?_; (focus (simp only [List.map_toArray, List.map_cons, List.map_nil]; exact HBT.out))) | (rw [EX4.out, EN4.out]; refine wpList_store_row rfl 36 _ _ rfl n4 cs rfl rfl _ _ HB4.out hcl hcz hone ?_; rw [← HX5.out]))
  have hbi : x5.heap[n1]? = some (.cells #[.int .i64 7, .int .i64 ifr, .int .i64 ito, .int .i64 iv, .int .i64 im, .int .i64 qv, .int .i64 qb, vq, .int .i64 tv, vt, vh, .int .i64 hv, .int .i64 hb, vg, .int .i64 ec, .int .u64 en, .int .u64 ef, .int .i64 ei, .slice ba nb bc] 36 (0, 0)) := H5.out.nth 2 rfl
  have q0 : x5.cell? ⟨n1, 0, none⟩ = some (.int .i64 7) := (cell_of_blk hbi 0).trans rfl
  have q18 : x5.cell? ⟨n1, 18, none⟩ = some (.slice ba nb bc) := (cell_of_blk hbi 18).trans rfl
  have f18 := frozen_of_blk (H5.out.nth 0 rfl) 18
  have e18 : x5.cell? ⟨n4, 18, none⟩ = some (.slice none 0 0) := (cell_of_blk (H5.out.nth 0 rfl) 18).trans rfl
  go_upto_region 22 with fail
  have H7 : Hid (Sys (x5.setCell ⟨n4, 18, none⟩ (.slice ba nb bc)) m (blk n4 (.cells #[.int .i64 7, .int .i64 ifr, .int .i64 ito, .int .i64 0, .int .i64 0, .int .i64 0, .int .i64 0, .slice none 0 0, .int .i64 0, .slice none 0 0, .slice none 0 0, .int .i64 0, .int .i64 0, .slice none 0 0, .int .i64 0, .int .u64 0, .int .u64 0, .int .i64 0, .slice ba nb bc] 36 (0, 0)) :: blk n2 (.cells #[.int .i64 0, .int .i64 0, .int .i64 0, .int .i64 0, .int .i64 0, .int .i64 0, .int .i64 0, .slice none 0 0, .int .i64 0, .slice none 0 0, .slice none 0 0, .int .i64 0, .int .i64 0, .slice none 0 0, .int .i64 0, .int .u64 0, .int .u64 0, .int .i64 0, .slice none 0 0] 36 (0, 0)) :: blk n1 (.cells #[.int .i64 7, .int .i64 ifr, .int .i64 ito, .int .i64 iv, .int .i64 im, .int .i64 qv, .int .i64 qb, vq, .int .i64 tv, vt, vh, .int .i64 hv, .int .i64 hb, vg, .int .i64 ec, .int .u64 en, .int .u64 ef, .int .i64 ei, .slice ba nb bc] 36 (0, 0)) :: l)) := H5.out.setCell (i := 18) (.slice ba nb bc)
  generalize x5.setCell ⟨n4, 18, none⟩ (.slice ba nb bc) = x6 at *
  have hc4 : x6.drew.heap[n4]? = some (.cells #[.int .i64 7, .int .i64 ifr, .int .i64 ito, .int .i64 0, .int .i64 0, .int .i64 0, .int .i64 0, .slice none 0 0, .int .i64 0, .slice none 0 0, .slice none 0 0, .int .i64 0, .int .i64 0, .slice none 0 0, .int .i64 0, .int .u64 0, .int .u64 0, .int .i64 0, .slice ba nb bc] 36 (0, 0)) := H7.out.drew.nth 0 rfl
  have hc2 : x6.drew.heap[n2]? = some (.cells #[.int .i64 0, .int .i64 0, .int .i64 0, .int .i64 0, .int .i64 0, .int .i64 0, .int .i64 0, .slice none 0 0, .int .i64 0, .slice none 0 0, .slice none 0 0, .int .i64 0, .int .i64 0, .slice none 0 0, .int .i64 0, .int .u64 0, .int .u64 0, .int .i64 0, .slice none 0 0] 36 (0, 0)) := H7.out.drew.nth 1 rfl
  obtain ⟨co, hco⟩ : ∃ co : Array Value, co = #[.int .i64 7, .int .i64 ifr, .int .i64 ito, .int .i64 0, .int .i64 0, .int .i64 0, .int .i64 0, .slice none 0 0, .int .i64 0, .slice none 0 0, .slice none 0 0, .int .i64 0, .int .i64 0, .slice none 0 0, .int .i64 0, .int .u64 0, .int .u64 0, .int .i64 0, .slice ba nb bc] := ⟨_, rfl⟩
  have hone2 : co.all (·.oneCell') = true := by rw [hco]; simp [Value.oneCell']
  have hcl2 : (Try.prog.info? 36).map (·.size) = some co.size := by rw [hco]; exact size19
  have hcz2 : (#[.int .i64 0, .int .i64 0, .int .i64 0, .int .i64 0, .int .i64 0, .int .i64 0, .int .i64 0, .slice none 0 0, .int .i64 0, .slice none 0 0, .slice none 0 0, .int .i64 0, .int .i64 0, .slice none 0 0, .int .i64 0, .int .u64 0, .int .u64 0, .int .i64 0, .slice none 0 0] : Array Value).size = co.size := by rw [hco]; rfl
  obtain ⟨y9, hy9⟩ : ∃ y, y = x6.drew.setRow n2 co := ⟨_, rfl⟩
  have hr9 : y9.heap[n2]? = some (.cells co 36 (0, 0)) := by rw [hy9]; exact setRow_heap _ n2 _ co _ _ hc2
  have H9a : Hid (Sys y9 m (blk n2 (.cells co 36 (0, 0)) :: blk n4 (.cells #[.int .i64 7, .int .i64 ifr, .int .i64 ito, .int .i64 0, .int .i64 0, .int .i64 0, .int .i64 0, .slice none 0 0, .int .i64 0, .slice none 0 0, .slice none 0 0, .int .i64 0, .int .i64 0, .slice none 0 0, .int .i64 0, .int .u64 0, .int .u64 0, .int .i64 0, .slice ba nb bc] 36 (0, 0)) :: blk n1 (.cells #[.int .i64 7, .int .i64 ifr, .int .i64 ito, .int .i64 iv, .int .i64 im, .int .i64 qv, .int .i64 qb, vq, .int .i64 tv, vt, vh, .int .i64 hv, .int .i64 hb, vg, .int .i64 ec, .int .u64 en, .int .u64 ef, .int .i64 ei, .slice ba nb bc] 36 (0, 0)) :: l)) := by rw [hy9]; exact (H7.out.drew.swap.store ((Chg.refl (· = n2) x6.drew).row co) (setRow_heap _ _ _ _ _ _ hc2))
  have H9 : Hid (Sys y9 m l) := by rw [hy9]; exact (H7.out.drew.tail.store ((Chg.refl (· = n2) x6.drew).row co) (setRow_heap _ n2 _ co _ _ hc2)).tail.tail
  rw [← hco] at hc4
  have HCO := Lib.hid hco
  have HY9 := Lib.hid hy9
  clear hco hy9
  refine wp_region_seq (fun x : World => x.heap[n4]? = some (.cells co 36 (0, 0)) ∧ x.cell? ⟨n1, 18, none⟩ = some (.slice ba nb bc)) (fun x : World => x.cell? ⟨n1, 18, none⟩ = some (.slice ba nb bc)) [5] [(0, 1, some 75), (1, 0, some 76), (2, 5, some 77), (3, 0, some 78), (4, 0, some 79), (5, 3, none), (6, 0, some 3)] (by kernel_rfl) (by kernel_rfl) (fun _ _ _ d _ h => by cases d <;> exact h) ⟨hc4, (cell_of_blk (H7.out.drew.nth 2 rfl) 18).trans rfl⟩ ((cell_of_blk (H7.out.drew.nth 2 rfl) 18).trans rfl) ?_
  repeat (first | (refine seqW (v := ?_) rfl rfl (by kernel_rfl) ?_ ?_; rotate_left; (focus ((intro x; go_simp); try (with_reducible rfl))); try simp only [Act.put, List.setIfInBounds_toArray, List.set_cons_zero, List.set_cons_succ]) | (refine seqS (v := ?_) rfl rfl (by kernel_rfl) ?_ ?_; rotate_left; (focus (intro x hS; first | (refine (exec_rowA 36 _ (by rfl) n4 (by rfl) co _ _ _ hS.1 Try.underlying36 rfl hcl2).trans ?_; with_reducible rfl) | (have s1 := hS.2; go_simp; try (with_reducible rfl)))); try simp only [Act.put, List.setIfInBounds_toArray, List.set_cons_zero, List.set_cons_succ]) | (refine seqP (v := ?_) rfl rfl (by kernel_rfl) ?_ ?_; rotate_left; (focus (intro x hS; first | (skip; go_simp; try (with_reducible rfl)))); try simp only [Act.put, List.setIfInBounds_toArray, List.set_cons_zero, List.set_cons_succ]) | (refine seqX rfl rfl (by kernel_rfl) ?_; try simp only [Act.put, List.setIfInBounds_toArray, List.set_cons_zero, List.set_cons_succ]))
  refine seqT rfl rfl (fun K hK => ?_)
  refine wp_store_row' 36 _ _ rfl n2 co rfl rfl _ _ hc2 hcl2 hcz2 hone2 ?_
  rw [← HY9.out]
  refine hK.out _ _ ?_ (fun _ => ?_)
  · exact (cell_of_blk (H9a.out.nth 2 rfl) 18).trans rfl
  clear hK K
  try simp only [Act.put, List.setIfInBounds_toArray, List.set_cons_zero, List.set_cons_succ]
  repeat (first | (refine seqW (v := ?_) rfl rfl (by kernel_rfl) ?_ ?_; rotate_left; (focus ((intro x; go_simp); try (with_reducible rfl))); try simp only [Act.put, List.setIfInBounds_toArray, List.set_cons_zero, List.set_cons_succ]) | (refine seqS (v := ?_) rfl rfl (by kernel_rfl) ?_ ?_; rotate_left; (focus (intro x hS; first | (refine (exec_rowA 36 _ (by rfl) n4 (by rfl) co _ _ _ hS.1 Try.underlying36 rfl hcl2).trans ?_; with_reducible rfl) | (have s1 := hS.2; go_simp; try (with_reducible rfl)))); try simp only [Act.put, List.setIfInBounds_toArray, List.set_cons_zero, List.set_cons_succ]) | (refine seqP (v := ?_) rfl rfl (by kernel_rfl) ?_ ?_; rotate_left; (focus (intro x hS; first | (skip; go_simp; try (with_reducible rfl)))); try simp only [Act.put, List.setIfInBounds_toArray, List.set_cons_zero, List.set_cons_succ]) | (refine seqX rfl rfl (by kernel_rfl) ?_; try simp only [Act.put, List.setIfInBounds_toArray, List.set_cons_zero, List.set_cons_succ]))
  refine seqE ?_
  go_wp2_with fail
  refine bodyPost_ret (results_cell_tmp rfl _ _ n2 _ _ _ _ rfl hr9 Try.underlying36 rfl hcl2) rfl ?_
  refine ⟨?_, H9.out⟩
  rw [HCO.out]
  first | rfl | (congr; simp) | trace_state
set_option maxRecDepth 100000 in
set_option maxHeartbeats 4000000 in
theorem mess_own_cert1 (ifr ito iv qv qb tv hv hb ec en ef ei : Int) (qa ta ha ga : Option Addr) (nq qc nt tc nh hc ng gc : Nat) (vb : Value)  (h : Sys w m l) :
    Calls Try.prog 78 #[.agg #[.int .i64 5, .int .i64 ifr, .int .i64 ito, .int .i64 iv, .int .i64 1, .int .i64 qv, .int .i64 qb, .slice qa nq qc, .int .i64 tv, .slice ta nt tc, .slice ha nh hc, .int .i64 hv, .int .i64 hb, .slice ga ng gc, .int .i64 ec, .int .u64 en, .int .u64 ef, .int .i64 ei, vb]] w fun z w' => z = .returned (.tuple #[.agg #[.int .i64 5, .int .i64 ifr, .int .i64 ito, .int .i64 0, .int .i64 1, .int .i64 0, .int .i64 0, .slice none 0 0, .int .i64 tv, .slice ta nt tc, .slice ha nh hc, .int .i64 hv, .int .i64 hb, .slice ga ng gc, .int .i64 0, .int .u64 0, .int .u64 0, .int .i64 0, .slice none 0 0], .bool true]) ∧ Sys w' m l := by
  obtain ⟨n1, x1, EN1, EX1, ES1, H1⟩ := h.box (.cells #[.int .i64 5, .int .i64 ifr, .int .i64 ito, .int .i64 iv, .int .i64 1, .int .i64 qv, .int .i64 qb, .slice qa nq qc, .int .i64 tv, .slice ta nt tc, .slice ha nh hc, .int .i64 hv, .int .i64 hb, .slice ga ng gc, .int .i64 ec, .int .u64 en, .int .u64 ef, .int .i64 ei, vb] 36 (0, 0))
  obtain ⟨n2, x2, EN2, EX2, ES2, H2⟩ := Sys.box' H1 ES1 (.cells #[.int .i64 0, .int .i64 0, .int .i64 0, .int .i64 0, .int .i64 0, .int .i64 0, .int .i64 0, .slice none 0 0, .int .i64 0, .slice none 0 0, .slice none 0 0, .int .i64 0, .int .i64 0, .slice none 0 0, .int .i64 0, .int .u64 0, .int .u64 0, .int .i64 0, .slice none 0 0] 36 (0, 0))
  obtain ⟨n4, x4, EN4, EX4, ES4, H4⟩ := H2.out.box (.cells #[.int .i64 0, .int .i64 0, .int .i64 0, .int .i64 0, .int .i64 0, .int .i64 0, .int .i64 0, .slice none 0 0, .int .i64 0, .slice none 0 0, .slice none 0 0, .int .i64 0, .int .i64 0, .slice none 0 0, .int .i64 0, .int .u64 0, .int .u64 0, .int .i64 0, .slice none 0 0] 36 (0, 0))
  have hb4 : x4.heap[n4]? = some (.cells #[.int .i64 0, .int .i64 0, .int .i64 0, .int .i64 0, .int .i64 0, .int .i64 0, .int .i64 0, .slice none 0 0, .int .i64 0, .slice none 0 0, .slice none 0 0, .int .i64 0, .int .i64 0, .slice none 0 0, .int .i64 0, .int .u64 0, .int .u64 0, .int .i64 0, .slice none 0 0] 36 (0, 0)) := H4.out.nth 0 rfl
  obtain ⟨cs, hcs⟩ : ∃ cs : Array Value, cs = #[.int .i64 5, .int .i64 ifr, .int .i64 ito, .int .i64 0, .int .i64 0, .int .i64 0, .int .i64 0, .slice none 0 0, .int .i64 0, .slice none 0 0, .slice none 0 0, .int .i64 0, .int .i64 0, .slice none 0 0, .int .i64 0, .int .u64 0, .int .u64 0, .int .i64 0, .slice none 0 0] := ⟨_, rfl⟩
  obtain ⟨x5, hx5⟩ : ∃ x, x = x4.setRow n4 cs := ⟨_, rfl⟩
  have hone : cs.all (·.oneCell') = true := by rw [hcs]; simp [Value.oneCell']
  have hcl : (Try.prog.info? 36).map (·.size) = some cs.size := by rw [hcs]; exact size19
  have hcz : (#[.int .i64 0, .int .i64 0, .int .i64 0, .int .i64 0, .int .i64 0, .int .i64 0, .int .i64 0, .slice none 0 0, .int .i64 0, .slice none 0 0, .slice none 0 0, .int .i64 0, .int .i64 0, .slice none 0 0, .int .i64 0, .int .u64 0, .int .u64 0, .int .i64 0, .slice none 0 0] : Array Value).size = cs.size := by rw [hcs]; rfl
  have H5 : Hid (Sys x5 m (blk n4 (.cells #[.int .i64 5, .int .i64 ifr, .int .i64 ito, .int .i64 0, .int .i64 0, .int .i64 0, .int .i64 0, .slice none 0 0, .int .i64 0, .slice none 0 0, .slice none 0 0, .int .i64 0, .int .i64 0, .slice none 0 0, .int .i64 0, .int .u64 0, .int .u64 0, .int .i64 0, .slice none 0 0] 36 (0, 0)) :: blk n2 (.cells #[.int .i64 0, .int .i64 0, .int .i64 0, .int .i64 0, .int .i64 0, .int .i64 0, .int .i64 0, .slice none 0 0, .int .i64 0, .slice none 0 0, .slice none 0 0, .int .i64 0, .int .i64 0, .slice none 0 0, .int .i64 0, .int .u64 0, .int .u64 0, .int .i64 0, .slice none 0 0] 36 (0, 0)) :: blk n1 (.cells #[.int .i64 5, .int .i64 ifr, .int .i64 ito, .int .i64 iv, .int .i64 1, .int .i64 qv, .int .i64 qb, .slice qa nq qc, .int .i64 tv, .slice ta nt tc, .slice ha nh hc, .int .i64 hv, .int .i64 hb, .slice ga ng gc, .int .i64 ec, .int .u64 en, .int .u64 ef, .int .i64 ei, vb] 36 (0, 0)) :: l)) := by
    rw [hx5, hcs]
    exact H4.out.store ((Chg.refl (· = n4) x4).row #[.int .i64 5, .int .i64 ifr, .int .i64 ito, .int .i64 0, .int .i64 0, .int .i64 0, .int .i64 0, .slice none 0 0, .int .i64 0, .slice none 0 0, .slice none 0 0, .int .i64 0, .int .i64 0, .slice none 0 0, .int .i64 0, .int .u64 0, .int .u64 0, .int .i64 0, .slice none 0 0]) (setRow_heap _ _ _ _ _ _ hb4)
  have hb1 : x2.heap[n1]? = some (.cells #[.int .i64 5, .int .i64 ifr, .int .i64 ito, .int .i64 iv, .int .i64 1, .int .i64 qv, .int .i64 qb, .slice qa nq qc, .int .i64 tv, .slice ta nt tc, .slice ha nh hc, .int .i64 hv, .int .i64 hb, .slice ga ng gc, .int .i64 ec, .int .u64 en, .int .u64 ef, .int .i64 ei, vb] 36 (0, 0)) := H2.out.nth 1 rfl
  have q0 : x2.cell? ⟨n1, 0, none⟩ = some (.int .i64 5) := (cell_of_blk hb1 0).trans rfl
  have q1 : x2.cell? ⟨n1, 1, none⟩ = some (.int .i64 ifr) := (cell_of_blk hb1 1).trans rfl
  have q2 : x2.cell? ⟨n1, 2, none⟩ = some (.int .i64 ito) := (cell_of_blk hb1 2).trans rfl
  have hbt : Try.prog.built 36 [(0, .int .i64 5), (1, .int .i64 ifr), (2, .int .i64 ito)] = some cs := by rw [hcs]; rfl
  have HBT := Lib.hid hbt
  have HX5 := Lib.hid hx5
  have HCS := Lib.hid hcs
  have HB4 := Lib.hid hb4
  clear h hx5 hb4 hb1 hcs hbt
  go_enter Try.func78, Try.ntmps78
  go_upto_region 1 with fail
  rw [EX1.out, EX2.out, EN2.out, EN1.out]
  go_upto_region 2 with (first | (refine wpList_buildTo rfl 36 _ rfl (some 11) rfl cs ?_ ?_; (focus (simp only [List.map_toArray, List.map_cons, List.map_nil]; exact HBT.out))) | (rw [EX4.out, EN4.out]; refine wpList_store_row rfl 36 _ _ rfl n4 cs rfl rfl _ _ HB4.out hcl hcz hone ?_; rw [← HX5.out]))
  have hbi : x5.heap[n1]? = some (.cells #[.int .i64 5, .int .i64 ifr, .int .i64 ito, .int .i64 iv, .int .i64 1, .int .i64 qv, .int .i64 qb, .slice qa nq qc, .int .i64 tv, .slice ta nt tc, .slice ha nh hc, .int .i64 hv, .int .i64 hb, .slice ga ng gc, .int .i64 ec, .int .u64 en, .int .u64 ef, .int .i64 ei, vb] 36 (0, 0)) := H5.out.nth 2 rfl
  have q0 : x5.cell? ⟨n1, 0, none⟩ = some (.int .i64 5) := (cell_of_blk hbi 0).trans rfl
  have q4 : x5.cell? ⟨n1, 4, none⟩ = some (.int .i64 1) := (cell_of_blk hbi 4).trans rfl
  have f4 := frozen_of_blk (H5.out.nth 0 rfl) 4
  have c4 : x5.cell? ⟨n4, 4, none⟩ = some (.int .i64 0) := (cell_of_blk (H5.out.nth 0 rfl) 4).trans rfl
  go_upto_region 16 with fail
  have H6 : Hid (Sys (x5.setCell ⟨n4, 4, none⟩ (.int .i64 1)) m (blk n4 (.cells #[.int .i64 5, .int .i64 ifr, .int .i64 ito, .int .i64 0, .int .i64 1, .int .i64 0, .int .i64 0, .slice none 0 0, .int .i64 0, .slice none 0 0, .slice none 0 0, .int .i64 0, .int .i64 0, .slice none 0 0, .int .i64 0, .int .u64 0, .int .u64 0, .int .i64 0, .slice none 0 0] 36 (0, 0)) :: blk n2 (.cells #[.int .i64 0, .int .i64 0, .int .i64 0, .int .i64 0, .int .i64 0, .int .i64 0, .int .i64 0, .slice none 0 0, .int .i64 0, .slice none 0 0, .slice none 0 0, .int .i64 0, .int .i64 0, .slice none 0 0, .int .i64 0, .int .u64 0, .int .u64 0, .int .i64 0, .slice none 0 0] 36 (0, 0)) :: blk n1 (.cells #[.int .i64 5, .int .i64 ifr, .int .i64 ito, .int .i64 iv, .int .i64 1, .int .i64 qv, .int .i64 qb, .slice qa nq qc, .int .i64 tv, .slice ta nt tc, .slice ha nh hc, .int .i64 hv, .int .i64 hb, .slice ga ng gc, .int .i64 ec, .int .u64 en, .int .u64 ef, .int .i64 ei, vb] 36 (0, 0)) :: l)) := H5.out.setCell (i := 4) (.int .i64 1)
  generalize x5.setCell ⟨n4, 4, none⟩ (.int .i64 1) = x6 at *
  clear hbi q0 q4
  have hbi : x6.heap[n1]? = some (.cells #[.int .i64 5, .int .i64 ifr, .int .i64 ito, .int .i64 iv, .int .i64 1, .int .i64 qv, .int .i64 qb, .slice qa nq qc, .int .i64 tv, .slice ta nt tc, .slice ha nh hc, .int .i64 hv, .int .i64 hb, .slice ga ng gc, .int .i64 ec, .int .u64 en, .int .u64 ef, .int .i64 ei, vb] 36 (0, 0)) := H6.out.nth 2 rfl
  have q4 : x6.cell? ⟨n1, 4, none⟩ = some (.int .i64 1) := (cell_of_blk hbi 4).trans rfl
  have HLD := Lib.hid (cells_at hbi 8 [.int .i64 tv, .slice ta nt tc, .slice ha nh hc, .int .i64 hv, .int .i64 hb, .slice ga ng gc] rfl)
  have hz4 : x6.heap[n4]? = some (.cells #[.int .i64 5, .int .i64 ifr, .int .i64 ito, .int .i64 0, .int .i64 1, .int .i64 0, .int .i64 0, .slice none 0 0, .int .i64 0, .slice none 0 0, .slice none 0 0, .int .i64 0, .int .i64 0, .slice none 0 0, .int .i64 0, .int .u64 0, .int .u64 0, .int .i64 0, .slice none 0 0] 36 (0, 0)) := H6.out.nth 0 rfl
  have HFC : Hid (∀ j, j < 6 → (x6.cell? ⟨n4, 8 + j, none⟩).isSome = true) := fun j hj => by rw [cell_of_blk hz4]; rcases j with _ | _ | _ | _ | _ | _ | j <;> first | rfl | omega
  have HFF : Hid (∀ j, j < 6 → x6.frozen? ⟨n4, 8 + j, none⟩ = false) := fun j _ => frozen_of_blk hz4 _
  have H7 : Hid (Sys (x6.setCells n4 8 [.int .i64 tv, .slice ta nt tc, .slice ha nh hc, .int .i64 hv, .int .i64 hb, .slice ga ng gc]) m (blk n4 (.cells #[.int .i64 5, .int .i64 ifr, .int .i64 ito, .int .i64 0, .int .i64 1, .int .i64 0, .int .i64 0, .slice none 0 0, .int .i64 tv, .slice ta nt tc, .slice ha nh hc, .int .i64 hv, .int .i64 hb, .slice ga ng gc, .int .i64 0, .int .u64 0, .int .u64 0, .int .i64 0, .slice none 0 0] 36 (0, 0)) :: blk n2 (.cells #[.int .i64 0, .int .i64 0, .int .i64 0, .int .i64 0, .int .i64 0, .int .i64 0, .int .i64 0, .slice none 0 0, .int .i64 0, .slice none 0 0, .slice none 0 0, .int .i64 0, .int .i64 0, .slice none 0 0, .int .i64 0, .int .u64 0, .int .u64 0, .int .i64 0, .slice none 0 0] 36 (0, 0)) :: blk n1 (.cells #[.int .i64 5, .int .i64 ifr, .int .i64 ito, .int .i64 iv, .int .i64 1, .int .i64 qv, .int .i64 qb, .slice qa nq qc, .int .i64 tv, .slice ta nt tc, .slice ha nh hc, .int .i64 hv, .int .i64 hb, .slice ga ng gc, .int .i64 ec, .int .u64 en, .int .u64 ef, .int .i64 ei, vb] 36 (0, 0)) :: l)) := ((((((H6.out.setCell (i := 8) (.int .i64 tv)).setCell (i := 9) (.slice ta nt tc)).setCell (i := 10) (.slice ha nh hc)).setCell (i := 11) (.int .i64 hv)).setCell (i := 12) (.int .i64 hb)).setCell (i := 13) (.slice ga ng gc))
  clear hz4
  go_upto_region 19 with (first | (refine wpList_load_at rfl 30 _ rfl n1 8 rfl [.int .i64 tv, .slice ta nt tc, .slice ha nh hc, .int .i64 hv, .int .i64 hb, .slice ga ng gc] _ HLD.out Try.underlying30 rfl size6T ?_) | (refine wpList_store_atM rfl 30 _ _ rfl n4 8 rfl [.int .i64 tv, .slice ta nt tc, .slice ha nh hc, .int .i64 hv, .int .i64 hb, .slice ga ng gc] rfl size6T HFC.out HFF.out (by intro v hv; simp at hv; rcases hv with rfl | rfl | rfl | rfl | rfl | rfl <;> rfl) ?_))
  generalize x6.setCells n4 8 [.int .i64 tv, .slice ta nt tc, .slice ha nh hc, .int .i64 hv, .int .i64 hb, .slice ga ng gc] = x7 at *
  have hc4 : x7.drew.heap[n4]? = some (.cells #[.int .i64 5, .int .i64 ifr, .int .i64 ito, .int .i64 0, .int .i64 1, .int .i64 0, .int .i64 0, .slice none 0 0, .int .i64 tv, .slice ta nt tc, .slice ha nh hc, .int .i64 hv, .int .i64 hb, .slice ga ng gc, .int .i64 0, .int .u64 0, .int .u64 0, .int .i64 0, .slice none 0 0] 36 (0, 0)) := H7.out.drew.nth 0 rfl
  have hc2 : x7.drew.heap[n2]? = some (.cells #[.int .i64 0, .int .i64 0, .int .i64 0, .int .i64 0, .int .i64 0, .int .i64 0, .int .i64 0, .slice none 0 0, .int .i64 0, .slice none 0 0, .slice none 0 0, .int .i64 0, .int .i64 0, .slice none 0 0, .int .i64 0, .int .u64 0, .int .u64 0, .int .i64 0, .slice none 0 0] 36 (0, 0)) := H7.out.drew.nth 1 rfl
  obtain ⟨co, hco⟩ : ∃ co : Array Value, co = #[.int .i64 5, .int .i64 ifr, .int .i64 ito, .int .i64 0, .int .i64 1, .int .i64 0, .int .i64 0, .slice none 0 0, .int .i64 tv, .slice ta nt tc, .slice ha nh hc, .int .i64 hv, .int .i64 hb, .slice ga ng gc, .int .i64 0, .int .u64 0, .int .u64 0, .int .i64 0, .slice none 0 0] := ⟨_, rfl⟩
  have hone2 : co.all (·.oneCell') = true := by rw [hco]; simp [Value.oneCell']
  have hcl2 : (Try.prog.info? 36).map (·.size) = some co.size := by rw [hco]; exact size19
  have hcz2 : (#[.int .i64 0, .int .i64 0, .int .i64 0, .int .i64 0, .int .i64 0, .int .i64 0, .int .i64 0, .slice none 0 0, .int .i64 0, .slice none 0 0, .slice none 0 0, .int .i64 0, .int .i64 0, .slice none 0 0, .int .i64 0, .int .u64 0, .int .u64 0, .int .i64 0, .slice none 0 0] : Array Value).size = co.size := by rw [hco]; rfl
  obtain ⟨y9, hy9⟩ : ∃ y, y = x7.drew.setRow n2 co := ⟨_, rfl⟩
  have hr9 : y9.heap[n2]? = some (.cells co 36 (0, 0)) := by rw [hy9]; exact setRow_heap _ n2 _ co _ _ hc2
  have H9a : Hid (Sys y9 m (blk n2 (.cells co 36 (0, 0)) :: blk n4 (.cells #[.int .i64 5, .int .i64 ifr, .int .i64 ito, .int .i64 0, .int .i64 1, .int .i64 0, .int .i64 0, .slice none 0 0, .int .i64 tv, .slice ta nt tc, .slice ha nh hc, .int .i64 hv, .int .i64 hb, .slice ga ng gc, .int .i64 0, .int .u64 0, .int .u64 0, .int .i64 0, .slice none 0 0] 36 (0, 0)) :: blk n1 (.cells #[.int .i64 5, .int .i64 ifr, .int .i64 ito, .int .i64 iv, .int .i64 1, .int .i64 qv, .int .i64 qb, .slice qa nq qc, .int .i64 tv, .slice ta nt tc, .slice ha nh hc, .int .i64 hv, .int .i64 hb, .slice ga ng gc, .int .i64 ec, .int .u64 en, .int .u64 ef, .int .i64 ei, vb] 36 (0, 0)) :: l)) := by rw [hy9]; exact (H7.out.drew.swap.store ((Chg.refl (· = n2) x7.drew).row co) (setRow_heap _ _ _ _ _ _ hc2))
  have H9 : Hid (Sys y9 m l) := by rw [hy9]; exact (H7.out.drew.tail.store ((Chg.refl (· = n2) x7.drew).row co) (setRow_heap _ n2 _ co _ _ hc2)).tail.tail
  rw [← hco] at hc4
  have HCO := Lib.hid hco
  have HY9 := Lib.hid hy9
  clear hco hy9
  refine wp_region_seq (fun x : World => x.heap[n4]? = some (.cells co 36 (0, 0)) ∧ x.cell? ⟨n1, 4, none⟩ = some (.int .i64 1)) (fun x : World => x.cell? ⟨n1, 4, none⟩ = some (.int .i64 1)) [9] [(0, 1, some 61), (1, 0, some 62), (2, 5, some 63), (3, 0, some 64), (4, 0, some 65), (5, 0, some 66), (6, 5, some 67), (7, 0, some 68), (8, 0, some 69), (9, 3, none), (10, 0, some 3)] (by kernel_rfl) (by kernel_rfl) (fun _ _ _ d _ h => by cases d <;> exact h) ⟨hc4, (cell_of_blk (H7.out.drew.nth 2 rfl) 4).trans rfl⟩ ((cell_of_blk (H7.out.drew.nth 2 rfl) 4).trans rfl) ?_
  repeat (first | (refine seqW (v := ?_) rfl rfl (by kernel_rfl) ?_ ?_; rotate_left; (focus ((intro x; go_simp); try (with_reducible rfl))); try simp only [Act.put, List.setIfInBounds_toArray, List.set_cons_zero, List.set_cons_succ]) | (refine seqS (v := ?_) rfl rfl (by kernel_rfl) ?_ ?_; rotate_left; (focus (intro x hS; first | (refine (exec_rowA 36 _ (by rfl) n4 (by rfl) co _ _ _ hS.1 Try.underlying36 rfl hcl2).trans ?_; with_reducible rfl) | (have s1 := hS.2; go_simp; try (with_reducible rfl)))); try simp only [Act.put, List.setIfInBounds_toArray, List.set_cons_zero, List.set_cons_succ]) | (refine seqP (v := ?_) rfl rfl (by kernel_rfl) ?_ ?_; rotate_left; (focus (intro x hS; first | (have s1 := hS; go_simp; try (with_reducible rfl)))); try simp only [Act.put, List.setIfInBounds_toArray, List.set_cons_zero, List.set_cons_succ]) | (refine seqX rfl rfl (by kernel_rfl) ?_; try simp only [Act.put, List.setIfInBounds_toArray, List.set_cons_zero, List.set_cons_succ]))
  refine seqT rfl rfl (fun K hK => ?_)
  refine wp_store_row' 36 _ _ rfl n2 co rfl rfl _ _ hc2 hcl2 hcz2 hone2 ?_
  rw [← HY9.out]
  refine hK.out _ _ ?_ (fun _ => ?_)
  · exact (cell_of_blk (H9a.out.nth 2 rfl) 4).trans rfl
  clear hK K
  try simp only [Act.put, List.setIfInBounds_toArray, List.set_cons_zero, List.set_cons_succ]
  repeat (first | (refine seqW (v := ?_) rfl rfl (by kernel_rfl) ?_ ?_; rotate_left; (focus ((intro x; go_simp); try (with_reducible rfl))); try simp only [Act.put, List.setIfInBounds_toArray, List.set_cons_zero, List.set_cons_succ]) | (refine seqS (v := ?_) rfl rfl (by kernel_rfl) ?_ ?_; rotate_left; (focus (intro x hS; first | (refine (exec_rowA 36 _ (by rfl) n4 (by rfl) co _ _ _ hS.1 Try.underlying36 rfl hcl2).trans ?_; with_reducible rfl) | (have s1 := hS.2; go_simp; try (with_reducible rfl)))); try simp only [Act.put, List.setIfInBounds_toArray, List.set_cons_zero, List.set_cons_succ]) | (refine seqP (v := ?_) rfl rfl (by kernel_rfl) ?_ ?_; rotate_left; (focus (intro x hS; first | (have s1 := hS; go_simp; try (with_reducible rfl)))); try simp only [Act.put, List.setIfInBounds_toArray, List.set_cons_zero, List.set_cons_succ]) | (refine seqX rfl rfl (by kernel_rfl) ?_; try simp only [Act.put, List.setIfInBounds_toArray, List.set_cons_zero, List.set_cons_succ]))
  refine seqE ?_
  go_wp2_with fail
  refine bodyPost_ret (results_cell_tmp rfl _ _ n2 _ _ _ _ rfl hr9 Try.underlying36 rfl hcl2) rfl ?_
  refine ⟨?_, H9.out⟩
  rw [HCO.out]
  try rfl
set_option maxRecDepth 100000 in
set_option maxHeartbeats 4000000 in
theorem mess_own_cert0 (ifr ito iv qv qb tv hv hb ec en ef ei : Int) (qa ta ha ga : Option Addr) (nq qc nt tc nh hc ng gc : Nat) (vb : Value)  (h : Sys w m l) :
    Calls Try.prog 78 #[.agg #[.int .i64 5, .int .i64 ifr, .int .i64 ito, .int .i64 iv, .int .i64 0, .int .i64 qv, .int .i64 qb, .slice qa nq qc, .int .i64 tv, .slice ta nt tc, .slice ha nh hc, .int .i64 hv, .int .i64 hb, .slice ga ng gc, .int .i64 ec, .int .u64 en, .int .u64 ef, .int .i64 ei, vb]] w fun z w' => z = .returned (.tuple #[.agg #[.int .i64 5, .int .i64 ifr, .int .i64 ito, .int .i64 0, .int .i64 0, .int .i64 qv, .int .i64 qb, .slice qa nq qc, .int .i64 0, .slice none 0 0, .slice none 0 0, .int .i64 0, .int .i64 0, .slice none 0 0, .int .i64 0, .int .u64 0, .int .u64 0, .int .i64 0, .slice none 0 0], .bool true]) ∧ Sys w' m l := by
  obtain ⟨n1, x1, EN1, EX1, ES1, H1⟩ := h.box (.cells #[.int .i64 5, .int .i64 ifr, .int .i64 ito, .int .i64 iv, .int .i64 0, .int .i64 qv, .int .i64 qb, .slice qa nq qc, .int .i64 tv, .slice ta nt tc, .slice ha nh hc, .int .i64 hv, .int .i64 hb, .slice ga ng gc, .int .i64 ec, .int .u64 en, .int .u64 ef, .int .i64 ei, vb] 36 (0, 0))
  obtain ⟨n2, x2, EN2, EX2, ES2, H2⟩ := Sys.box' H1 ES1 (.cells #[.int .i64 0, .int .i64 0, .int .i64 0, .int .i64 0, .int .i64 0, .int .i64 0, .int .i64 0, .slice none 0 0, .int .i64 0, .slice none 0 0, .slice none 0 0, .int .i64 0, .int .i64 0, .slice none 0 0, .int .i64 0, .int .u64 0, .int .u64 0, .int .i64 0, .slice none 0 0] 36 (0, 0))
  obtain ⟨n4, x4, EN4, EX4, ES4, H4⟩ := H2.out.box (.cells #[.int .i64 0, .int .i64 0, .int .i64 0, .int .i64 0, .int .i64 0, .int .i64 0, .int .i64 0, .slice none 0 0, .int .i64 0, .slice none 0 0, .slice none 0 0, .int .i64 0, .int .i64 0, .slice none 0 0, .int .i64 0, .int .u64 0, .int .u64 0, .int .i64 0, .slice none 0 0] 36 (0, 0))
  have hb4 : x4.heap[n4]? = some (.cells #[.int .i64 0, .int .i64 0, .int .i64 0, .int .i64 0, .int .i64 0, .int .i64 0, .int .i64 0, .slice none 0 0, .int .i64 0, .slice none 0 0, .slice none 0 0, .int .i64 0, .int .i64 0, .slice none 0 0, .int .i64 0, .int .u64 0, .int .u64 0, .int .i64 0, .slice none 0 0] 36 (0, 0)) := H4.out.nth 0 rfl
  obtain ⟨cs, hcs⟩ : ∃ cs : Array Value, cs = #[.int .i64 5, .int .i64 ifr, .int .i64 ito, .int .i64 0, .int .i64 0, .int .i64 0, .int .i64 0, .slice none 0 0, .int .i64 0, .slice none 0 0, .slice none 0 0, .int .i64 0, .int .i64 0, .slice none 0 0, .int .i64 0, .int .u64 0, .int .u64 0, .int .i64 0, .slice none 0 0] := ⟨_, rfl⟩
  obtain ⟨x5, hx5⟩ : ∃ x, x = x4.setRow n4 cs := ⟨_, rfl⟩
  have hone : cs.all (·.oneCell') = true := by rw [hcs]; simp [Value.oneCell']
  have hcl : (Try.prog.info? 36).map (·.size) = some cs.size := by rw [hcs]; exact size19
  have hcz : (#[.int .i64 0, .int .i64 0, .int .i64 0, .int .i64 0, .int .i64 0, .int .i64 0, .int .i64 0, .slice none 0 0, .int .i64 0, .slice none 0 0, .slice none 0 0, .int .i64 0, .int .i64 0, .slice none 0 0, .int .i64 0, .int .u64 0, .int .u64 0, .int .i64 0, .slice none 0 0] : Array Value).size = cs.size := by rw [hcs]; rfl
  have H5 : Hid (Sys x5 m (blk n4 (.cells #[.int .i64 5, .int .i64 ifr, .int .i64 ito, .int .i64 0, .int .i64 0, .int .i64 0, .int .i64 0, .slice none 0 0, .int .i64 0, .slice none 0 0, .slice none 0 0, .int .i64 0, .int .i64 0, .slice none 0 0, .int .i64 0, .int .u64 0, .int .u64 0, .int .i64 0, .slice none 0 0] 36 (0, 0)) :: blk n2 (.cells #[.int .i64 0, .int .i64 0, .int .i64 0, .int .i64 0, .int .i64 0, .int .i64 0, .int .i64 0, .slice none 0 0, .int .i64 0, .slice none 0 0, .slice none 0 0, .int .i64 0, .int .i64 0, .slice none 0 0, .int .i64 0, .int .u64 0, .int .u64 0, .int .i64 0, .slice none 0 0] 36 (0, 0)) :: blk n1 (.cells #[.int .i64 5, .int .i64 ifr, .int .i64 ito, .int .i64 iv, .int .i64 0, .int .i64 qv, .int .i64 qb, .slice qa nq qc, .int .i64 tv, .slice ta nt tc, .slice ha nh hc, .int .i64 hv, .int .i64 hb, .slice ga ng gc, .int .i64 ec, .int .u64 en, .int .u64 ef, .int .i64 ei, vb] 36 (0, 0)) :: l)) := by
    rw [hx5, hcs]
    exact H4.out.store ((Chg.refl (· = n4) x4).row #[.int .i64 5, .int .i64 ifr, .int .i64 ito, .int .i64 0, .int .i64 0, .int .i64 0, .int .i64 0, .slice none 0 0, .int .i64 0, .slice none 0 0, .slice none 0 0, .int .i64 0, .int .i64 0, .slice none 0 0, .int .i64 0, .int .u64 0, .int .u64 0, .int .i64 0, .slice none 0 0]) (setRow_heap _ _ _ _ _ _ hb4)
  have hb1 : x2.heap[n1]? = some (.cells #[.int .i64 5, .int .i64 ifr, .int .i64 ito, .int .i64 iv, .int .i64 0, .int .i64 qv, .int .i64 qb, .slice qa nq qc, .int .i64 tv, .slice ta nt tc, .slice ha nh hc, .int .i64 hv, .int .i64 hb, .slice ga ng gc, .int .i64 ec, .int .u64 en, .int .u64 ef, .int .i64 ei, vb] 36 (0, 0)) := H2.out.nth 1 rfl
  have q0 : x2.cell? ⟨n1, 0, none⟩ = some (.int .i64 5) := (cell_of_blk hb1 0).trans rfl
  have q1 : x2.cell? ⟨n1, 1, none⟩ = some (.int .i64 ifr) := (cell_of_blk hb1 1).trans rfl
  have q2 : x2.cell? ⟨n1, 2, none⟩ = some (.int .i64 ito) := (cell_of_blk hb1 2).trans rfl
  have hbt : Try.prog.built 36 [(0, .int .i64 5), (1, .int .i64 ifr), (2, .int .i64 ito)] = some cs := by rw [hcs]; rfl
  have HBT := Lib.hid hbt
  have HX5 := Lib.hid hx5
  have HCS := Lib.hid hcs
  have HB4 := Lib.hid hb4
  clear h hx5 hb4 hb1 hcs hbt
  go_enter Try.func78, Try.ntmps78
  go_upto_region 1 with fail
  rw [EX1.out, EX2.out, EN2.out, EN1.out]
  go_upto_region 2 with (first | (refine wpList_buildTo rfl 36 _ rfl (some 11) rfl cs ?_ ?_; (focus (simp only [List.map_toArray, List.map_cons, List.map_nil]; exact HBT.out))) | (rw [EX4.out, EN4.out]; refine wpList_store_row rfl 36 _ _ rfl n4 cs rfl rfl _ _ HB4.out hcl hcz hone ?_; rw [← HX5.out]))
  have hbi : x5.heap[n1]? = some (.cells #[.int .i64 5, .int .i64 ifr, .int .i64 ito, .int .i64 iv, .int .i64 0, .int .i64 qv, .int .i64 qb, .slice qa nq qc, .int .i64 tv, .slice ta nt tc, .slice ha nh hc, .int .i64 hv, .int .i64 hb, .slice ga ng gc, .int .i64 ec, .int .u64 en, .int .u64 ef, .int .i64 ei, vb] 36 (0, 0)) := H5.out.nth 2 rfl
  have q0 : x5.cell? ⟨n1, 0, none⟩ = some (.int .i64 5) := (cell_of_blk hbi 0).trans rfl
  have q4 : x5.cell? ⟨n1, 4, none⟩ = some (.int .i64 0) := (cell_of_blk hbi 4).trans rfl
  have f4 := frozen_of_blk (H5.out.nth 0 rfl) 4
  have c4 : x5.cell? ⟨n4, 4, none⟩ = some (.int .i64 0) := (cell_of_blk (H5.out.nth 0 rfl) 4).trans rfl
  go_upto_region 16 with fail
  have H6 : Hid (Sys (x5.setCell ⟨n4, 4, none⟩ (.int .i64 0)) m (blk n4 (.cells #[.int .i64 5, .int .i64 ifr, .int .i64 ito, .int .i64 0, .int .i64 0, .int .i64 0, .int .i64 0, .slice none 0 0, .int .i64 0, .slice none 0 0, .slice none 0 0, .int .i64 0, .int .i64 0, .slice none 0 0, .int .i64 0, .int .u64 0, .int .u64 0, .int .i64 0, .slice none 0 0] 36 (0, 0)) :: blk n2 (.cells #[.int .i64 0, .int .i64 0, .int .i64 0, .int .i64 0, .int .i64 0, .int .i64 0, .int .i64 0, .slice none 0 0, .int .i64 0, .slice none 0 0, .slice none 0 0, .int .i64 0, .int .i64 0, .slice none 0 0, .int .i64 0, .int .u64 0, .int .u64 0, .int .i64 0, .slice none 0 0] 36 (0, 0)) :: blk n1 (.cells #[.int .i64 5, .int .i64 ifr, .int .i64 ito, .int .i64 iv, .int .i64 0, .int .i64 qv, .int .i64 qb, .slice qa nq qc, .int .i64 tv, .slice ta nt tc, .slice ha nh hc, .int .i64 hv, .int .i64 hb, .slice ga ng gc, .int .i64 ec, .int .u64 en, .int .u64 ef, .int .i64 ei, vb] 36 (0, 0)) :: l)) := H5.out.setCell (i := 4) (.int .i64 0)
  generalize x5.setCell ⟨n4, 4, none⟩ (.int .i64 0) = x6 at *
  clear hbi q0 q4
  have hbi : x6.heap[n1]? = some (.cells #[.int .i64 5, .int .i64 ifr, .int .i64 ito, .int .i64 iv, .int .i64 0, .int .i64 qv, .int .i64 qb, .slice qa nq qc, .int .i64 tv, .slice ta nt tc, .slice ha nh hc, .int .i64 hv, .int .i64 hb, .slice ga ng gc, .int .i64 ec, .int .u64 en, .int .u64 ef, .int .i64 ei, vb] 36 (0, 0)) := H6.out.nth 2 rfl
  have q4 : x6.cell? ⟨n1, 4, none⟩ = some (.int .i64 0) := (cell_of_blk hbi 4).trans rfl
  have HLD := Lib.hid (cells_at hbi 5 [.int .i64 qv, .int .i64 qb, .slice qa nq qc] rfl)
  have hz4 : x6.heap[n4]? = some (.cells #[.int .i64 5, .int .i64 ifr, .int .i64 ito, .int .i64 0, .int .i64 0, .int .i64 0, .int .i64 0, .slice none 0 0, .int .i64 0, .slice none 0 0, .slice none 0 0, .int .i64 0, .int .i64 0, .slice none 0 0, .int .i64 0, .int .u64 0, .int .u64 0, .int .i64 0, .slice none 0 0] 36 (0, 0)) := H6.out.nth 0 rfl
  have HFC : Hid (∀ j, j < 3 → (x6.cell? ⟨n4, 5 + j, none⟩).isSome = true) := fun j hj => by rw [cell_of_blk hz4]; rcases j with _ | _ | _ | j <;> first | rfl | omega
  have HFF : Hid (∀ j, j < 3 → x6.frozen? ⟨n4, 5 + j, none⟩ = false) := fun j _ => frozen_of_blk hz4 _
  have H7 : Hid (Sys (x6.setCells n4 5 [.int .i64 qv, .int .i64 qb, .slice qa nq qc]) m (blk n4 (.cells #[.int .i64 5, .int .i64 ifr, .int .i64 ito, .int .i64 0, .int .i64 0, .int .i64 qv, .int .i64 qb, .slice qa nq qc, .int .i64 0, .slice none 0 0, .slice none 0 0, .int .i64 0, .int .i64 0, .slice none 0 0, .int .i64 0, .int .u64 0, .int .u64 0, .int .i64 0, .slice none 0 0] 36 (0, 0)) :: blk n2 (.cells #[.int .i64 0, .int .i64 0, .int .i64 0, .int .i64 0, .int .i64 0, .int .i64 0, .int .i64 0, .slice none 0 0, .int .i64 0, .slice none 0 0, .slice none 0 0, .int .i64 0, .int .i64 0, .slice none 0 0, .int .i64 0, .int .u64 0, .int .u64 0, .int .i64 0, .slice none 0 0] 36 (0, 0)) :: blk n1 (.cells #[.int .i64 5, .int .i64 ifr, .int .i64 ito, .int .i64 iv, .int .i64 0, .int .i64 qv, .int .i64 qb, .slice qa nq qc, .int .i64 tv, .slice ta nt tc, .slice ha nh hc, .int .i64 hv, .int .i64 hb, .slice ga ng gc, .int .i64 ec, .int .u64 en, .int .u64 ef, .int .i64 ei, vb] 36 (0, 0)) :: l)) := (((H6.out.setCell (i := 5) (.int .i64 qv)).setCell (i := 6) (.int .i64 qb)).setCell (i := 7) (.slice qa nq qc))
  clear hz4
  go_upto_region 19 with (first | (refine wpList_load_at rfl 28 _ rfl n1 5 rfl [.int .i64 qv, .int .i64 qb, .slice qa nq qc] _ HLD.out Try.underlying28 rfl size3 ?_) | (refine wpList_store_atM rfl 28 _ _ rfl n4 5 rfl [.int .i64 qv, .int .i64 qb, .slice qa nq qc] rfl size3 HFC.out HFF.out (by intro v hv; simp at hv; rcases hv with rfl | rfl | rfl <;> rfl) ?_))
  generalize x6.setCells n4 5 [.int .i64 qv, .int .i64 qb, .slice qa nq qc] = x7 at *
  have hc4 : x7.drew.heap[n4]? = some (.cells #[.int .i64 5, .int .i64 ifr, .int .i64 ito, .int .i64 0, .int .i64 0, .int .i64 qv, .int .i64 qb, .slice qa nq qc, .int .i64 0, .slice none 0 0, .slice none 0 0, .int .i64 0, .int .i64 0, .slice none 0 0, .int .i64 0, .int .u64 0, .int .u64 0, .int .i64 0, .slice none 0 0] 36 (0, 0)) := H7.out.drew.nth 0 rfl
  have hc2 : x7.drew.heap[n2]? = some (.cells #[.int .i64 0, .int .i64 0, .int .i64 0, .int .i64 0, .int .i64 0, .int .i64 0, .int .i64 0, .slice none 0 0, .int .i64 0, .slice none 0 0, .slice none 0 0, .int .i64 0, .int .i64 0, .slice none 0 0, .int .i64 0, .int .u64 0, .int .u64 0, .int .i64 0, .slice none 0 0] 36 (0, 0)) := H7.out.drew.nth 1 rfl
  obtain ⟨co, hco⟩ : ∃ co : Array Value, co = #[.int .i64 5, .int .i64 ifr, .int .i64 ito, .int .i64 0, .int .i64 0, .int .i64 qv, .int .i64 qb, .slice qa nq qc, .int .i64 0, .slice none 0 0, .slice none 0 0, .int .i64 0, .int .i64 0, .slice none 0 0, .int .i64 0, .int .u64 0, .int .u64 0, .int .i64 0, .slice none 0 0] := ⟨_, rfl⟩
  have hone2 : co.all (·.oneCell') = true := by rw [hco]; simp [Value.oneCell']
  have hcl2 : (Try.prog.info? 36).map (·.size) = some co.size := by rw [hco]; exact size19
  have hcz2 : (#[.int .i64 0, .int .i64 0, .int .i64 0, .int .i64 0, .int .i64 0, .int .i64 0, .int .i64 0, .slice none 0 0, .int .i64 0, .slice none 0 0, .slice none 0 0, .int .i64 0, .int .i64 0, .slice none 0 0, .int .i64 0, .int .u64 0, .int .u64 0, .int .i64 0, .slice none 0 0] : Array Value).size = co.size := by rw [hco]; rfl
  obtain ⟨y9, hy9⟩ : ∃ y, y = x7.drew.setRow n2 co := ⟨_, rfl⟩
  have hr9 : y9.heap[n2]? = some (.cells co 36 (0, 0)) := by rw [hy9]; exact setRow_heap _ n2 _ co _ _ hc2
  have H9a : Hid (Sys y9 m (blk n2 (.cells co 36 (0, 0)) :: blk n4 (.cells #[.int .i64 5, .int .i64 ifr, .int .i64 ito, .int .i64 0, .int .i64 0, .int .i64 qv, .int .i64 qb, .slice qa nq qc, .int .i64 0, .slice none 0 0, .slice none 0 0, .int .i64 0, .int .i64 0, .slice none 0 0, .int .i64 0, .int .u64 0, .int .u64 0, .int .i64 0, .slice none 0 0] 36 (0, 0)) :: blk n1 (.cells #[.int .i64 5, .int .i64 ifr, .int .i64 ito, .int .i64 iv, .int .i64 0, .int .i64 qv, .int .i64 qb, .slice qa nq qc, .int .i64 tv, .slice ta nt tc, .slice ha nh hc, .int .i64 hv, .int .i64 hb, .slice ga ng gc, .int .i64 ec, .int .u64 en, .int .u64 ef, .int .i64 ei, vb] 36 (0, 0)) :: l)) := by rw [hy9]; exact (H7.out.drew.swap.store ((Chg.refl (· = n2) x7.drew).row co) (setRow_heap _ _ _ _ _ _ hc2))
  have H9 : Hid (Sys y9 m l) := by rw [hy9]; exact (H7.out.drew.tail.store ((Chg.refl (· = n2) x7.drew).row co) (setRow_heap _ n2 _ co _ _ hc2)).tail.tail
  rw [← hco] at hc4
  have HCO := Lib.hid hco
  have HY9 := Lib.hid hy9
  clear hco hy9
  refine wp_region_seq (fun x : World => x.heap[n4]? = some (.cells co 36 (0, 0)) ∧ x.cell? ⟨n1, 4, none⟩ = some (.int .i64 0)) (fun x : World => x.cell? ⟨n1, 4, none⟩ = some (.int .i64 0)) [9] [(0, 1, some 61), (1, 0, some 62), (2, 5, some 63), (3, 0, some 64), (4, 0, some 65), (5, 4, some 66), (6, 4, some 67), (7, 4, some 68), (8, 0, some 69), (9, 3, none), (10, 0, some 3)] (by kernel_rfl) (by kernel_rfl) (fun _ _ _ d _ h => by cases d <;> exact h) ⟨hc4, (cell_of_blk (H7.out.drew.nth 2 rfl) 4).trans rfl⟩ ((cell_of_blk (H7.out.drew.nth 2 rfl) 4).trans rfl) ?_
  repeat (first | (refine seqW (v := ?_) rfl rfl (by kernel_rfl) ?_ ?_; rotate_left; (focus ((intro x; go_simp); try (with_reducible rfl))); try simp only [Act.put, List.setIfInBounds_toArray, List.set_cons_zero, List.set_cons_succ]) | (refine seqS (v := ?_) rfl rfl (by kernel_rfl) ?_ ?_; rotate_left; (focus (intro x hS; first | (refine (exec_rowA 36 _ (by rfl) n4 (by rfl) co _ _ _ hS.1 Try.underlying36 rfl hcl2).trans ?_; with_reducible rfl) | (have s1 := hS.2; go_simp; try (with_reducible rfl)))); try simp only [Act.put, List.setIfInBounds_toArray, List.set_cons_zero, List.set_cons_succ]) | (refine seqP (v := ?_) rfl rfl (by kernel_rfl) ?_ ?_; rotate_left; (focus (intro x hS; first | (have s1 := hS; go_simp; try (with_reducible rfl)))); try simp only [Act.put, List.setIfInBounds_toArray, List.set_cons_zero, List.set_cons_succ]) | (refine seqX rfl rfl (by kernel_rfl) ?_; try simp only [Act.put, List.setIfInBounds_toArray, List.set_cons_zero, List.set_cons_succ]))
  refine seqT rfl rfl (fun K hK => ?_)
  refine wp_store_row' 36 _ _ rfl n2 co rfl rfl _ _ hc2 hcl2 hcz2 hone2 ?_
  rw [← HY9.out]
  refine hK.out _ _ ?_ (fun _ => ?_)
  · exact (cell_of_blk (H9a.out.nth 2 rfl) 4).trans rfl
  clear hK K
  try simp only [Act.put, List.setIfInBounds_toArray, List.set_cons_zero, List.set_cons_succ]
  repeat (first | (refine seqW (v := ?_) rfl rfl (by kernel_rfl) ?_ ?_; rotate_left; (focus ((intro x; go_simp); try (with_reducible rfl))); try simp only [Act.put, List.setIfInBounds_toArray, List.set_cons_zero, List.set_cons_succ]) | (refine seqS (v := ?_) rfl rfl (by kernel_rfl) ?_ ?_; rotate_left; (focus (intro x hS; first | (refine (exec_rowA 36 _ (by rfl) n4 (by rfl) co _ _ _ hS.1 Try.underlying36 rfl hcl2).trans ?_; with_reducible rfl) | (have s1 := hS.2; go_simp; try (with_reducible rfl)))); try simp only [Act.put, List.setIfInBounds_toArray, List.set_cons_zero, List.set_cons_succ]) | (refine seqP (v := ?_) rfl rfl (by kernel_rfl) ?_ ?_; rotate_left; (focus (intro x hS; first | (have s1 := hS; go_simp; try (with_reducible rfl)))); try simp only [Act.put, List.setIfInBounds_toArray, List.set_cons_zero, List.set_cons_succ]) | (refine seqX rfl rfl (by kernel_rfl) ?_; try simp only [Act.put, List.setIfInBounds_toArray, List.set_cons_zero, List.set_cons_succ]))
  refine seqE ?_
  go_wp2_with fail
  refine bodyPost_ret (results_cell_tmp rfl _ _ n2 _ _ _ _ rfl hr9 Try.underlying36 rfl hcl2) rfl ?_
  refine ⟨?_, H9.out⟩
  rw [HCO.out]
  try rfl
set_option maxRecDepth 100000 in
set_option maxHeartbeats 4000000 in
theorem mess_own_certN (ifr ito iv im qv qb tv hv hb ec en ef ei : Int) (qa ta ha ga : Option Addr) (nq qc nt tc nh hc ng gc : Nat) (vb : Value) (hm : im ≠ 0 ∧ im ≠ 1) (h : Sys w m l) :
    Calls Try.prog 78 #[.agg #[.int .i64 5, .int .i64 ifr, .int .i64 ito, .int .i64 iv, .int .i64 im, .int .i64 qv, .int .i64 qb, .slice qa nq qc, .int .i64 tv, .slice ta nt tc, .slice ha nh hc, .int .i64 hv, .int .i64 hb, .slice ga ng gc, .int .i64 ec, .int .u64 en, .int .u64 ef, .int .i64 ei, vb]] w fun z w' => z = .returned (.tuple #[.agg #[.int .i64 5, .int .i64 ifr, .int .i64 ito, .int .i64 0, .int .i64 im, .int .i64 qv, .int .i64 qb, .slice qa nq qc, .int .i64 0, .slice none 0 0, .slice none 0 0, .int .i64 0, .int .i64 0, .slice none 0 0, .int .i64 0, .int .u64 0, .int .u64 0, .int .i64 0, .slice none 0 0], .bool false]) ∧ Sys w' m l := by
  obtain ⟨n1, x1, EN1, EX1, ES1, H1⟩ := h.box (.cells #[.int .i64 5, .int .i64 ifr, .int .i64 ito, .int .i64 iv, .int .i64 im, .int .i64 qv, .int .i64 qb, .slice qa nq qc, .int .i64 tv, .slice ta nt tc, .slice ha nh hc, .int .i64 hv, .int .i64 hb, .slice ga ng gc, .int .i64 ec, .int .u64 en, .int .u64 ef, .int .i64 ei, vb] 36 (0, 0))
  obtain ⟨n2, x2, EN2, EX2, ES2, H2⟩ := Sys.box' H1 ES1 (.cells #[.int .i64 0, .int .i64 0, .int .i64 0, .int .i64 0, .int .i64 0, .int .i64 0, .int .i64 0, .slice none 0 0, .int .i64 0, .slice none 0 0, .slice none 0 0, .int .i64 0, .int .i64 0, .slice none 0 0, .int .i64 0, .int .u64 0, .int .u64 0, .int .i64 0, .slice none 0 0] 36 (0, 0))
  obtain ⟨n4, x4, EN4, EX4, ES4, H4⟩ := H2.out.box (.cells #[.int .i64 0, .int .i64 0, .int .i64 0, .int .i64 0, .int .i64 0, .int .i64 0, .int .i64 0, .slice none 0 0, .int .i64 0, .slice none 0 0, .slice none 0 0, .int .i64 0, .int .i64 0, .slice none 0 0, .int .i64 0, .int .u64 0, .int .u64 0, .int .i64 0, .slice none 0 0] 36 (0, 0))
  have hb4 : x4.heap[n4]? = some (.cells #[.int .i64 0, .int .i64 0, .int .i64 0, .int .i64 0, .int .i64 0, .int .i64 0, .int .i64 0, .slice none 0 0, .int .i64 0, .slice none 0 0, .slice none 0 0, .int .i64 0, .int .i64 0, .slice none 0 0, .int .i64 0, .int .u64 0, .int .u64 0, .int .i64 0, .slice none 0 0] 36 (0, 0)) := H4.out.nth 0 rfl
  obtain ⟨cs, hcs⟩ : ∃ cs : Array Value, cs = #[.int .i64 5, .int .i64 ifr, .int .i64 ito, .int .i64 0, .int .i64 0, .int .i64 0, .int .i64 0, .slice none 0 0, .int .i64 0, .slice none 0 0, .slice none 0 0, .int .i64 0, .int .i64 0, .slice none 0 0, .int .i64 0, .int .u64 0, .int .u64 0, .int .i64 0, .slice none 0 0] := ⟨_, rfl⟩
  obtain ⟨x5, hx5⟩ : ∃ x, x = x4.setRow n4 cs := ⟨_, rfl⟩
  have hone : cs.all (·.oneCell') = true := by rw [hcs]; simp [Value.oneCell']
  have hcl : (Try.prog.info? 36).map (·.size) = some cs.size := by rw [hcs]; exact size19
  have hcz : (#[.int .i64 0, .int .i64 0, .int .i64 0, .int .i64 0, .int .i64 0, .int .i64 0, .int .i64 0, .slice none 0 0, .int .i64 0, .slice none 0 0, .slice none 0 0, .int .i64 0, .int .i64 0, .slice none 0 0, .int .i64 0, .int .u64 0, .int .u64 0, .int .i64 0, .slice none 0 0] : Array Value).size = cs.size := by rw [hcs]; rfl
  have H5 : Hid (Sys x5 m (blk n4 (.cells #[.int .i64 5, .int .i64 ifr, .int .i64 ito, .int .i64 0, .int .i64 0, .int .i64 0, .int .i64 0, .slice none 0 0, .int .i64 0, .slice none 0 0, .slice none 0 0, .int .i64 0, .int .i64 0, .slice none 0 0, .int .i64 0, .int .u64 0, .int .u64 0, .int .i64 0, .slice none 0 0] 36 (0, 0)) :: blk n2 (.cells #[.int .i64 0, .int .i64 0, .int .i64 0, .int .i64 0, .int .i64 0, .int .i64 0, .int .i64 0, .slice none 0 0, .int .i64 0, .slice none 0 0, .slice none 0 0, .int .i64 0, .int .i64 0, .slice none 0 0, .int .i64 0, .int .u64 0, .int .u64 0, .int .i64 0, .slice none 0 0] 36 (0, 0)) :: blk n1 (.cells #[.int .i64 5, .int .i64 ifr, .int .i64 ito, .int .i64 iv, .int .i64 im, .int .i64 qv, .int .i64 qb, .slice qa nq qc, .int .i64 tv, .slice ta nt tc, .slice ha nh hc, .int .i64 hv, .int .i64 hb, .slice ga ng gc, .int .i64 ec, .int .u64 en, .int .u64 ef, .int .i64 ei, vb] 36 (0, 0)) :: l)) := by
    rw [hx5, hcs]
    exact H4.out.store ((Chg.refl (· = n4) x4).row #[.int .i64 5, .int .i64 ifr, .int .i64 ito, .int .i64 0, .int .i64 0, .int .i64 0, .int .i64 0, .slice none 0 0, .int .i64 0, .slice none 0 0, .slice none 0 0, .int .i64 0, .int .i64 0, .slice none 0 0, .int .i64 0, .int .u64 0, .int .u64 0, .int .i64 0, .slice none 0 0]) (setRow_heap _ _ _ _ _ _ hb4)
  have hb1 : x2.heap[n1]? = some (.cells #[.int .i64 5, .int .i64 ifr, .int .i64 ito, .int .i64 iv, .int .i64 im, .int .i64 qv, .int .i64 qb, .slice qa nq qc, .int .i64 tv, .slice ta nt tc, .slice ha nh hc, .int .i64 hv, .int .i64 hb, .slice ga ng gc, .int .i64 ec, .int .u64 en, .int .u64 ef, .int .i64 ei, vb] 36 (0, 0)) := H2.out.nth 1 rfl
  have q0 : x2.cell? ⟨n1, 0, none⟩ = some (.int .i64 5) := (cell_of_blk hb1 0).trans rfl
  have q1 : x2.cell? ⟨n1, 1, none⟩ = some (.int .i64 ifr) := (cell_of_blk hb1 1).trans rfl
  have q2 : x2.cell? ⟨n1, 2, none⟩ = some (.int .i64 ito) := (cell_of_blk hb1 2).trans rfl
  have hbt : Try.prog.built 36 [(0, .int .i64 5), (1, .int .i64 ifr), (2, .int .i64 ito)] = some cs := by rw [hcs]; rfl
  have HBT := Lib.hid hbt
  have HX5 := Lib.hid hx5
  have HCS := Lib.hid hcs
  have HB4 := Lib.hid hb4
  clear h hx5 hb4 hb1 hcs hbt
  go_enter Try.func78, Try.ntmps78
  go_upto_region 1 with fail
  rw [EX1.out, EX2.out, EN2.out, EN1.out]
  go_upto_region 2 with (first | (refine wpList_buildTo rfl 36 _ rfl (some 11) rfl cs ?_ ?_; (focus (simp only [List.map_toArray, List.map_cons, List.map_nil]; exact HBT.out))) | (rw [EX4.out, EN4.out]; refine wpList_store_row rfl 36 _ _ rfl n4 cs rfl rfl _ _ HB4.out hcl hcz hone ?_; rw [← HX5.out]))
  have d0 : (im == 0) = false := by simp; omega
  have d1 : (im == 1) = false := by simp; omega
  have e0 : decide (im = 0) = false := by simp; omega
  have e1 : decide (im = 1) = false := by simp; omega
  clear hm
  have hbi : x5.heap[n1]? = some (.cells #[.int .i64 5, .int .i64 ifr, .int .i64 ito, .int .i64 iv, .int .i64 im, .int .i64 qv, .int .i64 qb, .slice qa nq qc, .int .i64 tv, .slice ta nt tc, .slice ha nh hc, .int .i64 hv, .int .i64 hb, .slice ga ng gc, .int .i64 ec, .int .u64 en, .int .u64 ef, .int .i64 ei, vb] 36 (0, 0)) := H5.out.nth 2 rfl
  have q0 : x5.cell? ⟨n1, 0, none⟩ = some (.int .i64 5) := (cell_of_blk hbi 0).trans rfl
  have q4 : x5.cell? ⟨n1, 4, none⟩ = some (.int .i64 im) := (cell_of_blk hbi 4).trans rfl
  have f4 := frozen_of_blk (H5.out.nth 0 rfl) 4
  have c4 : x5.cell? ⟨n4, 4, none⟩ = some (.int .i64 0) := (cell_of_blk (H5.out.nth 0 rfl) 4).trans rfl
  go_upto_region 16 with fail
  have H6 : Hid (Sys (x5.setCell ⟨n4, 4, none⟩ (.int .i64 im)) m (blk n4 (.cells #[.int .i64 5, .int .i64 ifr, .int .i64 ito, .int .i64 0, .int .i64 im, .int .i64 0, .int .i64 0, .slice none 0 0, .int .i64 0, .slice none 0 0, .slice none 0 0, .int .i64 0, .int .i64 0, .slice none 0 0, .int .i64 0, .int .u64 0, .int .u64 0, .int .i64 0, .slice none 0 0] 36 (0, 0)) :: blk n2 (.cells #[.int .i64 0, .int .i64 0, .int .i64 0, .int .i64 0, .int .i64 0, .int .i64 0, .int .i64 0, .slice none 0 0, .int .i64 0, .slice none 0 0, .slice none 0 0, .int .i64 0, .int .i64 0, .slice none 0 0, .int .i64 0, .int .u64 0, .int .u64 0, .int .i64 0, .slice none 0 0] 36 (0, 0)) :: blk n1 (.cells #[.int .i64 5, .int .i64 ifr, .int .i64 ito, .int .i64 iv, .int .i64 im, .int .i64 qv, .int .i64 qb, .slice qa nq qc, .int .i64 tv, .slice ta nt tc, .slice ha nh hc, .int .i64 hv, .int .i64 hb, .slice ga ng gc, .int .i64 ec, .int .u64 en, .int .u64 ef, .int .i64 ei, vb] 36 (0, 0)) :: l)) := H5.out.setCell (i := 4) (.int .i64 im)
  generalize x5.setCell ⟨n4, 4, none⟩ (.int .i64 im) = x6 at *
  clear hbi q0 q4
  have hbi : x6.heap[n1]? = some (.cells #[.int .i64 5, .int .i64 ifr, .int .i64 ito, .int .i64 iv, .int .i64 im, .int .i64 qv, .int .i64 qb, .slice qa nq qc, .int .i64 tv, .slice ta nt tc, .slice ha nh hc, .int .i64 hv, .int .i64 hb, .slice ga ng gc, .int .i64 ec, .int .u64 en, .int .u64 ef, .int .i64 ei, vb] 36 (0, 0)) := H6.out.nth 2 rfl
  have q4 : x6.cell? ⟨n1, 4, none⟩ = some (.int .i64 im) := (cell_of_blk hbi 4).trans rfl
  have HLD := Lib.hid (cells_at hbi 5 [.int .i64 qv, .int .i64 qb, .slice qa nq qc] rfl)
  have hz4 : x6.heap[n4]? = some (.cells #[.int .i64 5, .int .i64 ifr, .int .i64 ito, .int .i64 0, .int .i64 im, .int .i64 0, .int .i64 0, .slice none 0 0, .int .i64 0, .slice none 0 0, .slice none 0 0, .int .i64 0, .int .i64 0, .slice none 0 0, .int .i64 0, .int .u64 0, .int .u64 0, .int .i64 0, .slice none 0 0] 36 (0, 0)) := H6.out.nth 0 rfl
  have HFC : Hid (∀ j, j < 3 → (x6.cell? ⟨n4, 5 + j, none⟩).isSome = true) := fun j hj => by rw [cell_of_blk hz4]; rcases j with _ | _ | _ | j <;> first | rfl | omega
  have HFF : Hid (∀ j, j < 3 → x6.frozen? ⟨n4, 5 + j, none⟩ = false) := fun j _ => frozen_of_blk hz4 _
  have H7 : Hid (Sys (x6.setCells n4 5 [.int .i64 qv, .int .i64 qb, .slice qa nq qc]) m (blk n4 (.cells #[.int .i64 5, .int .i64 ifr, .int .i64 ito, .int .i64 0, .int .i64 im, .int .i64 qv, .int .i64 qb, .slice qa nq qc, .int .i64 0, .slice none 0 0, .slice none 0 0, .int .i64 0, .int .i64 0, .slice none 0 0, .int .i64 0, .int .u64 0, .int .u64 0, .int .i64 0, .slice none 0 0] 36 (0, 0)) :: blk n2 (.cells #[.int .i64 0, .int .i64 0, .int .i64 0, .int .i64 0, .int .i64 0, .int .i64 0, .int .i64 0, .slice none 0 0, .int .i64 0, .slice none 0 0, .slice none 0 0, .int .i64 0, .int .i64 0, .slice none 0 0, .int .i64 0, .int .u64 0, .int .u64 0, .int .i64 0, .slice none 0 0] 36 (0, 0)) :: blk n1 (.cells #[.int .i64 5, .int .i64 ifr, .int .i64 ito, .int .i64 iv, .int .i64 im, .int .i64 qv, .int .i64 qb, .slice qa nq qc, .int .i64 tv, .slice ta nt tc, .slice ha nh hc, .int .i64 hv, .int .i64 hb, .slice ga ng gc, .int .i64 ec, .int .u64 en, .int .u64 ef, .int .i64 ei, vb] 36 (0, 0)) :: l)) := (((H6.out.setCell (i := 5) (.int .i64 qv)).setCell (i := 6) (.int .i64 qb)).setCell (i := 7) (.slice qa nq qc))
  clear hz4
  go_upto_region 19 with (first | (refine wpList_load_at rfl 28 _ rfl n1 5 rfl [.int .i64 qv, .int .i64 qb, .slice qa nq qc] _ HLD.out Try.underlying28 rfl size3 ?_) | (refine wpList_store_atM rfl 28 _ _ rfl n4 5 rfl [.int .i64 qv, .int .i64 qb, .slice qa nq qc] rfl size3 HFC.out HFF.out (by intro v hv; simp at hv; rcases hv with rfl | rfl | rfl <;> rfl) ?_))
  generalize x6.setCells n4 5 [.int .i64 qv, .int .i64 qb, .slice qa nq qc] = x7 at *
  have hc4 : x7.drew.heap[n4]? = some (.cells #[.int .i64 5, .int .i64 ifr, .int .i64 ito, .int .i64 0, .int .i64 im, .int .i64 qv, .int .i64 qb, .slice qa nq qc, .int .i64 0, .slice none 0 0, .slice none 0 0, .int .i64 0, .int .i64 0, .slice none 0 0, .int .i64 0, .int .u64 0, .int .u64 0, .int .i64 0, .slice none 0 0] 36 (0, 0)) := H7.out.drew.nth 0 rfl
  have hc2 : x7.drew.heap[n2]? = some (.cells #[.int .i64 0, .int .i64 0, .int .i64 0, .int .i64 0, .int .i64 0, .int .i64 0, .int .i64 0, .slice none 0 0, .int .i64 0, .slice none 0 0, .slice none 0 0, .int .i64 0, .int .i64 0, .slice none 0 0, .int .i64 0, .int .u64 0, .int .u64 0, .int .i64 0, .slice none 0 0] 36 (0, 0)) := H7.out.drew.nth 1 rfl
  obtain ⟨co, hco⟩ : ∃ co : Array Value, co = #[.int .i64 5, .int .i64 ifr, .int .i64 ito, .int .i64 0, .int .i64 im, .int .i64 qv, .int .i64 qb, .slice qa nq qc, .int .i64 0, .slice none 0 0, .slice none 0 0, .int .i64 0, .int .i64 0, .slice none 0 0, .int .i64 0, .int .u64 0, .int .u64 0, .int .i64 0, .slice none 0 0] := ⟨_, rfl⟩
  have hone2 : co.all (·.oneCell') = true := by rw [hco]; simp [Value.oneCell']
  have hcl2 : (Try.prog.info? 36).map (·.size) = some co.size := by rw [hco]; exact size19
  have hcz2 : (#[.int .i64 0, .int .i64 0, .int .i64 0, .int .i64 0, .int .i64 0, .int .i64 0, .int .i64 0, .slice none 0 0, .int .i64 0, .slice none 0 0, .slice none 0 0, .int .i64 0, .int .i64 0, .slice none 0 0, .int .i64 0, .int .u64 0, .int .u64 0, .int .i64 0, .slice none 0 0] : Array Value).size = co.size := by rw [hco]; rfl
  obtain ⟨y9, hy9⟩ : ∃ y, y = x7.drew.setRow n2 co := ⟨_, rfl⟩
  have hr9 : y9.heap[n2]? = some (.cells co 36 (0, 0)) := by rw [hy9]; exact setRow_heap _ n2 _ co _ _ hc2
  have H9a : Hid (Sys y9 m (blk n2 (.cells co 36 (0, 0)) :: blk n4 (.cells #[.int .i64 5, .int .i64 ifr, .int .i64 ito, .int .i64 0, .int .i64 im, .int .i64 qv, .int .i64 qb, .slice qa nq qc, .int .i64 0, .slice none 0 0, .slice none 0 0, .int .i64 0, .int .i64 0, .slice none 0 0, .int .i64 0, .int .u64 0, .int .u64 0, .int .i64 0, .slice none 0 0] 36 (0, 0)) :: blk n1 (.cells #[.int .i64 5, .int .i64 ifr, .int .i64 ito, .int .i64 iv, .int .i64 im, .int .i64 qv, .int .i64 qb, .slice qa nq qc, .int .i64 tv, .slice ta nt tc, .slice ha nh hc, .int .i64 hv, .int .i64 hb, .slice ga ng gc, .int .i64 ec, .int .u64 en, .int .u64 ef, .int .i64 ei, vb] 36 (0, 0)) :: l)) := by rw [hy9]; exact (H7.out.drew.swap.store ((Chg.refl (· = n2) x7.drew).row co) (setRow_heap _ _ _ _ _ _ hc2))
  have H9 : Hid (Sys y9 m l) := by rw [hy9]; exact (H7.out.drew.tail.store ((Chg.refl (· = n2) x7.drew).row co) (setRow_heap _ n2 _ co _ _ hc2)).tail.tail
  rw [← hco] at hc4
  have HCO := Lib.hid hco
  have HY9 := Lib.hid hy9
  clear hco hy9
  refine wp_region_seq (fun x : World => x.heap[n4]? = some (.cells co 36 (0, 0)) ∧ x.cell? ⟨n1, 4, none⟩ = some (.int .i64 im)) (fun x : World => x.cell? ⟨n1, 4, none⟩ = some (.int .i64 im)) [9] [(0, 1, some 61), (1, 0, some 62), (2, 5, some 63), (3, 0, some 64), (4, 0, some 65), (5, 0, some 66), (6, 5, some 67), (7, 0, some 68), (8, 0, some 69), (9, 3, none), (10, 0, some 3)] (by kernel_rfl) (by kernel_rfl) (fun _ _ _ d _ h => by cases d <;> exact h) ⟨hc4, (cell_of_blk (H7.out.drew.nth 2 rfl) 4).trans rfl⟩ ((cell_of_blk (H7.out.drew.nth 2 rfl) 4).trans rfl) ?_
  repeat (first | (refine seqW (v := ?_) rfl rfl (by kernel_rfl) ?_ ?_; rotate_left; (focus ((intro x; go_simp); try (with_reducible rfl))); try simp only [Act.put, List.setIfInBounds_toArray, List.set_cons_zero, List.set_cons_succ]) | (refine seqS (v := ?_) rfl rfl (by kernel_rfl) ?_ ?_; rotate_left; (focus (intro x hS; first | (refine (exec_rowA 36 _ (by rfl) n4 (by rfl) co _ _ _ hS.1 Try.underlying36 rfl hcl2).trans ?_; with_reducible rfl) | (have s1 := hS.2; go_simp; try (with_reducible rfl)))); try simp only [Act.put, List.setIfInBounds_toArray, List.set_cons_zero, List.set_cons_succ]) | (refine seqP (v := ?_) rfl rfl (by kernel_rfl) ?_ ?_; rotate_left; (focus (intro x hS; first | (have s1 := hS; go_simp; try (with_reducible rfl)))); try simp only [Act.put, List.setIfInBounds_toArray, List.set_cons_zero, List.set_cons_succ]) | (refine seqX rfl rfl (by kernel_rfl) ?_; try simp only [Act.put, List.setIfInBounds_toArray, List.set_cons_zero, List.set_cons_succ]))
  refine seqT rfl rfl (fun K hK => ?_)
  refine wp_store_row' 36 _ _ rfl n2 co rfl rfl _ _ hc2 hcl2 hcz2 hone2 ?_
  rw [← HY9.out]
  refine hK.out _ _ ?_ (fun _ => ?_)
  · exact (cell_of_blk (H9a.out.nth 2 rfl) 4).trans rfl
  clear hK K
  try simp only [Act.put, List.setIfInBounds_toArray, List.set_cons_zero, List.set_cons_succ]
  repeat (first | (refine seqW (v := ?_) rfl rfl (by kernel_rfl) ?_ ?_; rotate_left; (focus ((intro x; go_simp); try (with_reducible rfl))); try simp only [Act.put, List.setIfInBounds_toArray, List.set_cons_zero, List.set_cons_succ]) | (refine seqS (v := ?_) rfl rfl (by kernel_rfl) ?_ ?_; rotate_left; (focus (intro x hS; first | (refine (exec_rowA 36 _ (by rfl) n4 (by rfl) co _ _ _ hS.1 Try.underlying36 rfl hcl2).trans ?_; with_reducible rfl) | (have s1 := hS.2; go_simp; try (with_reducible rfl)))); try simp only [Act.put, List.setIfInBounds_toArray, List.set_cons_zero, List.set_cons_succ]) | (refine seqP (v := ?_) rfl rfl (by kernel_rfl) ?_ ?_; rotate_left; (focus (intro x hS; first | (have s1 := hS; go_simp; try (with_reducible rfl)))); try simp only [Act.put, List.setIfInBounds_toArray, List.set_cons_zero, List.set_cons_succ]) | (refine seqX rfl rfl (by kernel_rfl) ?_; try simp only [Act.put, List.setIfInBounds_toArray, List.set_cons_zero, List.set_cons_succ]))
  refine seqE ?_
  go_wp2_with fail
  refine bodyPost_ret (results_cell_tmp rfl _ _ n2 _ _ _ _ rfl hr9 Try.underlying36 rfl hcl2) rfl ?_
  refine ⟨?_, H9.out⟩
  rw [HCO.out]
  try rfl
set_option maxRecDepth 100000 in
set_option maxHeartbeats 4000000 in
theorem mess_own_none (ik ifr ito iv im qv qb tv hv hb ec en ef ei : Int) (vq vt vh vg vb : Value) (hk : ik < 1 ∨ 8 < ik) (h : Sys w m l) :
    Calls Try.prog 78 #[.agg #[.int .i64 ik, .int .i64 ifr, .int .i64 ito, .int .i64 iv, .int .i64 im, .int .i64 qv, .int .i64 qb, vq, .int .i64 tv, vt, vh, .int .i64 hv, .int .i64 hb, vg, .int .i64 ec, .int .u64 en, .int .u64 ef, .int .i64 ei, vb]] w fun z w' => z = .returned (.tuple #[.agg #[.int .i64 0, .int .i64 0, .int .i64 0, .int .i64 0, .int .i64 0, .int .i64 0, .int .i64 0, .slice none 0 0, .int .i64 0, .slice none 0 0, .slice none 0 0, .int .i64 0, .int .i64 0, .slice none 0 0, .int .i64 0, .int .u64 0, .int .u64 0, .int .i64 0, .slice none 0 0], .bool false]) ∧ Sys w' m l := by
  obtain ⟨n1, x1, EN1, EX1, ES1, H1⟩ := h.box (.cells #[.int .i64 ik, .int .i64 ifr, .int .i64 ito, .int .i64 iv, .int .i64 im, .int .i64 qv, .int .i64 qb, vq, .int .i64 tv, vt, vh, .int .i64 hv, .int .i64 hb, vg, .int .i64 ec, .int .u64 en, .int .u64 ef, .int .i64 ei, vb] 36 (0, 0))
  obtain ⟨n2, x2, EN2, EX2, ES2, H2⟩ := Sys.box' H1 ES1 (.cells #[.int .i64 0, .int .i64 0, .int .i64 0, .int .i64 0, .int .i64 0, .int .i64 0, .int .i64 0, .slice none 0 0, .int .i64 0, .slice none 0 0, .slice none 0 0, .int .i64 0, .int .i64 0, .slice none 0 0, .int .i64 0, .int .u64 0, .int .u64 0, .int .i64 0, .slice none 0 0] 36 (0, 0))
  obtain ⟨n4, x4, EN4, EX4, ES4, H4⟩ := H2.out.box (.cells #[.int .i64 0, .int .i64 0, .int .i64 0, .int .i64 0, .int .i64 0, .int .i64 0, .int .i64 0, .slice none 0 0, .int .i64 0, .slice none 0 0, .slice none 0 0, .int .i64 0, .int .i64 0, .slice none 0 0, .int .i64 0, .int .u64 0, .int .u64 0, .int .i64 0, .slice none 0 0] 36 (0, 0))
  have hb4 : x4.heap[n4]? = some (.cells #[.int .i64 0, .int .i64 0, .int .i64 0, .int .i64 0, .int .i64 0, .int .i64 0, .int .i64 0, .slice none 0 0, .int .i64 0, .slice none 0 0, .slice none 0 0, .int .i64 0, .int .i64 0, .slice none 0 0, .int .i64 0, .int .u64 0, .int .u64 0, .int .i64 0, .slice none 0 0] 36 (0, 0)) := H4.out.nth 0 rfl
  obtain ⟨cs, hcs⟩ : ∃ cs : Array Value, cs = #[.int .i64 ik, .int .i64 ifr, .int .i64 ito, .int .i64 0, .int .i64 0, .int .i64 0, .int .i64 0, .slice none 0 0, .int .i64 0, .slice none 0 0, .slice none 0 0, .int .i64 0, .int .i64 0, .slice none 0 0, .int .i64 0, .int .u64 0, .int .u64 0, .int .i64 0, .slice none 0 0] := ⟨_, rfl⟩
  obtain ⟨x5, hx5⟩ : ∃ x, x = x4.setRow n4 cs := ⟨_, rfl⟩
  have hone : cs.all (·.oneCell') = true := by rw [hcs]; simp [Value.oneCell']
  have hcl : (Try.prog.info? 36).map (·.size) = some cs.size := by rw [hcs]; exact size19
  have hcz : (#[.int .i64 0, .int .i64 0, .int .i64 0, .int .i64 0, .int .i64 0, .int .i64 0, .int .i64 0, .slice none 0 0, .int .i64 0, .slice none 0 0, .slice none 0 0, .int .i64 0, .int .i64 0, .slice none 0 0, .int .i64 0, .int .u64 0, .int .u64 0, .int .i64 0, .slice none 0 0] : Array Value).size = cs.size := by rw [hcs]; rfl
  have H5 : Hid (Sys x5 m (blk n4 (.cells #[.int .i64 ik, .int .i64 ifr, .int .i64 ito, .int .i64 0, .int .i64 0, .int .i64 0, .int .i64 0, .slice none 0 0, .int .i64 0, .slice none 0 0, .slice none 0 0, .int .i64 0, .int .i64 0, .slice none 0 0, .int .i64 0, .int .u64 0, .int .u64 0, .int .i64 0, .slice none 0 0] 36 (0, 0)) :: blk n2 (.cells #[.int .i64 0, .int .i64 0, .int .i64 0, .int .i64 0, .int .i64 0, .int .i64 0, .int .i64 0, .slice none 0 0, .int .i64 0, .slice none 0 0, .slice none 0 0, .int .i64 0, .int .i64 0, .slice none 0 0, .int .i64 0, .int .u64 0, .int .u64 0, .int .i64 0, .slice none 0 0] 36 (0, 0)) :: blk n1 (.cells #[.int .i64 ik, .int .i64 ifr, .int .i64 ito, .int .i64 iv, .int .i64 im, .int .i64 qv, .int .i64 qb, vq, .int .i64 tv, vt, vh, .int .i64 hv, .int .i64 hb, vg, .int .i64 ec, .int .u64 en, .int .u64 ef, .int .i64 ei, vb] 36 (0, 0)) :: l)) := by
    rw [hx5, hcs]
    exact H4.out.store ((Chg.refl (· = n4) x4).row #[.int .i64 ik, .int .i64 ifr, .int .i64 ito, .int .i64 0, .int .i64 0, .int .i64 0, .int .i64 0, .slice none 0 0, .int .i64 0, .slice none 0 0, .slice none 0 0, .int .i64 0, .int .i64 0, .slice none 0 0, .int .i64 0, .int .u64 0, .int .u64 0, .int .i64 0, .slice none 0 0]) (setRow_heap _ _ _ _ _ _ hb4)
  have hb1 : x2.heap[n1]? = some (.cells #[.int .i64 ik, .int .i64 ifr, .int .i64 ito, .int .i64 iv, .int .i64 im, .int .i64 qv, .int .i64 qb, vq, .int .i64 tv, vt, vh, .int .i64 hv, .int .i64 hb, vg, .int .i64 ec, .int .u64 en, .int .u64 ef, .int .i64 ei, vb] 36 (0, 0)) := H2.out.nth 1 rfl
  have q0 : x2.cell? ⟨n1, 0, none⟩ = some (.int .i64 ik) := (cell_of_blk hb1 0).trans rfl
  have q1 : x2.cell? ⟨n1, 1, none⟩ = some (.int .i64 ifr) := (cell_of_blk hb1 1).trans rfl
  have q2 : x2.cell? ⟨n1, 2, none⟩ = some (.int .i64 ito) := (cell_of_blk hb1 2).trans rfl
  have hbt : Try.prog.built 36 [(0, .int .i64 ik), (1, .int .i64 ifr), (2, .int .i64 ito)] = some cs := by rw [hcs]; rfl
  have HBT := Lib.hid hbt
  have HX5 := Lib.hid hx5
  have HCS := Lib.hid hcs
  have HB4 := Lib.hid hb4
  clear h hx5 hb4 hb1 hcs hbt
  go_enter Try.func78, Try.ntmps78
  go_upto_region 1 with fail
  rw [EX1.out, EX2.out, EN2.out, EN1.out]
  go_upto_region 2 with (first | (refine wpList_buildTo rfl 36 _ rfl (some 11) rfl cs ?_ ?_; (focus (simp only [List.map_toArray, List.map_cons, List.map_nil]; exact HBT.out))) | (rw [EX4.out, EN4.out]; refine wpList_store_row rfl 36 _ _ rfl n4 cs rfl rfl _ _ HB4.out hcl hcz hone ?_; rw [← HX5.out]))
  have hbi : x5.heap[n1]? = some (.cells #[.int .i64 ik, .int .i64 ifr, .int .i64 ito, .int .i64 iv, .int .i64 im, .int .i64 qv, .int .i64 qb, vq, .int .i64 tv, vt, vh, .int .i64 hv, .int .i64 hb, vg, .int .i64 ec, .int .u64 en, .int .u64 ef, .int .i64 ei, vb] 36 (0, 0)) := H5.out.nth 2 rfl
  have q0 : x5.cell? ⟨n1, 0, none⟩ = some (.int .i64 ik) := (cell_of_blk hbi 0).trans rfl
  have d1 : (ik == 1) = false := by simp; omega
  have d2 : (ik == 2) = false := by simp; omega
  have d3 : (ik == 3) = false := by simp; omega
  have d4 : (ik == 4) = false := by simp; omega
  have d5 : (ik == 5) = false := by simp; omega
  have d6 : (ik == 6) = false := by simp; omega
  have d7 : (ik == 7) = false := by simp; omega
  have d8 : (ik == 8) = false := by simp; omega
  have e1 : decide (ik = 1) = false := by simp; omega
  have e2 : decide (ik = 2) = false := by simp; omega
  have e3 : decide (ik = 3) = false := by simp; omega
  have e4 : decide (ik = 4) = false := by simp; omega
  have e5 : decide (ik = 5) = false := by simp; omega
  have e6 : decide (ik = 6) = false := by simp; omega
  have e7 : decide (ik = 7) = false := by simp; omega
  have e8 : decide (ik = 8) = false := by simp; omega
  have hc2 : x5.heap[n2]? = some (.cells #[.int .i64 0, .int .i64 0, .int .i64 0, .int .i64 0, .int .i64 0, .int .i64 0, .int .i64 0, .slice none 0 0, .int .i64 0, .slice none 0 0, .slice none 0 0, .int .i64 0, .int .i64 0, .slice none 0 0, .int .i64 0, .int .u64 0, .int .u64 0, .int .i64 0, .slice none 0 0] 36 (0, 0)) := H5.out.nth 1 rfl
  obtain ⟨co, hco⟩ : ∃ co : Array Value, co = #[.int .i64 0, .int .i64 0, .int .i64 0, .int .i64 0, .int .i64 0, .int .i64 0, .int .i64 0, .slice none 0 0, .int .i64 0, .slice none 0 0, .slice none 0 0, .int .i64 0, .int .i64 0, .slice none 0 0, .int .i64 0, .int .u64 0, .int .u64 0, .int .i64 0, .slice none 0 0] := ⟨_, rfl⟩
  have hone2 : co.all (·.oneCell') = true := by rw [hco]; simp [Value.oneCell']
  have hcl2 : (Try.prog.info? 36).map (·.size) = some co.size := by rw [hco]; exact size19
  have hcz2 : (#[.int .i64 0, .int .i64 0, .int .i64 0, .int .i64 0, .int .i64 0, .int .i64 0, .int .i64 0, .slice none 0 0, .int .i64 0, .slice none 0 0, .slice none 0 0, .int .i64 0, .int .i64 0, .slice none 0 0, .int .i64 0, .int .u64 0, .int .u64 0, .int .i64 0, .slice none 0 0] : Array Value).size = co.size := by rw [hco]
  obtain ⟨y9, hy9⟩ : ∃ y, y = x5.setRow n2 co := ⟨_, rfl⟩
  have hr9 : y9.heap[n2]? = some (.cells co 36 (0, 0)) := by rw [hy9]; exact setRow_heap _ n2 _ co _ _ hc2
  have H9 : Hid (Sys y9 m l) := by rw [hy9]; exact (H5.out.tail.store ((Chg.refl (· = n2) x5).row co) (setRow_heap _ n2 _ co _ _ hc2)).tail.tail
  have HCO := Lib.hid hco
  have HY9 := Lib.hid hy9
  clear hco hy9
  have hz3 : Try.prog.built 36 [] = some co := by rw [HCO.out]; rfl
  have HZ3 := Lib.hid hz3
  clear hz3 hk
  go_wp2_with (first | (refine wpList_buildTo rfl 36 _ rfl (some 14) rfl co ?_ ?_; (focus (simp only [List.map_toArray, List.map_nil]; exact HZ3.out))) | (refine wpList_store_row rfl 36 _ _ rfl n2 co rfl rfl _ _ hc2 hcl2 hcz2 hone2 ?_; rw [← HY9.out]))
  refine bodyPost_ret (results_cell_tmp rfl _ _ n2 _ _ _ _ rfl hr9 Try.underlying36 rfl hcl2) rfl ?_
  refine ⟨?_, H9.out⟩
  rw [HCO.out]
  try rfl
end
end Go.Proofs.Ytcfhkpjheemkgaa
