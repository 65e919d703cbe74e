/-
  A block as a value: its cells; blok.Still: the same in memory of its own.
-/
import Derived.Test.YtcfhkpjheemkgaaCells
import Derived.Test.YtcfhkpjheemkgaaStage
namespace Go.Proofs.Ytcfhkpjheemkgaa
set_option linter.unusedSectionVars false
set_option linter.unnecessarySimpa false
set_option linter.unusedSimpArgs false
set_option linter.unusedVariables false
open Go.RowKit Go.MapKept

structure BlkX where
  view : Int
  author : Int
  jv : Int
  jb : Int
  by_ : List Int
  envs : List EnvX
instance : Inhabited BlkX := ⟨⟨0, 0, 0, 0, [], []⟩⟩
def blkCells (b : BlkX) (u v : Value) : List Value := [.int .i64 b.view, .int .i64 b.author, .int .i64 b.jv, .int .i64 b.jb, u, v]
/-- cs are the cells of a block b, what it shows lies in S. -/
def BlkV (S : Nat → Prop) (w : World) (cs : List Value) (b : BlkX) : Prop := ∃ u v, cs = blkCells b u v ∧ IntsIn S w u b.by_ ∧ EnvsIn S w v b.envs
section
variable {S S' : Nat → Prop} {w w' : World} {cs : List Value} {b : BlkX}
theorem BlkV.chg {X : Nat → Prop} (h : BlkV S w cs b) (hc : Chg X w w') (hs : ∀ b, S b → ¬ X b) : BlkV S w' cs b := by
  obtain ⟨u, v, e, h1, h2⟩ := h
  exact ⟨u, v, e, h1.chg hc hs, h2.chg hc hs⟩
theorem BlkV.chg0 (h : BlkV S w cs b) (hc : Chg none_ w w') : BlkV S w' cs b := h.chg hc fun _ _ h => h
theorem BlkV.mono (h : BlkV S w cs b) (hs : ∀ b, S b → b < w.heap.size → S' b) : BlkV S' w cs b := by
  obtain ⟨u, v, e, h1, h2⟩ := h
  exact ⟨u, v, e, h1.mono hs, h2.mono hs⟩
end

set_option maxRecDepth 100000 in
set_option maxHeartbeats 4000000 in
theorem blok_still (S : Nat → Prop) (cs : List Value) (b : BlkX) (w : World) (h : BlkV S w cs b) :
    Calls Try.prog 91 #[.agg cs.toArray] w fun e w' => ∃ cs', e = .returned (.agg cs'.toArray) ∧ BlkV (fun k => w.heap.size ≤ k) w' cs' b ∧ Below w.heap.size w w' := by
  obtain ⟨u, v, rfl, hu, hv⟩ := h
  obtain ⟨bv, ba, jv, jb, by_, envs⟩ := b
  dsimp only at hu hv
  obtain ⟨n0, hn0⟩ : ∃ n0, n0 = w.heap.size := ⟨_, rfl⟩
  obtain ⟨w1, hw1⟩ : ∃ w1, w1 = (w.alloc (.cells #[.int .i64 bv, .int .i64 ba, .int .i64 jv, .int .i64 jb, u, v] 65 (0, 0))).alloc (.cells #[.int .i64 0, .int .i64 0, .int .i64 0, .int .i64 0, .slice none 0 0, .slice none 0 0] 65 (0, 0)) := ⟨_, rfl⟩
  have hB1 : Below w.heap.size w w1 := by rw [hw1]; exact ((Below.refl _ _).alloc (Nat.le_refl _) _).alloc (by simp) _
  have hb0 : w1.heap[n0]? = some (.cells #[.int .i64 bv, .int .i64 ba, .int .i64 jv, .int .i64 jb, u, v] 65 (0, 0)) := by rw [hw1]; exact ((Chg.refl none_ _).alloc _).blk (alloc_new w _ n0 hn0) (fun h => h)
  have hb1 : w1.heap[n0 + 1]? = some (.cells #[.int .i64 0, .int .i64 0, .int .i64 0, .int .i64 0, .slice none 0 0, .slice none 0 0] 65 (0, 0)) := by rw [hw1]; exact alloc_new _ _ _ (by simp [hn0])
  obtain ⟨a1, c1, rfl, -⟩ := id hu
  obtain ⟨a2, c2, rfl, -⟩ := id hv
  have hBd : Below w.heap.size w w1.drew := hB1.trans ((Chg.refl none_ _).drew.below (Nat.le_refl _) (fun _ h => h.elim) |>.mono hB1.size)
  have hb0d : w1.drew.heap[n0]? = some (.cells #[.int .i64 bv, .int .i64 ba, .int .i64 jv, .int .i64 jb, .slice a1 by_.length c1, .slice a2 envs.length c2] 65 (0, 0)) := hb0
  have hb1d : w1.drew.heap[n0 + 1]? = some (.cells #[.int .i64 0, .int .i64 0, .int .i64 0, .int .i64 0, .slice none 0 0, .slice none 0 0] 65 (0, 0)) := hb1
  have hcell : ∀ x, Chg none_ w1.drew x → x.cell? ⟨n0, 4, none⟩ = some (.slice a1 by_.length c1) ∧ x.cell? ⟨n0, 5, none⟩ = some (.slice a2 envs.length c2) := fun x hx => ⟨(cell_of_blk (hx.blk hb0d (fun h => h)) 4).trans rfl, (cell_of_blk (hx.blk hb0d (fun h => h)) 5).trans rfl⟩
  have HC := Lib.hid hcell
  have HU := Lib.hid (hu.chg0 (Chg.of_below hBd))
  have HV := Lib.hid (hv.chg0 (Chg.of_below hBd))
  have HB0 := Lib.hid hb0d
  have HB1 := Lib.hid hb1d
  have hS1 := hcell _ (Chg.refl _ _)
  have hn1 : n0 < w1.drew.heap.size ∧ n0 + 1 < w1.drew.heap.size := ⟨blk_lt hb0d, blk_lt hb1d⟩
  change Calls Try.prog 91 #[.agg #[.int .i64 bv, .int .i64 ba, .int .i64 jv, .int .i64 jb, .slice a1 by_.length c1, .slice a2 envs.length c2]] w _
  clear hu hv hcell hb0 hb1 hb0d hb1d
  go_enter Try.func91, Try.ntmps91
  go_wp2_with fail
  rw [← hn0, ← hw1]
  have HN0 := Lib.hid hn0
  clear hn0 hw1
  refine wp_region_stage (fun x : World => x.cell? ⟨n0, 4, none⟩ = some (.slice a1 by_.length c1) ∧ x.cell? ⟨n0, 5, none⟩ = some (.slice a2 envs.length c2)) [9, 11] (by kernel_rfl) ?_
  refine takeW 0 (some 3) (v := ?_) rfl (by rfl) (by kernel_rfl) (by kernel_rfl) (by kernel_rfl) (fun _ _ _ h => h) (by kernel_rfl) (by kernel_rfl) ?_ (Stage.still (by assumption)) ?_
  rotate_left
  · (intro w; go_simp; try (with_reducible rfl))
  try simp only [Act.put, List.setIfInBounds_toArray, List.set_cons_zero, List.set_cons_succ]
  refine takeW 1 (some 4) (v := ?_) rfl (by rfl) (by kernel_rfl) (by kernel_rfl) (by kernel_rfl) (fun _ _ _ h => h) (by kernel_rfl) (by kernel_rfl) ?_ (Stage.still (by assumption)) ?_
  rotate_left
  · (intro w; go_simp; try (with_reducible rfl))
  try simp only [Act.put, List.setIfInBounds_toArray, List.set_cons_zero, List.set_cons_succ]
  refine takeS 2 (some 5) (v := ?_) rfl (by rfl) (by kernel_rfl) (by kernel_rfl) (by kernel_rfl) (fun _ _ _ h => h) (by kernel_rfl) (by kernel_rfl) (by kernel_rfl) ?_ (by assumption) ?_
  rotate_left
  · (intro w hSw; (try dsimp only at hSw); go_simp; try (with_reducible rfl))
  try simp only [Act.put, List.setIfInBounds_toArray, List.set_cons_zero, List.set_cons_succ]
  refine takeW 4 (some 7) (v := ?_) rfl (by rfl) (by kernel_rfl) (by kernel_rfl) (by kernel_rfl) (fun _ _ _ h => h) (by kernel_rfl) (by kernel_rfl) ?_ (Stage.still (by assumption)) ?_
  rotate_left
  · (intro w; go_simp; try (with_reducible rfl))
  try simp only [Act.put, List.setIfInBounds_toArray, List.set_cons_zero, List.set_cons_succ]
  refine takeS 5 (some 8) (v := ?_) rfl (by rfl) (by kernel_rfl) (by kernel_rfl) (by kernel_rfl) (fun _ _ _ h => h) (by kernel_rfl) (by kernel_rfl) (by kernel_rfl) ?_ (by assumption) ?_
  rotate_left
  · (intro w hSw; (try dsimp only at hSw); go_simp; try (with_reducible rfl))
  try simp only [Act.put, List.setIfInBounds_toArray, List.set_cons_zero, List.set_cons_succ]
  refine oneT 3 (by kernel_rfl) rfl (fun K hK => ?_)
  go_simp
  go_at_call 84
  refine (clone_ints S _ by_ _ HU.out).mono ?_
  rintro e w2 ⟨v1, rfl, ho1, hq1, hB2⟩
  obtain ⟨x1, y1, rfl, -⟩ := id ho1.open
  have hS2 := HC.out w2 (Chg.of_below hB2)
  go_wp2_with fail
  refine hK.out _ _ (Stage.still ?_) (fun hSt => ?_)
  · (try dsimp only); first | exact hS3 | exact hS2
  clear hK K hSt
  try simp only [Act.put, List.setIfInBounds_toArray, List.set_cons_zero, List.set_cons_succ]
  refine takeW 7 (some 10) (v := ?_) rfl (by rfl) (by kernel_rfl) (by kernel_rfl) (by kernel_rfl) (fun _ _ _ h => h) (by kernel_rfl) (by kernel_rfl) ?_ (Stage.still (by assumption)) ?_
  rotate_left
  · (intro w; go_simp; try (with_reducible rfl))
  try simp only [Act.put, List.setIfInBounds_toArray, List.set_cons_zero, List.set_cons_succ]
  refine takeW 8 (some 11) (v := ?_) rfl (by rfl) (by kernel_rfl) (by kernel_rfl) (by kernel_rfl) (fun _ _ _ h => h) (by kernel_rfl) (by kernel_rfl) ?_ (Stage.still (by assumption)) ?_
  rotate_left
  · (intro w; go_simp; try (with_reducible rfl))
  try simp only [Act.put, List.setIfInBounds_toArray, List.set_cons_zero, List.set_cons_succ]
  refine oneT 6 (by kernel_rfl) rfl (fun K hK => ?_)
  go_simp
  go_at_call 112
  refine (clone_envs S _ envs _ (HV.out.chg0 (Chg.of_below hB2))).mono ?_
  rintro e w3 ⟨v2, rfl, ho2, hq2, hB3⟩
  obtain ⟨x2, y2, rfl, -⟩ := id ho2.open
  have hS3 := HC.out w3 ((Chg.of_below hB2).trans (Chg.of_below hB3))
  have hb3 := ((Chg.of_below (S := none_) hB2).trans (Chg.of_below hB3)).blk HB0.out (fun h => h)
  have f4 := frozen_of_blk hb3 4
  have f5 := frozen_of_blk hb3 5
  go_wp2_with fail
  refine hK.out _ _ (Stage.still ?_) (fun hSt => ?_)
  · (try dsimp only); first | exact hS3 | exact hS2
  clear hK K hSt
  try simp only [Act.put, List.setIfInBounds_toArray, List.set_cons_zero, List.set_cons_succ]
  refine oneT 9 (by kernel_rfl) rfl (fun K hK => ?_)
  go_simp
  refine hK.out _ _ (Stage.past (by kernel_rfl)) (fun hSt => ?_)
  clear hSt
  clear hK K
  try simp only [Act.put, List.setIfInBounds_toArray, List.set_cons_zero, List.set_cons_succ]
  refine takeW 10 (some 12) (v := ?_) rfl (by rfl) (by kernel_rfl) (by kernel_rfl) (by kernel_rfl) (fun _ _ _ h => h) (by kernel_rfl) (by kernel_rfl) ?_ (Stage.past (by kernel_rfl)) ?_
  rotate_left
  · (intro w; go_simp; try (with_reducible rfl))
  try simp only [Act.put, List.setIfInBounds_toArray, List.set_cons_zero, List.set_cons_succ]
  refine oneT 11 (by kernel_rfl) rfl (fun K hK => ?_)
  go_simp
  refine hK.out _ _ (Stage.past (by kernel_rfl)) (fun hSt => ?_)
  clear hSt
  clear hK K
  try simp only [Act.put, List.setIfInBounds_toArray, List.set_cons_zero, List.set_cons_succ]
  refine doneT (by kernel_rfl) ?_ _
  have hz0 : ((w3.setCell ⟨n0, 4, none⟩ (.slice x1 by_.length y1)).setCell ⟨n0, 5, none⟩ (.slice x2 envs.length y2)).heap[n0]? = some (.cells #[.int .i64 bv, .int .i64 ba, .int .i64 jv, .int .i64 jb, .slice x1 by_.length y1, .slice x2 envs.length y2] 65 (0, 0)) := setCell_same (i := 5) _ (setCell_same (i := 4) _ hb3)
  have hyz : Chg (· = n0) w3 ((w3.setCell ⟨n0, 4, none⟩ (.slice x1 by_.length y1)).setCell ⟨n0, 5, none⟩ (.slice x2 envs.length y2)) := ((Chg.refl (· = n0) w3).put 4 _).put 5 _
  generalize (w3.setCell ⟨n0, 4, none⟩ (.slice x1 by_.length y1)).setCell ⟨n0, 5, none⟩ (.slice x2 envs.length y2) = wz at *
  have hz1 : wz.heap[n0 + 1]? = some (.cells #[.int .i64 0, .int .i64 0, .int .i64 0, .int .i64 0, .slice none 0 0, .slice none 0 0] 65 (0, 0)) := hyz.blk (((Chg.of_below (S := none_) hB2).trans (Chg.of_below hB3)).blk HB1.out (fun h => h)) (by omega)
  have HO1 := Lib.hid ho1
  have HO2 := Lib.hid ho2
  clear hS1 hS2 hS3 hb3 f4 f5 ho1 ho2
  have z0 : wz.cell? ⟨n0, 0, none⟩ = some (.int .i64 bv) := (cell_of_blk hz0 0).trans rfl
  have z1 : wz.cell? ⟨n0, 1, none⟩ = some (.int .i64 ba) := (cell_of_blk hz0 1).trans rfl
  have z2 : wz.cell? ⟨n0, 2, none⟩ = some (.int .i64 jv) := (cell_of_blk hz0 2).trans rfl
  have z3 : wz.cell? ⟨n0, 3, none⟩ = some (.int .i64 jb) := (cell_of_blk hz0 3).trans rfl
  have z4 : wz.cell? ⟨n0, 4, none⟩ = some (.slice x1 by_.length y1) := (cell_of_blk hz0 4).trans rfl
  have z5 : wz.cell? ⟨n0, 5, none⟩ = some (.slice x2 envs.length y2) := (cell_of_blk hz0 5).trans rfl
  have zz0 : wz.cell? ⟨n0 + 1, 0, none⟩ = some (.int .i64 0) := (cell_of_blk hz1 0).trans rfl
  have zz1 : wz.cell? ⟨n0 + 1, 1, none⟩ = some (.int .i64 0) := (cell_of_blk hz1 1).trans rfl
  have zz2 : wz.cell? ⟨n0 + 1, 2, none⟩ = some (.int .i64 0) := (cell_of_blk hz1 2).trans rfl
  have zz3 : wz.cell? ⟨n0 + 1, 3, none⟩ = some (.int .i64 0) := (cell_of_blk hz1 3).trans rfl
  have zz4 : wz.cell? ⟨n0 + 1, 4, none⟩ = some (.slice none 0 0) := (cell_of_blk hz1 4).trans rfl
  have zz5 : wz.cell? ⟨n0 + 1, 5, none⟩ = some (.slice none 0 0) := (cell_of_blk hz1 5).trans rfl
  have f0 := frozen_of_blk hz1 0
  have f1 := frozen_of_blk hz1 1
  have f2 := frozen_of_blk hz1 2
  have f3 := frozen_of_blk hz1 3
  have f4 := frozen_of_blk hz1 4
  have f5 := frozen_of_blk hz1 5
  go_wp2_with fail
  have hw0 : (((((((wz).setCell ⟨n0 + 1, 0, none⟩ (.int .i64 bv)).setCell ⟨n0 + 1, 1, none⟩ (.int .i64 ba)).setCell ⟨n0 + 1, 2, none⟩ (.int .i64 jv)).setCell ⟨n0 + 1, 3, none⟩ (.int .i64 jb)).setCell ⟨n0 + 1, 4, none⟩ (.slice x1 by_.length y1)).setCell ⟨n0 + 1, 5, none⟩ (.slice x2 envs.length y2)).heap[n0 + 1]? = some (.cells #[.int .i64 bv, .int .i64 ba, .int .i64 jv, .int .i64 jb, .slice x1 by_.length y1, .slice x2 envs.length y2] 65 (0, 0)) := (setCell_same (i := 5) _ (setCell_same (i := 4) _ (setCell_same (i := 3) _ (setCell_same (i := 2) _ (setCell_same (i := 1) _ (setCell_same (i := 0) _ hz1))))))
  have hyf : Chg (· = n0 + 1) wz (((((((wz).setCell ⟨n0 + 1, 0, none⟩ (.int .i64 bv)).setCell ⟨n0 + 1, 1, none⟩ (.int .i64 ba)).setCell ⟨n0 + 1, 2, none⟩ (.int .i64 jv)).setCell ⟨n0 + 1, 3, none⟩ (.int .i64 jb)).setCell ⟨n0 + 1, 4, none⟩ (.slice x1 by_.length y1)).setCell ⟨n0 + 1, 5, none⟩ (.slice x2 envs.length y2)) := (((((((Chg.refl (· = n0 + 1) wz).put 0 _).put 1 _).put 2 _).put 3 _).put 4 _).put 5 _)
  generalize ((((((wz).setCell ⟨n0 + 1, 0, none⟩ (.int .i64 bv)).setCell ⟨n0 + 1, 1, none⟩ (.int .i64 ba)).setCell ⟨n0 + 1, 2, none⟩ (.int .i64 jv)).setCell ⟨n0 + 1, 3, none⟩ (.int .i64 jb)).setCell ⟨n0 + 1, 4, none⟩ (.slice x1 by_.length y1)).setCell ⟨n0 + 1, 5, none⟩ (.slice x2 envs.length y2) = wf at *
  clear z0 z1 z2 z3 z4 z5 zz0 zz1 zz2 zz3 zz4 zz5 f0 f1 f2 f3 f4 f5 hz0 hz1
  (try simp only [Exit.inBlock, Exit.then])
  refine bodyPost_ret (results_cell_row rfl _ _ (n0 + 1) _ _ _ _ rfl hw0 Try.underlying65 rfl (by kernel_rfl)) rfl ?_
  have hn0 := HN0.out
  have hs1 := hB1.size
  have hsd : w.heap.size ≤ w1.drew.heap.size := hBd.size
  have hq3 := hB2.size
  have hq4 := hB3.size
  have hq5 := hyz.size
  refine ⟨_, rfl, ⟨_, _, rfl, ?_, ?_⟩, ?_⟩
  · exact ((((HO1.out.below hB3).chg hyz (fun k hk e => by have := hq1 k hk; omega)).chg hyf (fun k hk e => by have := hq1 k hk; omega))).sliceIn (by obtain ⟨_, _, _, _, _, _, h⟩ := HU.out; exact h) (fun k hk => by have := hq1 k hk; omega)
  · exact ((HO2.out.chg hyz (fun k hk e => by have := hq2 k hk; omega)).chg hyf (fun k hk e => by have := hq2 k hk; omega)).sliceIn (by obtain ⟨_, _, _, _, _, _, h⟩ := HV.out; exact h) (fun k hk => by have := hq2 k hk; omega)
  · exact ((hBd.trans (hB2.mono hBd.size)).trans (hB3.mono (by omega))).trans ((hyz.below (B := w.heap.size) (by omega) (fun k e => by omega)).trans (hyf.below (B := w.heap.size) (by omega) (fun k e => by omega)))
end Go.Proofs.Ytcfhkpjheemkgaa
