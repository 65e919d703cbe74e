/-
  A new tree; the log of what is fixed: its things, New, Tip, Has; a new pool.
-/
import Derived.Test.YtcfhkpjheemkgaaGreatTree
namespace Go.Proofs.YtcfhkpjheemkgaaGreat
set_option linter.unusedSectionVars false
set_option linter.unnecessarySimpa false
set_option linter.unusedSimpArgs false
set_option linter.unusedVariables false
open Go.RowKit Go.MapKept

/-- The log: its tip, what is fixed, and the digests of that. -/
def logF (pg p pt : Nat) (tip : Int) (L : List EnvX) (I : List Int) : Value × Nat → List Thing := fun x => [blk pg (.cells #[.pointer (some ⟨p, 0, none⟩), .pointer (some ⟨pt, 0, none⟩), .int .i64 tip, x.1, .map (some x.2)] 84 (0, 0)), own 55 4 x.1 L.length (flatE L), mapT intKey x.2 (I.map fun d => (d, .int .i64 1))]
def logT (pg p pt : Nat) (tip : Int) (L : List EnvX) (I : List Int) : Thing := ex (logF pg p pt tip L I)
def poolF (pp p : Nat) (most : Int) (L : List EnvX) : Value → List Thing := fun v => [blk pp (.cells #[.pointer (some ⟨p, 0, none⟩), .int .i64 most, v] 86 (0, 0)), own 55 4 v L.length (flatE L)]
def poolT (pp p : Nat) (most : Int) (L : List EnvX) : Thing := ex (poolF pp p most L)
section
variable {w w' : World} {m : Nat → Thing} {l : List Thing} {p pt pg pp mb : Nat} {d : Wd} {X : WX} {R tip most : Int} {T : List (Int × BlkX)} {b : BlkX} {L : List EnvX} {I : List Int}
theorem Sys.toBlocks (h : Sys w m (mapT intKey mb [(R, .agg #[.int .i64 0, .int .i64 0, .int .i64 0, .int .i64 0, .slice none 0 0, .slice none 0 0])] :: l)) : Sys w m (blocksT mb [(R, zeroBlk)] :: l) := by
  obtain ⟨F, ⟨h1, rfl⟩, h2, _, h4⟩ := h.head
  refine h4 w _ ⟨(· = mb), ⟨[(R, bval zeroBlk none 0 none 0, zeroBlk)], h1, rfl, fun e he => ?_, rfl, h2⟩, fun k hk => .inl hk, Chg.refl _ _⟩
  simp at he; subst he; exact zeroBlk_at _ _
set_option maxRecDepth 100000 in
set_option maxHeartbeats 1000000 in
theorem tree_new (h : Sys w m l) (hw : m 0 = worldT p d X) (hT : X.T.length ≤ 1000000000) : Calls Tryz.prog 7 #[.pointer (some ⟨p, 0, none⟩)] w fun e w' => ∃ pt, e = .returned (.pointer (some ⟨pt, 0, none⟩)) ∧ Sys w' (upd m 0 (worldT p d (X.digest rootB))) (treeT pt p (dg X.T rootB) [(dg X.T rootB, zeroBlk)] :: l) := by
  have HR := Lib.hid (cert_root h hw hT)
  have hmm := @run_makeMap Tryz.prog
  clear h hT
  go_enter Tryz.func7, Tryz.ntmps7
  go_wp2_with fail
  refine HR.out.mono ?_
  rintro e w1 ⟨rfl, h1⟩
  obtain ⟨R, hR⟩ : ∃ R, R = dg X.T rootB := ⟨_, rfl⟩
  rw [← hR]
  obtain ⟨mb, hmb⟩ : ∃ n, n = w1.heap.size := ⟨_, rfl⟩
  obtain ⟨w2, hw2⟩ : ∃ y, y = w1.alloc (.map #[] 0) := ⟨_, rfl⟩
  have h2 := h1.push (t := mapT intKey mb []) ((Chg.refl _ _).alloc (.map #[] 0)) (F := (· = mb)) ⟨MapOf.made _ _ hmb, rfl⟩ (fun k e => by have e : k = _ := e; omega)
  rw [← hw2] at h2
  obtain ⟨w3, hu, hmu, hcu, -⟩ := h2.getMap.update (P := Tryz.prog) Tryz.underlying79 Tryz.underlying3 R (.agg #[.int .i64 0, .int .i64 0, .int .i64 0, .int .i64 0, .slice none 0 0, .slice none 0 0])
  have h3 := (h2.mapTo hmu hcu).toBlocks
  have hmk := hmm 79 w1
  rw [← hw2, ← hmb] at hmk
  simp only [intKey] at hu
  have h4 := h3.alloc (.cells #[.pointer (some ⟨p, 0, none⟩), .int .i64 R, .map (some mb)] 81 (0, 0)) rfl
  have H4 : Hid (Sys (w3.alloc (.cells #[.pointer (some ⟨p, 0, none⟩), .int .i64 R, .map (some mb)] 81 (0, 0))) (upd m 0 (worldT p d (X.digest rootB))) (treeT w3.heap.size p R [(R, zeroBlk)] :: l)) := Sys.close (f := treeF w3.heap.size p R _) mb h4
  have HRR := Lib.hid hR
  clear h1 h2 h3 h4 hR hmu hcu hw2 hmb HR hmm
  go_wp2_with fail
  go_ret
  exact ⟨_, rfl, by rw [← HRR.out]; exact H4.out⟩
set_option maxRecDepth 100000 in
set_option maxHeartbeats 1000000 in
theorem clog_new (h : Sys w m l) (hm : m 1 = treeT pt p R T) : Calls Tryz.prog 8 #[.pointer (some ⟨p, 0, none⟩), .pointer (some ⟨pt, 0, none⟩)] w fun e w' => ∃ pg, e = .returned (.pointer (some ⟨pg, 0, none⟩)) ∧ Sys w' m (logT pg p pt R [] [] :: l) := by
  have HR := Lib.hid (tree_root h hm)
  have hmm := @run_makeMap Tryz.prog
  have h2 := h.push (t := mapT intKey w.heap.size []) ((Chg.refl _ _).alloc (.map #[] 0)) (F := (· = w.heap.size)) ⟨MapOf.made _ _ rfl, rfl⟩ (fun k e => by have e : k = _ := e; omega)
  have h3 := (h2.push (F := fun _ => False) (t := own 55 4 (.slice none 0 0) 0 []) (Chg.refl _ _) ⟨Own.nil _ _ _, by funext k; simp [Value.ownBlock]⟩ (fun _ h => h.elim)).alloc (.cells #[.pointer (some ⟨p, 0, none⟩), .pointer (some ⟨pt, 0, none⟩), .int .i64 R, .slice none 0 0, .map (some w.heap.size)] 84 (0, 0)) (n := w.heap.size + 1) (by simp)
  have H3 := Lib.hid (Sys.close (f := logF (w.heap.size + 1) p pt R [] []) (.slice none 0 0, w.heap.size) h3)
  clear h h2 h3
  go_enter Tryz.func8, Tryz.ntmps8
  go_wp2_with fail
  refine HR.out.mono ?_
  rintro e w1 ⟨rfl, rfl⟩
  clear HR
  go_wp2_with fail
  go_ret
  exact ⟨_, rfl, H3.out⟩
set_option maxRecDepth 100000 in
set_option maxHeartbeats 1000000 in
theorem clog_tip (h : Sys w m l) (hm : m 2 = logT pg p pt tip L I) : Calls Tryz.prog 26 #[.pointer (some ⟨pg, 0, none⟩)] w fun e w' => e = .returned (.int .i64 tip) ∧ w = w' := by
  obtain ⟨x, h1⟩ := (h.lift 2 hm).open
  replace h1 : Sys w (upd m 2 emp) (blk pg (.cells #[.pointer (some ⟨p, 0, none⟩), .pointer (some ⟨pt, 0, none⟩), .int .i64 tip, x.1, .map (some x.2)] 84 (0, 0)) :: own 55 4 x.1 L.length (flatE L) :: mapT intKey x.2 (I.map fun d => (d, .int .i64 1)) :: l) := h1
  obtain ⟨c0, c1, c2, c3, c4⟩ := cells5 (h1.nth 0 rfl)
  clear h h1 hm
  go_enter Tryz.func26, Tryz.ntmps26
  go_wp2_with fail
  go_ret
  exact ⟨rfl, rfl⟩
set_option maxRecDepth 100000 in
set_option maxHeartbeats 1000000 in
theorem pool_new (n : Int) (h : Sys w m l) : Calls Tryz.prog 9 #[.pointer (some ⟨p, 0, none⟩), .int .i64 n] w fun e w' => ∃ pp, e = .returned (.pointer (some ⟨pp, 0, none⟩)) ∧ Sys w' m (poolT pp p (imin (imax n 0) 1000) [] :: l) := by
  have hmax := @run_imax Tryz.prog
  have hmin := @run_imin Tryz.prog
  have h3 := (h.push (F := fun _ => False) (t := own 55 4 (.slice none 0 0) 0 []) (Chg.refl _ _) ⟨Own.nil _ _ _, by funext k; simp [Value.ownBlock]⟩ (fun _ h => h.elim)).alloc (.cells #[.pointer (some ⟨p, 0, none⟩), .int .i64 (imin (imax n 0) 1000), .slice none 0 0] 86 (0, 0)) rfl
  have H3 := Lib.hid (Sys.close (f := poolF w.heap.size p (imin (imax n 0) 1000) []) (.slice none 0 0) h3)
  clear h h3
  go_enter Tryz.func9, Tryz.ntmps9
  go_wp2_with fail
  go_ret
  exact ⟨_, rfl, H3.out⟩
end
end Go.Proofs.YtcfhkpjheemkgaaGreat
