/-
  The log: Has, and Commit.
-/
import Derived.Test.YtcfhkpjheemkgaaGreatPath
namespace Go.Proofs.YtcfhkpjheemkgaaGreat
set_option linter.unusedSectionVars false
set_option linter.unnecessarySimpa false
set_option linter.unusedSimpArgs false
set_option linter.unusedVariables false
open Go.RowKit Go.MapKept

def logStep (X : WX) (s : List EnvX × List Int) (e : EnvX) : List EnvX × List Int := if dg X.T (envB e) ∈ s.2 then s else (s.1 ++ [e], s.2 ++ [dg X.T (envB e)])
def logAll (X : WX) (E : List EnvX) (s : List EnvX × List Int) : List EnvX × List Int := E.foldl (logStep X) s
theorem logAll_snoc (X : WX) (E : List EnvX) (e : EnvX) (s : List EnvX × List Int) : logAll X (E ++ [e]) s = logStep X (logAll X E s) e := by unfold logAll; rw [List.foldl_append]; rfl
theorem logAll_append (X : WX) (E E' : List EnvX) (s : List EnvX × List Int) : logAll X (E ++ E') s = logAll X E' (logAll X E s) := by unfold logAll; rw [List.foldl_append]
theorem logAll_len (X : WX) (E : List EnvX) : ∀ s : List EnvX × List Int, (logAll X E s).1.length ≤ s.1.length + E.length := by
  induction E with
  | nil => intro s; exact Nat.le_refl _
  | cons e E ih =>
    intro s
    have h1 := ih (logStep X s e)
    have h2 : (logStep X s e).1.length ≤ s.1.length + 1 := by unfold logStep; split <;> simp
    show (logAll X E (logStep X s e)).1.length ≤ _
    simp only [List.length_cons]
    omega
/-- What is fixed behind the blocks of a way. -/
def commitV (X : WX) (T : List (Int × BlkX)) (W : List Int) (s : List EnvX × List Int) : List EnvX × List Int := logAll X (W.flatMap fun x => (bk T x).envs) s
theorem commitV_snoc (X : WX) (T : List (Int × BlkX)) (W : List Int) (x : Int) (s : List EnvX × List Int) : commitV X T (W ++ [x]) s = logAll X (bk T x).envs (commitV X T W s) := by
  unfold commitV; rw [List.flatMap_append, logAll_append]; simp
def tipV (tip : Int) (W : List Int) : Int := W.getLastD tip
theorem wayF_len (T : List (Int × BlkX)) (R fr : Int) : ∀ (k : Nat) (x : Int) (L : List Int), wayF T R fr k x = some L → L.length ≤ k := by
  intro k
  induction k with
  | zero => intro x L h; cases h
  | succ k ih =>
    intro x L h
    unfold wayF at h
    split at h
    · cases h; simp
    · split at h
      · cases h
      · cases hw : wayF T R fr k (bk T x).jb with
        | none => rw [hw] at h; cases h
        | some L' => rw [hw] at h; cases h; have := ih _ _ hw; simp; omega
theorem PathTo.uni {m : Nat → Thing} {l : List Thing} {o : Option (List Int)} {e : Ending} {w' : World} (h : PathTo m l o e w') : ∃ v, e = .returned (.tuple #[v, .bool o.isSome]) ∧ Sys w' m (own 3 1 v (o.getD []).length ((o.getD []).map (Value.int .i64)) :: l) := by
  cases o with
  | none => exact ⟨_, h.1, h.2.push (F := fun _ => False) (t := own 3 1 (.slice none 0 0) 0 []) (Chg.refl _ _) ⟨Own.nil _ _ _, by funext k; simp [Value.ownBlock]⟩ (fun _ h => h.elim)⟩
  | some L => exact h
theorem alook_in (I : List Int) (D : Int) : (alook (I.map fun d => (d, Value.int .i64 1)) D).getD (.int .i64 0) = if D ∈ I then .int .i64 1 else .int .i64 0 := by
  induction I with
  | nil => rfl
  | cons a I ih =>
    simp only [List.map_cons, alook]
    by_cases h : a = D
    · subst h; simp
    · rw [if_neg h, ih]
      have : (D ∈ a :: I) ↔ D ∈ I := by simp; intro e; exact (h e.symm).elim
      by_cases hi : D ∈ I
      · rw [if_pos hi, if_pos (this.2 hi)]
      · rw [if_neg hi, if_neg (fun e => hi (this.1 e))]
theorem aset_in (I : List Int) (D : Int) (h : D ∉ I) : aset (I.map fun d => (d, Value.int .i64 1)) D (.int .i64 1) = (I ++ [D]).map fun d => (d, Value.int .i64 1) := by
  induction I with
  | nil => rfl
  | cons a I ih =>
    have h1 : ¬ a = D := fun e => h (by rw [e]; exact .head _)
    simp only [List.map_cons, aset, List.cons_append]
    rw [if_neg h1, ih (fun e => h (.tail _ e))]
section
variable {w w' : World} {m : Nat → Thing} {l : List Thing} {p pt pg : Nat} {d : Wd} {X : WX} {R tip : Int} {T : List (Int × BlkX)} {L : List EnvX} {I : List Int}
theorem Sys.logCells (h : Sys w m l) (hm : m 2 = logT pg p pt tip L I) : w.cell? ⟨pg, 0, none⟩ = some (.pointer (some ⟨p, 0, none⟩)) ∧ w.cell? ⟨pg, 1, none⟩ = some (.pointer (some ⟨pt, 0, none⟩)) ∧ w.cell? ⟨pg, 2, none⟩ = some (.int .i64 tip) := by
  obtain ⟨x, h1⟩ := (h.lift 2 hm).open
  have hb : w.heap[pg]? = some (.cells #[.pointer (some ⟨p, 0, none⟩), .pointer (some ⟨pt, 0, none⟩), .int .i64 tip, x.1, .map (some x.2)] 84 (0, 0)) := h1.getBlk
  exact ⟨cell_of_blk hb 0, cell_of_blk hb 1, cell_of_blk hb 2⟩
set_option maxRecDepth 100000 in
set_option maxHeartbeats 2000000 in
theorem clog_has (D : Int) (h : Sys w m l) (hm : m 2 = logT pg p pt tip L I) : Calls Tryz.prog 61 #[.pointer (some ⟨pg, 0, none⟩), .int .i64 D] w fun e w' => e = .returned (.bool (decide (D ∈ I))) ∧ w = w' := by
  obtain ⟨x, h1⟩ := (h.lift 2 hm).open
  replace h1 : Sys w (upd m 2 emp) (blk pg (.cells #[.pointer (some ⟨p, 0, none⟩), .pointer (some ⟨pt, 0, none⟩), .int .i64 tip, x.1, .map (some x.2)] 84 (0, 0)) :: own 55 4 x.1 L.length (flatE L) :: mapT intKey x.2 (I.map fun d => (d, .int .i64 1)) :: l) := h1
  obtain ⟨c0, c1, c2, c3, c4⟩ := cells5 (h1.nth 0 rfl)
  have hl := h1.tail.tail.getMap.lookup (P := Tryz.prog) Tryz.underlying82 Tryz.underlying3 (zeroInt w) D false
  simp only [Bool.false_eq_true, if_false, intKey] at hl
  rw [alook_in] at hl
  clear h h1 hm
  by_cases hd : D ∈ I
  · rw [if_pos hd] at hl
    rw [decide_eq_true hd]
    clear hd
    go_enter Tryz.func61, Tryz.ntmps61
    go_wp2_with fail
    go_ret
    exact ⟨rfl, rfl⟩
  · rw [if_neg hd] at hl
    rw [decide_eq_false hd]
    clear hd
    go_enter Tryz.func61, Tryz.ntmps61
    go_wp2_with fail
    go_ret
    exact ⟨rfl, rfl⟩
set_option maxRecDepth 100000 in
set_option maxHeartbeats 8000000 in
theorem clog_commit_back (x0 : Int) (hT : TreeInv T R) (hcap : ∀ x, (bk T x).view ≤ 90000) (hb : (pathV T R x0 tip).isSome = true) (hm1 : m 1 = treeT pt p R T) (hm2 : m 2 = logT pg p pt tip L I) (h : Sys w m l) :
    Calls Tryz.prog 21 #[.pointer (some ⟨pg, 0, none⟩), .int .i64 x0] w fun z w' => z = .returned (.bool true) ∧ Sys w' m l := by
  have HPA := Lib.hid (tree_path x0 tip hT (fun L hL => by have := wayF_len T R x0 _ _ _ hL; have := hcap tip; unfold rankT at *; omega) (fun x => by have := hcap x; omega) hm1 h.drew)
  have HB := Lib.hid hb
  have HM2 := Lib.hid hm2
  have H0 := Lib.hid h
  clear h hT hcap hb hm1 hm2
  go_enter Tryz.func21, Tryz.ntmps21
  go_upto_region 1 with fail
  refine wp_region_seq (fun x : World => x.cell? ⟨pg, 1, none⟩ = some (.pointer (some ⟨pt, 0, none⟩)) ∧ x.cell? ⟨pg, 2, none⟩ = some (.int .i64 tip)) anyW [9] [(0, 0, some 17), (1, 0, some 18), (2, 0, some 19), (3, 1, some 20), (4, 0, some 21), (5, 0, some 22), (6, 0, some 23), (7, 0, some 24), (8, 1, some 25), (9, 3, some 26), (10, 0, some 16), (11, 0, some 27), (12, 0, some 28), (13, 0, some 5), (14, 0, some 6)] (by kernel_rfl) (by kernel_rfl) (fun _ _ _ d _ h => by cases d <;> exact h) ⟨(H0.out.drew.logCells HM2.out).2.1, (H0.out.drew.logCells HM2.out).2.2⟩ anyW.i ?_
  repeat (first | (refine seqW (v := ?_) rfl rfl (by kernel_rfl) ?_ ?_; rotate_left; (focus ((intro x; go_simp); try (with_reducible rfl))); try simp only [Act.put, List.setIfInBounds_toArray, List.set_cons_zero, List.set_cons_succ]) | (refine seqS (v := ?_) rfl rfl (by kernel_rfl) ?_ ?_; rotate_left; (focus (intro x hS; first | (obtain ⟨hS1, hS2⟩ := hS; go_simp; try (with_reducible rfl)))); try simp only [Act.put, List.setIfInBounds_toArray, List.set_cons_zero, List.set_cons_succ]) | (refine seqX rfl rfl (by kernel_rfl) ?_; try simp only [Act.put, List.setIfInBounds_toArray, List.set_cons_zero, List.set_cons_succ]))
  refine seqT rfl rfl (fun K hK => ?_)
  go_simp
  go_at_call 59
  refine (HPA.out).mono ?_
  rintro z z1 hp
  obtain ⟨vw, rfl, h⟩ := hp.uni
  have H1 := Lib.hid h
  clear h hp
  refine hK.out _ _ anyW.i (fun _ => ?_)
  clear hK K
  try simp only [Act.put, List.setIfInBounds_toArray, List.set_cons_zero, List.set_cons_succ]
  repeat (first | (refine seqW (v := ?_) rfl rfl (by kernel_rfl) ?_ ?_; rotate_left; (focus ((intro x; go_simp); try (with_reducible rfl))); try simp only [Act.put, List.setIfInBounds_toArray, List.set_cons_zero, List.set_cons_succ]) | (refine seqS (v := ?_) rfl rfl (by kernel_rfl) ?_ ?_; rotate_left; (focus (intro x hS; first | (obtain ⟨hS1, hS2⟩ := hS; go_simp; try (with_reducible rfl)))); try simp only [Act.put, List.setIfInBounds_toArray, List.set_cons_zero, List.set_cons_succ]) | (refine seqX rfl rfl (by kernel_rfl) ?_; try simp only [Act.put, List.setIfInBounds_toArray, List.set_cons_zero, List.set_cons_succ]))
  refine seqE ?_
  rw [HB.out]
  go_wp2_with fail
  go_ret
  exact ⟨rfl, H1.out.tail⟩
theorem flat_take {α : Type} (f : Int → List α) (W : List Int) (j : Nat) : ((W.take j).flatMap f).length ≤ (W.flatMap f).length := by
  have h : W.flatMap f = (W.take j).flatMap f ++ (W.drop j).flatMap f := by rw [← List.flatMap_append, List.take_append_drop]
  rw [h, List.length_append]; omega
set_option maxRecDepth 100000 in
set_option maxHeartbeats 8000000 in
theorem clog_commit_on (x0 : Int) (W : List Int) (okb : Bool) (hT : TreeInv T R) (hcap : ∀ x, (bk T x).view ≤ 90000) (hin : ∀ x, ∀ e ∈ (bk T x).envs, envB e ∈ X.T ∧ e.wf) (hXT : X.T.length ≤ 1000000000) (hb : (pathV T R x0 tip).isSome = false) (hok : (pathV T R tip x0).isSome = okb) (hW : (pathV T R tip x0).getD [] = W)
    (hWl : W.length ≤ 100000) (hlen : L.length + (W.flatMap fun x => (bk T x).envs).length ≤ 100000) (hm0 : m 0 = worldT p d X) (hm1 : m 1 = treeT pt p R T) (hm2 : m 2 = logT pg p pt tip L I) (h : Sys w m l) :
    Calls Tryz.prog 21 #[.pointer (some ⟨pg, 0, none⟩), .int .i64 x0] w fun z w' => z = .returned (.bool okb) ∧ Sys w' (upd m 2 (logT pg p pt (tipV tip W) (commitV X T W (L, I)).1 (commitV X T W (L, I)).2)) l := by
  have HT := Lib.hid hT
  have HCAP := Lib.hid hcap
  have HIN := Lib.hid hin
  have HXT := Lib.hid hXT
  have HPA := Lib.hid (tree_path x0 tip hT (fun L hL => by have := wayF_len T R x0 _ _ _ hL; have := hcap tip; unfold rankT at *; omega) (fun x => by have := hcap x; omega) hm1 h.drew)
  have HB := Lib.hid hb
  have HOK := Lib.hid hok
  have HW := Lib.hid hW
  have HWL := Lib.hid hWl
  have HLEN := Lib.hid hlen
  have HM0 := Lib.hid hm0
  have HM1 := Lib.hid hm1
  have HM2 := Lib.hid hm2
  have H0 := Lib.hid h
  clear h hT hcap hin hXT hb hok hW hWl hlen hm0 hm1 hm2
  go_enter Tryz.func21, Tryz.ntmps21
  go_upto_region 1 with fail
  refine wp_region_seq (fun x : World => x.cell? ⟨pg, 1, none⟩ = some (.pointer (some ⟨pt, 0, none⟩)) ∧ x.cell? ⟨pg, 2, none⟩ = some (.int .i64 tip)) anyW [9] [(0, 0, some 17), (1, 0, some 18), (2, 0, some 19), (3, 1, some 20), (4, 0, some 21), (5, 0, some 22), (6, 0, some 23), (7, 0, some 24), (8, 1, some 25), (9, 3, some 26), (10, 0, some 16), (11, 0, some 27), (12, 0, some 28), (13, 0, some 5), (14, 0, some 6)] (by kernel_rfl) (by kernel_rfl) (fun _ _ _ d _ h => by cases d <;> exact h) ⟨(H0.out.drew.logCells HM2.out).2.1, (H0.out.drew.logCells HM2.out).2.2⟩ anyW.i ?_
  repeat (first | (refine seqW (v := ?_) rfl rfl (by kernel_rfl) ?_ ?_; rotate_left; (focus ((intro x; go_simp); try (with_reducible rfl))); try simp only [Act.put, List.setIfInBounds_toArray, List.set_cons_zero, List.set_cons_succ]) | (refine seqS (v := ?_) rfl rfl (by kernel_rfl) ?_ ?_; rotate_left; (focus (intro x hS; first | (obtain ⟨hS1, hS2⟩ := hS; go_simp; try (with_reducible rfl)))); try simp only [Act.put, List.setIfInBounds_toArray, List.set_cons_zero, List.set_cons_succ]) | (refine seqX rfl rfl (by kernel_rfl) ?_; try simp only [Act.put, List.setIfInBounds_toArray, List.set_cons_zero, List.set_cons_succ]))
  refine seqT rfl rfl (fun K hK => ?_)
  go_simp
  go_at_call 59
  refine (HPA.out).mono ?_
  rintro z z1 hp
  obtain ⟨vw, rfl, h⟩ := hp.uni
  have H1 := Lib.hid h
  clear h hp
  refine hK.out _ _ anyW.i (fun _ => ?_)
  clear hK K
  try simp only [Act.put, List.setIfInBounds_toArray, List.set_cons_zero, List.set_cons_succ]
  repeat (first | (refine seqW (v := ?_) rfl rfl (by kernel_rfl) ?_ ?_; rotate_left; (focus ((intro x; go_simp); try (with_reducible rfl))); try simp only [Act.put, List.setIfInBounds_toArray, List.set_cons_zero, List.set_cons_succ]) | (refine seqS (v := ?_) rfl rfl (by kernel_rfl) ?_ ?_; rotate_left; (focus (intro x hS; first | (obtain ⟨hS1, hS2⟩ := hS; go_simp; try (with_reducible rfl)))); try simp only [Act.put, List.setIfInBounds_toArray, List.set_cons_zero, List.set_cons_succ]) | (refine seqX rfl rfl (by kernel_rfl) ?_; try simp only [Act.put, List.setIfInBounds_toArray, List.set_cons_zero, List.set_cons_succ]))
  refine seqE ?_
  rw [HB.out]
  have H1b := Lib.hid H1.out.tail
  have HPB := Lib.hid (tree_path tip x0 HT.out (fun L hL => by have := wayF_len T R tip _ _ _ hL; have := HCAP.out x0; unfold rankT at *; omega) (fun x => by have := HCAP.out x; omega) HM1.out H1b.out.drew)
  clear H1 HPA
  go_upto_region 4 with fail
  refine wp_region_seq (fun x : World => x.cell? ⟨pg, 1, none⟩ = some (.pointer (some ⟨pt, 0, none⟩)) ∧ x.cell? ⟨pg, 2, none⟩ = some (.int .i64 tip)) anyW [9] [(0, 0, some 31), (1, 0, some 32), (2, 0, some 33), (3, 1, some 34), (4, 0, some 35), (5, 0, some 36), (6, 0, some 37), (7, 1, some 38), (8, 0, some 39), (9, 3, some 40), (10, 0, some 30), (11, 0, some 41), (12, 0, some 42), (13, 0, some 7), (14, 0, some 8)] (by kernel_rfl) (by kernel_rfl) (fun _ _ _ d _ h => by cases d <;> exact h) ⟨(H1b.out.drew.logCells HM2.out).2.1, (H1b.out.drew.logCells HM2.out).2.2⟩ anyW.i ?_
  repeat (first | (refine seqW (v := ?_) rfl rfl (by kernel_rfl) ?_ ?_; rotate_left; (focus ((intro x; go_simp); try (with_reducible rfl))); try simp only [Act.put, List.setIfInBounds_toArray, List.set_cons_zero, List.set_cons_succ]) | (refine seqS (v := ?_) rfl rfl (by kernel_rfl) ?_ ?_; rotate_left; (focus (intro x hS; first | (obtain ⟨hS1, hS2⟩ := hS; go_simp; try (with_reducible rfl)))); try simp only [Act.put, List.setIfInBounds_toArray, List.set_cons_zero, List.set_cons_succ]) | (refine seqX rfl rfl (by kernel_rfl) ?_; try simp only [Act.put, List.setIfInBounds_toArray, List.set_cons_zero, List.set_cons_succ]))
  refine seqT rfl rfl (fun K hK => ?_)
  go_simp
  go_at_call 59
  refine (HPB.out).mono ?_
  rintro z z2 hp
  obtain ⟨vw2, he, h⟩ := hp.uni
  rw [HOK.out] at he
  rw [HW.out] at h
  subst he
  obtain ⟨wa, wk, wc, rfl, hwk⟩ := h.getOwn.slice
  obtain rfl := hwk.out
  have H2 := Lib.hid h
  clear h hp hwk
  refine hK.out _ _ anyW.i (fun _ => ?_)
  clear hK K
  try simp only [Act.put, List.setIfInBounds_toArray, List.set_cons_zero, List.set_cons_succ]
  repeat (first | (refine seqW (v := ?_) rfl rfl (by kernel_rfl) ?_ ?_; rotate_left; (focus ((intro x; go_simp); try (with_reducible rfl))); try simp only [Act.put, List.setIfInBounds_toArray, List.set_cons_zero, List.set_cons_succ]) | (refine seqS (v := ?_) rfl rfl (by kernel_rfl) ?_ ?_; rotate_left; (focus (intro x hS; first | (obtain ⟨hS1, hS2⟩ := hS; go_simp; try (with_reducible rfl)))); try simp only [Act.put, List.setIfInBounds_toArray, List.set_cons_zero, List.set_cons_succ]) | (refine seqX rfl rfl (by kernel_rfl) ?_; try simp only [Act.put, List.setIfInBounds_toArray, List.set_cons_zero, List.set_cons_succ]))
  refine seqE ?_
  clear HPB H1b
  go_wp2_with fail
  go_loopw [45] (fun iv wr => ∃ j : Nat, j ≤ W.length ∧ iv = .int .i64 j ∧ Sys wr (upd m 2 (logT pg p pt (tipV tip (W.take j)) (commitV X T (W.take j) (L, I)).1 (commitV X T (W.take j) (L, I)).2)) (own 3 1 (.slice wa W.length wc) W.length (W.map (Value.int .i64)) :: l)) (fun i _ => W.length - (intOf i).toNat)
  case atStart => exact ⟨0, by omega, rfl, by rw [List.take_zero]; show Sys _ (upd m 2 (logT pg p pt tip L I)) _; rw [upd_self HM2.out]; exact H2.out⟩
  case round =>
    obtain ⟨j, hj, rfl, hR⟩ := hrel
    by_cases hlt : j < W.length
    · have hjl : (j : Int) < (W.length : Int) := by omega
      have hjw : IntKind.i64.wrap ((j : Int) + 1) = (j : Int) + 1 := by rw [IntKind.wrap_i64]; have := HWL.out; omega
      obtain ⟨wb, wo, rfl⟩ := (hR.getOwn.intsAt).some_ hlt
      obtain ⟨x, hx⟩ : ∃ x, x = W.getD j 0 := ⟨_, rfl⟩
      have hce : wr.cell? ⟨wb, wo + j, none⟩ = some (.int .i64 x) := by
        rcases hR.getOwn.intsAt with h0 | ⟨b', o', e, h0⟩
        · rw [h0] at hlt; simp at hlt
        · cases e; rw [hx]; exact h0 j hlt
      obtain ⟨s, hs⟩ : ∃ s, s = commitV X T (W.take j) (L, I) := ⟨_, rfl⟩
      obtain ⟨tj, htj⟩ : ∃ t, t = tipV tip (W.take j) := ⟨_, rfl⟩
      have htk : W.take (j + 1) = W.take j ++ [x] := by rw [List.take_succ_eq_append_getElem hlt, hx, List.getD_eq_getElem?_getD, List.getElem?_eq_getElem hlt]; rfl
      have HNX : Hid (commitV X T (W.take (j + 1)) (L, I) = logAll X (bk T x).envs s) := by show _ = _; rw [htk, commitV_snoc, hs]
      have HTX : Hid (tipV tip (W.take (j + 1)) = x) := by show _ = _; rw [htk]; unfold tipV; simp
      have HSL : Hid (s.1.length + (bk T x).envs.length ≤ 100000) := by
        have h1 := logAll_len X ((W.take j).flatMap fun x => (bk T x).envs) (L, I)
        have h2 := flat_take (fun x => (bk T x).envs) W (j + 1)
        have h3 := HLEN.out
        rw [htk, List.flatMap_append, List.length_append] at h2
        simp only [List.flatMap_cons, List.flatMap_nil, List.append_nil] at h2
        have h4 : s.1.length ≤ L.length + ((W.take j).flatMap fun x => (bk T x).envs).length := by rw [hs]; exact h1
        show _ ≤ _
        omega
      rw [← hs, ← htj] at hR
      have HR := Lib.hid hR
      obtain ⟨g0, g1, g2⟩ := HR.out.logCells (upd_same _ _ _)
      have hm1' : (upd m 2 (logT pg p pt tj s.1 s.2)) 1 = treeT pt p R T := upd_ne (by decide) HM1.out
      have HTB := Lib.hid (tree_block x HR.out hm1')
      clear hR hx hs htj htk hm1'
      go_upto_region 8 with fail
      go_wp2_with fail
      refine HTB.out.mono ?_
      rintro z z3 ⟨ua, uc, va, vc, rfl, h⟩
      clear HTB hce g0 g1 g2
      obtain ⟨nb, z4, EN, EX, ES, H4⟩ := h.box (.cells #[.int .i64 (bk T x).view, .int .i64 (bk T x).author, .int .i64 (bk T x).jv, .int .i64 (bk T x).jb, .slice ua (bk T x).by_.length uc, .slice va (bk T x).envs.length vc] 41 (0, 0))
      obtain ⟨ne, hne⟩ : ∃ n, n = (bk T x).envs.length := ⟨_, rfl⟩
      obtain ⟨E, hE⟩ : ∃ E, E = (bk T x).envs := ⟨_, rfl⟩
      have HIE : Hid (∀ e ∈ E, envB e ∈ X.T ∧ e.wf) := by rw [hE]; exact HIN.out x
      have HLE : Hid (E.length = ne) := by show _ = _; rw [hE, hne]
      have HEE := Lib.hid hE
      rw [← hne] at H4 EX HSL ⊢
      rw [← hE] at HNX
      clear h hne hE
      go_upto_region 9 with fail
      rw [EX.out, EN.out]
      obtain ⟨c0, c1, c2, c3, c4, c5⟩ := cells6 (H4.out.nth 0 rfl)
      go_wp2_with fail
      clear c0 c1 c2 c3 c4 c5
      go_loopw [61] (fun iv wr => ∃ i : Nat, i ≤ ne ∧ iv = .int .i64 i ∧ Sys wr (upd m 2 (logT pg p pt tj (logAll X (E.take i) s).1 (logAll X (E.take i) s).2)) (blk nb (.cells #[.int .i64 (bk T x).view, .int .i64 (bk T x).author, .int .i64 (bk T x).jv, .int .i64 (bk T x).jb, .slice ua (bk T x).by_.length uc, .slice va ne vc] 41 (0, 0)) :: blkT (bval (bk T x) ua uc va vc) (bk T x) :: own 3 1 (.slice (some ⟨wb, wo, none⟩) W.length wc) W.length (W.map (Value.int .i64)) :: l)) (fun i _ => ne - (intOf i).toNat)
      case atStart => exact ⟨0, by omega, rfl, H4.out⟩
      case round =>
        obtain ⟨i, hi, rfl, hR⟩ := hrel
        by_cases hlt2 : i < ne
        · have hil : (i : Int) < (ne : Int) := by omega
          have hiw : IntKind.i64.wrap ((i : Int) + 1) = (i : Int) + 1 := by rw [IntKind.wrap_i64]; have := HSL.out; omega
          obtain ⟨⟨ec, en, ef, ei⟩, he⟩ : ∃ e, e = E.getD i default := ⟨_, rfl⟩
          have hel : i < E.length := by rw [HLE.out]; exact hlt2
          have hat := EnvsAt.of_cap hR.tail
          rw [← HEE.out] at hat
          obtain ⟨eb, eo, rfl⟩ := hat.some_ hel
          have hce := hat.get hel
          rw [← he] at hce
          have HCE : Hid (∀ (k : Nat) (u : Value), ([.int .i64 ec, .int .u64 en, .int .u64 ef, .int .i64 ei] : List Value)[k]? = some u → wr.cell? ⟨eb, eo + i * 4 + k, none⟩ = some u) := hce
          have hmem : E.getD i default ∈ E := by rw [List.getD_eq_getElem?_getD, List.getElem?_eq_getElem hel]; exact List.getElem_mem hel
          have hie := HIE.out _ hmem
          rw [← he] at hie
          have HIEE := Lib.hid hie
          obtain ⟨sq, hsq⟩ : ∃ q, q = logAll X (E.take i) s := ⟨_, rfl⟩
          have HTK : Hid (logAll X (E.take (i + 1)) s = logStep X sq ⟨ec, en, ef, ei⟩) := by
            show _ = _
            rw [hsq, he, ← logAll_snoc, List.take_succ_eq_append_getElem hel, List.getD_eq_getElem?_getD, List.getElem?_eq_getElem hel]; rfl
          have HQL : Hid (sq.1.length ≤ 100000) := by
            have h1 := logAll_len X (E.take i) s
            have h2 := HSL.out
            rw [← hsq, List.length_take] at h1
            show _ ≤ _
            omega
          rw [← hsq] at hR
          have HSAME : Hid ({ X with T := addT X.T (envB ⟨ec, en, ef, ei⟩) } = X) := by show _ = _; unfold addT; rw [if_pos hie.1]
          obtain ⟨nx, y1, EN3, EX3, ES3, H5⟩ := hR.box (.cells #[.int .i64 ec, .int .u64 en, .int .u64 ef, .int .i64 ei] 55 (0, 0))
          have HM0' : Hid ((upd m 2 (logT pg p pt tj sq.1 sq.2)) 0 = worldT p d X) := upd_ne (by decide) HM0.out
          clear hat hce he hR hmem hie hsq hel
          go_upto_region 12 with (refine wpList_load_at rfl 55 _ rfl eb (eo + i * 4) rfl [.int .i64 ec, .int .u64 en, .int .u64 ef, .int .i64 ei] _ HCE.out Tryz.underlying55 rfl size4 ?_)
          rw [EX3.out, EN3.out]
          refine wp_region_seq (fun x : World => x.heap[nx]? = some (.cells #[.int .i64 ec, .int .u64 en, .int .u64 ef, .int .i64 ei] 55 (0, 0)) ∧ x.cell? ⟨pg, 0, none⟩ = some (.pointer (some ⟨p, 0, none⟩))) anyW [5] [(0, 0, some 65), (1, 0, some 66), (2, 0, some 67), (3, 1, some 68), (4, 1, some 69), (5, 3, some 70), (6, 0, some 15)] (by kernel_rfl) (by kernel_rfl) (fun _ _ _ d _ h => by cases d <;> exact h) ⟨H5.out.drew.nth 0 rfl, (H5.out.drew.logCells (upd_same _ _ _)).1⟩ anyW.i ?_
          repeat (first | (refine seqW (v := ?_) rfl rfl (by kernel_rfl) ?_ ?_; rotate_left; (focus ((intro x; go_simp); try (with_reducible rfl))); try simp only [Act.put, List.setIfInBounds_toArray, List.set_cons_zero, List.set_cons_succ]) | (refine seqS (v := ?_) rfl rfl (by kernel_rfl) ?_ ?_; rotate_left; (focus (intro x hS; first | (refine (exec_row 55 _ (by rfl) nx (by rfl) _ _ _ _ hS.1 Tryz.underlying55 rfl size4).trans ?_; with_reducible rfl) | (obtain ⟨hS1, hS2⟩ := hS; go_simp; try (with_reducible rfl)))); try simp only [Act.put, List.setIfInBounds_toArray, List.set_cons_zero, List.set_cons_succ]) | (refine seqX rfl rfl (by kernel_rfl) ?_; try simp only [Act.put, List.setIfInBounds_toArray, List.set_cons_zero, List.set_cons_succ]))
          refine seqT rfl rfl (fun K hK => ?_)
          go_simp
          go_at_call 22
          refine (world_digest ⟨ec, en, ef, ei⟩ HIEE.out.2 H5.out.drew HM0'.out HXT.out).mono ?_
          rintro z y2 ⟨rfl, h⟩
          rw [HSAME.out, upd_self HM0'.out] at h
          obtain ⟨dj, hdj⟩ : ∃ x, x = dg X.T (envB ⟨ec, en, ef, ei⟩) := ⟨_, rfl⟩
          rw [← hdj]
          have HDJ := Lib.hid hdj
          have H6 := Lib.hid h
          clear h hdj
          refine hK.out _ _ anyW.i (fun _ => ?_)
          clear hK K
          try simp only [Act.put, List.setIfInBounds_toArray, List.set_cons_zero, List.set_cons_succ]
          repeat (first | (refine seqW (v := ?_) rfl rfl (by kernel_rfl) ?_ ?_; rotate_left; (focus ((intro x; go_simp); try (with_reducible rfl))); try simp only [Act.put, List.setIfInBounds_toArray, List.set_cons_zero, List.set_cons_succ]) | (refine seqS (v := ?_) rfl rfl (by kernel_rfl) ?_ ?_; rotate_left; (focus (intro x hS; first | (refine (exec_row 55 _ (by rfl) nx (by rfl) _ _ _ _ hS.1 Tryz.underlying55 rfl size4).trans ?_; with_reducible rfl) | (obtain ⟨hS1, hS2⟩ := hS; go_simp; try (with_reducible rfl)))); try simp only [Act.put, List.setIfInBounds_toArray, List.set_cons_zero, List.set_cons_succ]) | (refine seqX rfl rfl (by kernel_rfl) ?_; try simp only [Act.put, List.setIfInBounds_toArray, List.set_cons_zero, List.set_cons_succ]))
          refine seqE ?_
          clear HCE
          go_wp2_with fail
          refine (clog_has dj H6.out (upd_same _ _ _)).mono ?_
          rintro z y3 ⟨rfl, rfl⟩
          by_cases hd : dj ∈ sq.2
          · have dd : decide (dj ∈ sq.2) = true := by simpa using hd
            rw [dd]
            have HST : Hid (logStep X sq ⟨ec, en, ef, ei⟩ = sq) := by show _ = _; unfold logStep; rw [← HDJ.out, if_pos hd]
            rw [HST.out] at HTK
            have H9 := Lib.hid H6.out.tail
            clear hd dd HST
            go_wp2_with fail
            go_roundw
            case rel => exact ⟨i + 1, by omega, by go_num, by rw [HTK.out]; exact H9.out⟩
            case measure => simp [intOf]; omega
          · have dd : decide (dj ∈ sq.2) = false := by simpa using hd
            rw [dd]
            have HST : Hid (logStep X sq ⟨ec, en, ef, ei⟩ = (sq.1 ++ [⟨ec, en, ef, ei⟩], sq.2 ++ [dj])) := by show _ = _; unfold logStep; rw [← HDJ.out, if_neg hd]
            rw [HST.out] at HTK
            obtain ⟨⟨v0, mb⟩, h1⟩ := (H6.out.lift 2 (upd_same _ _ _)).open
            rw [upd_upd] at h1
            obtain ⟨la, k0, lc, hv0, hk0⟩ := (h1.front 1 rfl).getOwn.slice
            dsimp only at hv0
            subst hv0
            obtain rfl := hk0.out
            replace h1 : Sys y2 (upd m 2 emp) (blk pg (.cells #[.pointer (some ⟨p, 0, none⟩), .pointer (some ⟨pt, 0, none⟩), .int .i64 tj, (.slice la sq.1.length lc), .map (some mb)] 84 (0, 0)) :: own 55 4 (.slice la sq.1.length lc) sq.1.length (flatE sq.1) :: mapT intKey mb (sq.2.map fun d => (d, .int .i64 1)) :: blk nx (.cells #[.int .i64 ec, .int .u64 en, .int .u64 ef, .int .i64 ei] 55 (0, 0)) :: blk nb (.cells #[.int .i64 (bk T x).view, .int .i64 (bk T x).author, .int .i64 (bk T x).jv, .int .i64 (bk T x).jb, .slice ua (bk T x).by_.length uc, .slice (some ⟨eb, eo, none⟩) ne vc] 41 (0, 0)) :: blkT (bval (bk T x) ua uc (some ⟨eb, eo, none⟩) vc) (bk T x) :: own 3 1 (.slice (some ⟨wb, wo, none⟩) W.length wc) W.length (W.map (Value.int .i64)) :: l) := h1
            obtain ⟨g0, g1, g2, g3, g4⟩ := cells5 (h1.nth 0 rfl)
            obtain ⟨w1, hu, hmu, hcu, -⟩ := (h1.front 2 rfl).getMap.update (P := Tryz.prog) Tryz.underlying82 Tryz.underlying3 dj (.int .i64 1)
            have h2 := (h1.front 2 rfl).mapTo hmu hcu
            rw [aset_in _ _ hd] at h2
            simp only [intKey] at hu
            have H7 := Lib.hid ((h2.front 2 rfl).front 2 rfl).drew
            clear h1 h2 hmu hcu hd dd hk0
            go_upto_region 15 with fail
            clear hu g0 g1 g2 g3 g4
            have H8 := Lib.hid (H7.out.alloc (.cells #[.int .i64 ec, .int .u64 en, .int .u64 ef, .int .i64 ei] 55 (0, 0)) rfl)
            obtain ⟨v9, z9, hap, h9⟩ := (H8.out.front 2 rfl).appEnvs (k := 1) (some ⟨w1.drew.heap.size, 0, none⟩) 1 [⟨ec, en, ef, ei⟩] rfl (EnvsAt.one H8.out.getBlk) (by have := HQL.out; omega) 39
            obtain ⟨va9, k9, vc9, rfl, hk9⟩ := h9.getOwn.slice
            obtain rfl := hk9.out
            have H9 := Lib.hid h9
            have h10 := (((h9.front 2 rfl).setCell (i := 3) (.slice va9 (sq.1.length + 1) vc9)).drop 2 rfl).drop 3 rfl
            have H10 : Hid (Sys (z9.setCell ⟨pg, 3, none⟩ (.slice va9 (sq.1.length + 1) vc9)) (upd m 2 (logT pg p pt tj (sq.1 ++ [⟨ec, en, ef, ei⟩]) (sq.2 ++ [dj]))) (blk nb (.cells #[.int .i64 (bk T x).view, .int .i64 (bk T x).author, .int .i64 (bk T x).jv, .int .i64 (bk T x).jb, .slice ua (bk T x).by_.length uc, .slice (some ⟨eb, eo, none⟩) ne vc] 41 (0, 0)) :: blkT (bval (bk T x) ua uc (some ⟨eb, eo, none⟩) vc) (bk T x) :: own 3 1 (.slice (some ⟨wb, wo, none⟩) W.length wc) W.length (W.map (Value.int .i64)) :: l)) := Sys.put 2 (Sys.close (f := logF pg p pt tj (sq.1 ++ [⟨ec, en, ef, ei⟩]) (sq.2 ++ [dj])) (.slice va9 (sq.1.length + 1) vc9, mb) (by
              show Sys _ _ (blk _ _ :: own _ _ _ (sq.1 ++ [_]).length _ :: _)
              rw [List.length_append]; exact h10))
            clear h9 h10 hk9
            refine wp_region_seq (fun x : World => x.cell? ⟨pg, 3, none⟩ = some (.slice la sq.1.length lc) ∧ x.heap[nx]? = some (.cells #[.int .i64 ec, .int .u64 en, .int .u64 ef, .int .i64 ei] 55 (0, 0))) anyW [10] [(0, 0, some 80), (1, 0, some 81), (2, 0, some 82), (3, 0, some 83), (4, 1, some 84), (5, 1, some 85), (6, 2, some 86), (7, 2, some 87), (8, 0, some 88), (9, 0, some 89), (10, 3, none)] (by kernel_rfl) (by kernel_rfl) (fun _ _ _ d _ h => by cases d <;> exact h) ⟨cell_of_blk (H7.out.nth 0 rfl) 3, H7.out.nth 3 rfl⟩ anyW.i ?_
            repeat (first | (refine seqW (v := ?_) rfl rfl (by kernel_rfl) ?_ ?_; rotate_left; (focus ((intro x; go_simp); try (with_reducible rfl))); try simp only [Act.put, List.setIfInBounds_toArray, List.set_cons_zero, List.set_cons_succ]) | (refine seqS (v := ?_) rfl rfl (by kernel_rfl) ?_ ?_; rotate_left; (focus (intro x hS; first | (refine (exec_row 55 _ (by rfl) nx (by rfl) _ _ _ _ hS.2 Tryz.underlying55 rfl size4).trans ?_; with_reducible rfl) | (obtain ⟨hS1, hS2⟩ := hS; go_simp; try (with_reducible rfl)))); try simp only [Act.put, List.setIfInBounds_toArray, List.set_cons_zero, List.set_cons_succ]) | (refine seqX rfl rfl (by kernel_rfl) ?_; try simp only [Act.put, List.setIfInBounds_toArray, List.set_cons_zero, List.set_cons_succ]))
            refine seqL rfl rfl (fun K hK => ?_)
            go_simp
            refine hK.out _ _ anyW.i ?_ (fun _ hSt => ?_)
            · exact ⟨cell_of_blk (H8.out.nth 1 rfl) 3, H8.out.nth 4 rfl⟩
            clear hSt hK K
            try simp only [Act.put, List.setIfInBounds_toArray, List.set_cons_zero, List.set_cons_succ]
            refine seqL rfl rfl (fun K hK => ?_)
            refine step_run_append rfl (.tmp 84) (.tmp 86) 39 rfl rfl rfl hap ?_
            have cp := cell_of_blk (H9.out.nth 2 rfl) 3
            simp at cp
            have fp := frozen_of_blk (H9.out.nth 2 rfl) 3
            refine hK.out _ _ anyW.i ?_ (fun _ hSt => ?_)
            · exact ⟨cell_of_blk (H9.out.nth 2 rfl) 3, H9.out.nth 4 rfl⟩
            clear hSt hK K
            try simp only [Act.put, List.setIfInBounds_toArray, List.set_cons_zero, List.set_cons_succ]
            repeat (first | (refine seqW (v := ?_) rfl rfl (by kernel_rfl) ?_ ?_; rotate_left; (focus ((intro x; go_simp); try (with_reducible rfl))); try simp only [Act.put, List.setIfInBounds_toArray, List.set_cons_zero, List.set_cons_succ]) | (refine seqS (v := ?_) rfl rfl (by kernel_rfl) ?_ ?_; rotate_left; (focus (intro x hS; first | (refine (exec_row 55 _ (by rfl) nx (by rfl) _ _ _ _ hS.2 Tryz.underlying55 rfl size4).trans ?_; with_reducible rfl) | (obtain ⟨hS1, hS2⟩ := hS; go_simp; try (with_reducible rfl)))); try simp only [Act.put, List.setIfInBounds_toArray, List.set_cons_zero, List.set_cons_succ]) | (refine seqX rfl rfl (by kernel_rfl) ?_; try simp only [Act.put, List.setIfInBounds_toArray, List.set_cons_zero, List.set_cons_succ]))
            refine seqT rfl rfl (fun K hK => ?_)
            go_simp
            refine hK.out _ _ anyW.i (fun _ => ?_)
            clear hK K
            try simp only [Act.put, List.setIfInBounds_toArray, List.set_cons_zero, List.set_cons_succ]
            refine seqE ?_
            clear hap
            go_wp2_with fail
            go_roundw
            case rel => exact ⟨i + 1, by omega, by go_num, by rw [HTK.out]; exact H10.out⟩
            case measure => simp [intOf]; omega
        · obtain rfl : i = ne := by omega
          have HTK : Hid (E.take i = E) := List.take_of_length_le (by rw [HLE.out]; exact Nat.le_refl _)
          rw [HTK.out, ← HNX.out] at hR
          obtain ⟨y, h1⟩ := (hR.lift 2 (upd_same _ _ _)).open
          rw [upd_upd] at h1
          have q2 := cell_of_blk h1.getBlk 2
          have q5 := frozen_of_blk h1.getBlk 2
          simp at q2
          have h2 := h1.setCell (i := 2) (.int .i64 x)
          have h3 : Sys _ (upd m 2 (logT pg p pt (tipV tip (W.take (j + 1))) (commitV X T (W.take (j + 1)) (L, I)).1 (commitV X T (W.take (j + 1)) (L, I)).2)) _ := Sys.put 2 (Sys.close (f := logF pg p pt (tipV tip (W.take (j + 1))) _ _) y (by rw [HTX.out]; exact h2))
          have H9 := Lib.hid h3.tail.tail
          clear h1 h2 h3 hR
          go_wp2_with fail
          exact ⟨⟨j + 1, by omega, by go_num, H9.out⟩, by simp [intOf]; omega⟩
    · obtain rfl : j = W.length := by omega
      rw [List.take_of_length_le (Nat.le_refl _)] at hR
      have H9 := Lib.hid hR.tail
      clear hR
      go_wp2_with fail
      go_ret
      exact ⟨rfl, H9.out⟩
end
end Go.Proofs.YtcfhkpjheemkgaaGreat
