/-
  A vote that counts.
-/
import Derived.Test.YtcfhkpjheemkgaaTally
namespace Go.Proofs.Ytcfhkpjheemkgaa
set_option linter.unusedSectionVars false
set_option linter.unusedSimpArgs false
set_option linter.unusedVariables false
open Go.RowKit Go.MapKept

theorem rot4 (v s h r o : Thing) (l : List Thing) : (v :: s :: h :: r :: o :: l).Perm (r :: s :: h :: v :: o :: l) := by
  refine List.Perm.trans (List.Perm.trans (List.Perm.swap _ _ _) (List.Perm.cons _ (List.Perm.trans (List.Perm.swap _ _ _) (List.Perm.cons _ (List.Perm.swap _ _ _))))) ?_
  exact List.Perm.trans (List.Perm.cons _ (List.Perm.swap _ _ _)) (List.Perm.swap _ _ _)
theorem rot3 (a b c e : Thing) (l : List Thing) : (a :: b :: c :: e :: l).Perm (c :: a :: b :: e :: l) := (List.Perm.cons _ (List.Perm.swap _ _ _)).trans (List.Perm.swap _ _ _)
section
variable {w w' : World} {m : Nat → Thing} {l : List Thing} {p q : Nat} {d : Wd} {X : WX} {V : List ((Int × Int) × List Int)} {O : List (Int × List (Int × QcX))}
theorem addTo_len (L : List Int) (a : Int) : (addTo L a).length ≤ L.length + 1 := by unfold addTo; split <;> simp
theorem perm_in (s h r v o : Thing) (l : List Thing) : (s :: h :: r :: v :: o :: l).Perm (v :: s :: h :: r :: o :: l) := by
  refine List.Perm.trans (List.Perm.cons _ (List.Perm.trans (List.Perm.cons _ (List.Perm.swap _ _ _)) (List.Perm.swap _ _ _))) (List.Perm.swap _ _ _)
theorem to_front {a : Thing} (P : List Thing) (Q : List Thing) : (P ++ a :: Q).Perm (a :: (P ++ Q)) := List.perm_middle
theorem perm_rb (o b g s h r u : Thing) (R l : List Thing) : (o :: b :: g :: (R ++ (s :: h :: r :: u :: l))).Perm (r :: o :: b :: g :: (R ++ (s :: h :: u :: l))) := by
  have := to_front (a := r) (o :: b :: g :: (R ++ [s, h])) (u :: l)
  simpa using this
theorem perm_ow (o b g s h u : Thing) (R l : List Thing) : (o :: b :: g :: (R ++ (s :: h :: u :: l))).Perm (b :: g :: (R ++ (o :: s :: h :: u :: l))) := by
  have := (to_front (a := o) (b :: g :: R) (s :: h :: u :: l)).symm
  simpa using this
theorem perm_fi (v o s h u : Thing) (l : List Thing) : (v :: o :: s :: h :: u :: l).Perm (o :: s :: h :: v :: u :: l) := by
  have := (to_front (a := v) [o, s, h] (u :: l)).symm
  simpa using this
theorem perm_out (o s h v u : Thing) (l : List Thing) : (o :: s :: h :: v :: u :: l).Perm (h :: v :: u :: o :: s :: l) := by
  have h1 : (o :: s :: h :: v :: u :: l).Perm (h :: v :: u :: ([o, s] ++ l)) := by
    have a1 := to_front (a := h) [o, s] (v :: u :: l)
    have a2 := to_front (a := v) [o, s] (u :: l)
    have a3 := to_front (a := u) [o, s] l
    exact a1.trans ((a2.cons h).trans ((a3.cons v).cons h) |>.trans (List.Perm.refl _))
  simpa using h1

set_option maxRecDepth 100000 in
set_option maxHeartbeats 4000000 in
theorem tally_vote_few (c : CfgX) (hg : c.Good) (who view block : Int) (h : Sys w m (tallyT q p c V O :: l)) (hw : m 0 = worldT p d X) (hT : X.T.length ≤ 1000000000) (hrep : repB c who = true) (hview : 1 ≤ view) (hhas : who ∈ X.f (dg X.T (voteB view block))) (hlb : (voters V (view, block)).length ≤ 1000000) (hq : ((addTo (voters V (view, block)) who).length : Int) < 2 * c.f + 1) :
    Calls Try.prog 41 #[.pointer (some ⟨q, 0, none⟩), .int .i64 who, .int .i64 view, .int .i64 block] w fun e w' => e = .returned (.tuple #[.agg #[.int .i64 0, .int .i64 0, .slice none 0 0], .bool false]) ∧ Sys w' (upd m 0 (worldT p d (X.digest (voteB view block)))) (tallyT q p c (aset V (view, block) (addTo (voters V (view, block)) who)) O :: l) := by
  obtain ⟨⟨vb, ob⟩, h⟩ := h.open
  replace h : Sys w m (blk q (.cells #[.pointer (some ⟨p, 0, none⟩), .int .i64 c.f, .int .i64 c.n, .int .i64 c.cl, .int .i64 c.ba, .int .i64 c.mo, .int .i64 c.bt, .int .i64 c.po, .int .i64 c.wi, .map (some vb), .map (some ob)] 143 (0, 0)) :: votesT vb V :: outsT ob O :: l) := h
  obtain ⟨nr, hnr⟩ : ∃ n, n = w.heap.size := ⟨_, rfl⟩
  obtain ⟨xr, hxr⟩ : ∃ y, y = w.alloc (.cells #[.int .i64 0, .int .i64 0, .slice none 0 0] 28 (0, 0)) := ⟨_, rfl⟩
  have h1 := (h.alloc (.cells #[.int .i64 0, .int .i64 0, .slice none 0 0] 28 (0, 0)) hnr).swap
  rw [← hxr] at h1
  have H1 := Lib.hid h1.drew
  have hS1 := H1.out.getBlk
  have HG := Lib.hid hg
  have HTL := Lib.hid hT
  have HXR := Lib.hid hxr
  have HNR := Lib.hid hnr
  have hd : decide (view < 1) = false := by simp; omega
  have HHAS : Hid (decide (who ∈ X.f (dg X.T (voteB view block))) = true) := by show _ = _; simpa using hhas
  have hww : (Lit.int .i64 who).wf = true := by
    have hr := hrep
    unfold repB at hr
    simp only [decide_eq_true_eq] at hr
    obtain ⟨g0, g1, g2⟩ := hg
    exact wf_mk (by omega) (by omega)
  have HLV := Lib.hid hlb
  have HQ0 := Lib.hid hq
  have HWW := Lib.hid hww
  clear h h1 hxr hnr hg hT hview hhas hlb hq hww
  go_enter Try.func41, Try.ntmps41
  go_upto_region 1 with fail
  rw [← HXR.out, ← HNR.out]
  refine wp_region_stage (fun x : World => x.heap[q]? = some (.cells #[.pointer (some ⟨p, 0, none⟩), .int .i64 c.f, .int .i64 c.n, .int .i64 c.cl, .int .i64 c.ba, .int .i64 c.mo, .int .i64 c.bt, .int .i64 c.po, .int .i64 c.wi, .map (some vb), .map (some ob)] 143 (0, 0))) [] (by kernel_rfl) ?_
  refine takeW 0 (some 11) (v := ?_) rfl (by rfl) (by kernel_rfl) (by kernel_rfl) (by kernel_rfl) (fun _ _ _ h => h) (by kernel_rfl) (by kernel_rfl) ?_ (Stage.still (by assumption)) ?_
  rotate_left
  · (intro w; go_simp; try (with_reducible rfl))
  try simp only [Act.put, List.setIfInBounds_toArray, List.set_cons_zero, List.set_cons_succ]
  refine takeW 1 (some 12) (v := ?_) rfl (by rfl) (by kernel_rfl) (by kernel_rfl) (by kernel_rfl) (fun _ _ _ h => h) (by kernel_rfl) (by kernel_rfl) ?_ (Stage.still (by assumption)) ?_
  rotate_left
  · (intro w; go_simp; try (with_reducible rfl))
  try simp only [Act.put, List.setIfInBounds_toArray, List.set_cons_zero, List.set_cons_succ]
  refine takeW 2 (some 13) (v := ?_) rfl (by rfl) (by kernel_rfl) (by kernel_rfl) (by kernel_rfl) (fun _ _ _ h => h) (by kernel_rfl) (by kernel_rfl) ?_ (Stage.still (by assumption)) ?_
  rotate_left
  · (intro w; go_simp; try (with_reducible rfl))
  try simp only [Act.put, List.setIfInBounds_toArray, List.set_cons_zero, List.set_cons_succ]
  refine takeS 3 (some 14) (v := ?_) rfl (by rfl) (by kernel_rfl) (by kernel_rfl) (by kernel_rfl) (fun _ _ _ h => h) (by kernel_rfl) (by kernel_rfl) (by kernel_rfl) ?_ (by assumption) ?_
  rotate_left
  · (intro w hSw; have c0 : w.cell? ⟨q, 1, none⟩ = some (.int .i64 c.f) := cell_of_blk hSw 1; have c1 : w.cell? ⟨q, 2, none⟩ = some (.int .i64 c.n) := cell_of_blk hSw 2; have c2 : w.cell? ⟨q, 3, none⟩ = some (.int .i64 c.cl) := cell_of_blk hSw 3; have c3 : w.cell? ⟨q, 4, none⟩ = some (.int .i64 c.ba) := cell_of_blk hSw 4; have c4 : w.cell? ⟨q, 5, none⟩ = some (.int .i64 c.mo) := cell_of_blk hSw 5; have c5 : w.cell? ⟨q, 6, none⟩ = some (.int .i64 c.bt) := cell_of_blk hSw 6; have c6 : w.cell? ⟨q, 7, none⟩ = some (.int .i64 c.po) := cell_of_blk hSw 7; have c7 : w.cell? ⟨q, 8, none⟩ = some (.int .i64 c.wi) := cell_of_blk hSw 8; clear hSw; go_simp; try (with_reducible rfl))
  try simp only [Act.put, List.setIfInBounds_toArray, List.set_cons_zero, List.set_cons_succ]
  refine takeW 4 (some 15) (v := ?_) rfl (by rfl) (by kernel_rfl) (by kernel_rfl) (by kernel_rfl) (fun _ _ _ h => h) (by kernel_rfl) (by kernel_rfl) ?_ (Stage.still (by assumption)) ?_
  rotate_left
  · (intro w; go_simp; try (with_reducible rfl))
  try simp only [Act.put, List.setIfInBounds_toArray, List.set_cons_zero, List.set_cons_succ]
  refine oneT 5 (by kernel_rfl) rfl (fun K hK => ?_)
  go_simp
  go_at_call 60
  refine (cert_replica c HG.out who H1.out).mono ?_
  rintro e w2 ⟨rfl, h2⟩
  rw [hrep]
  have hS1 := h2.getBlk
  have H2 := Lib.hid h2
  clear h2
  go_wp2_with fail
  refine hK.out _ _ (Stage.still ?_) (fun hSt => ?_)
  · (try dsimp only); exact hS1
  clear hK K hSt
  try simp only [Act.put, List.setIfInBounds_toArray, List.set_cons_zero, List.set_cons_succ]
  refine takeW 6 (some 17) (v := ?_) rfl (by rfl) (by kernel_rfl) (by kernel_rfl) (by kernel_rfl) (fun _ _ _ h => h) (by kernel_rfl) (by kernel_rfl) ?_ (Stage.still (by assumption)) ?_
  rotate_left
  · (intro w; go_simp; try (with_reducible rfl))
  try simp only [Act.put, List.setIfInBounds_toArray, List.set_cons_zero, List.set_cons_succ]
  refine takeW 7 (some 18) (v := ?_) rfl (by rfl) (by kernel_rfl) (by kernel_rfl) (by kernel_rfl) (fun _ _ _ h => h) (by kernel_rfl) (by kernel_rfl) ?_ (Stage.still (by assumption)) ?_
  rotate_left
  · (intro w; go_simp; try (with_reducible rfl))
  try simp only [Act.put, List.setIfInBounds_toArray, List.set_cons_zero, List.set_cons_succ]
  refine takeW 8 (some 19) (v := ?_) rfl (by rfl) (by kernel_rfl) (by kernel_rfl) (by kernel_rfl) (fun _ _ _ h => h) (by kernel_rfl) (by kernel_rfl) ?_ (Stage.still (by assumption)) ?_
  rotate_left
  · (intro w; go_simp; try (with_reducible rfl))
  try simp only [Act.put, List.setIfInBounds_toArray, List.set_cons_zero, List.set_cons_succ]
  refine takeW 9 (some 20) (v := ?_) rfl (by rfl) (by kernel_rfl) (by kernel_rfl) (by kernel_rfl) (fun _ _ _ h => h) (by kernel_rfl) (by kernel_rfl) ?_ (Stage.still (by assumption)) ?_
  rotate_left
  · (intro w; go_simp; try (with_reducible rfl))
  try simp only [Act.put, List.setIfInBounds_toArray, List.set_cons_zero, List.set_cons_succ]
  refine takeW 10 (some 21) (v := ?_) rfl (by rfl) (by kernel_rfl) (by kernel_rfl) (by kernel_rfl) (fun _ _ _ h => h) (by kernel_rfl) (by kernel_rfl) ?_ (Stage.still (by assumption)) ?_
  rotate_left
  · (intro w; go_simp; try (with_reducible rfl))
  try simp only [Act.put, List.setIfInBounds_toArray, List.set_cons_zero, List.set_cons_succ]
  refine takeW 11 (some 22) (v := ?_) rfl (by rfl) (by kernel_rfl) (by kernel_rfl) (by kernel_rfl) (fun _ _ _ h => h) (by kernel_rfl) (by kernel_rfl) ?_ (Stage.still (by assumption)) ?_
  rotate_left
  · (intro w; go_simp; try (with_reducible rfl))
  try simp only [Act.put, List.setIfInBounds_toArray, List.set_cons_zero, List.set_cons_succ]
  refine takeW 12 (some 23) (v := ?_) rfl (by rfl) (by kernel_rfl) (by kernel_rfl) (by kernel_rfl) (fun _ _ _ h => h) (by kernel_rfl) (by kernel_rfl) ?_ (Stage.still (by assumption)) ?_
  rotate_left
  · (intro w; go_simp; try (with_reducible rfl))
  try simp only [Act.put, List.setIfInBounds_toArray, List.set_cons_zero, List.set_cons_succ]
  refine takeW 13 (some 24) (v := ?_) rfl (by rfl) (by kernel_rfl) (by kernel_rfl) (by kernel_rfl) (fun _ _ _ h => h) (by kernel_rfl) (by kernel_rfl) ?_ (Stage.still (by assumption)) ?_
  rotate_left
  · (intro w; go_simp; try (with_reducible rfl))
  try simp only [Act.put, List.setIfInBounds_toArray, List.set_cons_zero, List.set_cons_succ]
  refine takeW 14 (some 25) (v := ?_) rfl (by rfl) (by kernel_rfl) (by kernel_rfl) (by kernel_rfl) (fun _ _ _ h => h) (by kernel_rfl) (by kernel_rfl) ?_ (Stage.still (by assumption)) ?_
  rotate_left
  · (intro w; go_simp; try (with_reducible rfl))
  try simp only [Act.put, List.setIfInBounds_toArray, List.set_cons_zero, List.set_cons_succ]
  refine takeS 15 (some 26) (v := ?_) rfl (by rfl) (by kernel_rfl) (by kernel_rfl) (by kernel_rfl) (fun _ _ _ h => h) (by kernel_rfl) (by kernel_rfl) (by kernel_rfl) ?_ (by assumption) ?_
  rotate_left
  · (intro w hSw; have c : w.cell? ⟨q, 0, none⟩ = some (.pointer (some ⟨p, 0, none⟩)) := cell_of_blk hSw 0; clear hSw; go_simp; try (with_reducible rfl))
  try simp only [Act.put, List.setIfInBounds_toArray, List.set_cons_zero, List.set_cons_succ]
  refine takeW 17 (some 28) (v := ?_) rfl (by rfl) (by kernel_rfl) (by kernel_rfl) (by kernel_rfl) (fun _ _ _ h => h) (by kernel_rfl) (by kernel_rfl) ?_ (Stage.still (by assumption)) ?_
  rotate_left
  · (intro w; go_simp; try (with_reducible rfl))
  try simp only [Act.put, List.setIfInBounds_toArray, List.set_cons_zero, List.set_cons_succ]
  refine takeW 18 (some 29) (v := ?_) rfl (by rfl) (by kernel_rfl) (by kernel_rfl) (by kernel_rfl) (fun _ _ _ h => h) (by kernel_rfl) (by kernel_rfl) ?_ (Stage.still (by assumption)) ?_
  rotate_left
  · (intro w; go_simp; try (with_reducible rfl))
  try simp only [Act.put, List.setIfInBounds_toArray, List.set_cons_zero, List.set_cons_succ]
  refine takeW 19 (some 30) (v := ?_) rfl (by rfl) (by kernel_rfl) (by kernel_rfl) (by kernel_rfl) (fun _ _ _ h => h) (by kernel_rfl) (by kernel_rfl) ?_ (Stage.still (by assumption)) ?_
  rotate_left
  · (intro w; go_simp; try (with_reducible rfl))
  try simp only [Act.put, List.setIfInBounds_toArray, List.set_cons_zero, List.set_cons_succ]
  refine takeW 20 (some 31) (v := ?_) rfl (by rfl) (by kernel_rfl) (by kernel_rfl) (by kernel_rfl) (fun _ _ _ h => h) (by kernel_rfl) (by kernel_rfl) ?_ (Stage.still (by assumption)) ?_
  rotate_left
  · (intro w; go_simp; try (with_reducible rfl))
  try simp only [Act.put, List.setIfInBounds_toArray, List.set_cons_zero, List.set_cons_succ]
  refine takeS 21 (some 32) (v := ?_) rfl (by rfl) (by kernel_rfl) (by kernel_rfl) (by kernel_rfl) (fun _ _ _ h => h) (by kernel_rfl) (by kernel_rfl) (by kernel_rfl) ?_ (by assumption) ?_
  rotate_left
  · (intro w hSw; have c : w.cell? ⟨q, 0, none⟩ = some (.pointer (some ⟨p, 0, none⟩)) := cell_of_blk hSw 0; clear hSw; go_simp; try (with_reducible rfl))
  try simp only [Act.put, List.setIfInBounds_toArray, List.set_cons_zero, List.set_cons_succ]
  refine takeW 22 (some 33) (v := ?_) rfl (by rfl) (by kernel_rfl) (by kernel_rfl) (by kernel_rfl) (fun _ _ _ h => h) (by kernel_rfl) (by kernel_rfl) ?_ (Stage.still (by assumption)) ?_
  rotate_left
  · (intro w; go_simp; try (with_reducible rfl))
  try simp only [Act.put, List.setIfInBounds_toArray, List.set_cons_zero, List.set_cons_succ]
  refine takeW 23 (some 34) (v := ?_) rfl (by rfl) (by kernel_rfl) (by kernel_rfl) (by kernel_rfl) (fun _ _ _ h => h) (by kernel_rfl) (by kernel_rfl) ?_ (Stage.still (by assumption)) ?_
  rotate_left
  · (intro w; go_simp; try (with_reducible rfl))
  try simp only [Act.put, List.setIfInBounds_toArray, List.set_cons_zero, List.set_cons_succ]
  refine oneT 16 (by kernel_rfl) rfl (fun K hK => ?_)
  go_simp
  go_at_call 37
  refine (world_signs H2.out hw).mono ?_
  rintro e _ ⟨rfl, rfl⟩
  go_wp2_with fail
  refine hK.out _ _ (Stage.still ?_) (fun hSt => ?_)
  · (try dsimp only); exact hS1
  clear hK K hSt
  try simp only [Act.put, List.setIfInBounds_toArray, List.set_cons_zero, List.set_cons_succ]
  refine oneT 24 (by kernel_rfl) rfl (fun K hK => ?_)
  go_simp
  go_at_call 39
  refine (cert_vote view block H2.out hw HTL.out).mono ?_
  rintro e w3 ⟨rfl, h3⟩
  have hS1 := h3.getBlk
  have H3 := Lib.hid h3
  clear h3
  go_wp2_with fail
  refine hK.out _ _ (Stage.still ?_) (fun hSt => ?_)
  · (try dsimp only); exact hS1
  clear hK K hSt
  try simp only [Act.put, List.setIfInBounds_toArray, List.set_cons_zero, List.set_cons_succ]
  refine oneT 25 (by kernel_rfl) rfl (fun K hK => ?_)
  go_simp
  go_at_call 40
  refine (world_has who _ H3.out (upd_same _ _ _)).mono ?_
  rintro e _ ⟨rfl, rfl⟩
  rw [show (X.digest (voteB view block)).f = X.f from rfl, HHAS.out]
  go_wp2_with fail
  refine hK.out _ _ (Stage.still ?_) (fun hSt => ?_)
  · (try dsimp only); exact hS1
  clear hK K hSt
  try simp only [Act.put, List.setIfInBounds_toArray, List.set_cons_zero, List.set_cons_succ]
  refine takeW 26 (some 37) (v := ?_) rfl (by rfl) (by kernel_rfl) (by kernel_rfl) (by kernel_rfl) (fun _ _ _ h => h) (by kernel_rfl) (by kernel_rfl) ?_ (Stage.still (by assumption)) ?_
  rotate_left
  · (intro w; go_simp; try (with_reducible rfl))
  try simp only [Act.put, List.setIfInBounds_toArray, List.set_cons_zero, List.set_cons_succ]
  refine takeW 27 (some 38) (v := ?_) rfl (by rfl) (by kernel_rfl) (by kernel_rfl) (by kernel_rfl) (fun _ _ _ h => h) (by kernel_rfl) (by kernel_rfl) ?_ (Stage.still (by assumption)) ?_
  rotate_left
  · (intro w; go_simp; try (with_reducible rfl))
  try simp only [Act.put, List.setIfInBounds_toArray, List.set_cons_zero, List.set_cons_succ]
  refine doneT (by kernel_rfl) ?_ _
  clear hS1
  go_upto_region 3 with fail
  obtain ⟨ns, hns⟩ : ∃ n, n = w3.heap.size := ⟨_, rfl⟩
  obtain ⟨x4, hx4⟩ : ∃ y, y = w3.alloc (.cells #[.int .i64 view, .int .i64 block] 147 (0, 0)) := ⟨_, rfl⟩
  have h4 := H3.out.alloc (.cells #[.int .i64 view, .int .i64 block] 147 (0, 0)) hns
  rw [← hx4] at h4
  have HX4 := Lib.hid hx4
  have HNS := Lib.hid hns
  have H4 := Lib.hid (h4.perm (perm_in _ _ _ _ _ _))
  clear h4 hx4 hns
  go_upto_region 4 with fail
  rw [← HX4.out, ← HNS.out]
  cases hk : alook V (view, block) with
  | none =>
    obtain ⟨mm, R, hkm, hvn, hcl⟩ := votes_none H4.out hk
    have HK := Lib.hid hkm
    have HVN := Lib.hid hvn
    have HL0 : Hid (voters V (view, block) = []) := by show _ = _; unfold voters; rw [hk]; rfl
    have hS1 := HVN.out.drew
    clear hkm hvn hk
    refine wp_region_stage (fun x : World => Sys x (upd m 0 (worldT p d (X.digest (voteB view block)))) (mapGT pairEnc vb mm :: (R ++ (blk ns (.cells #[.int .i64 view, .int .i64 block] 147 (0, 0)) :: blk q (.cells #[.pointer (some ⟨p, 0, none⟩), .int .i64 c.f, .int .i64 c.n, .int .i64 c.cl, .int .i64 c.ba, .int .i64 c.mo, .int .i64 c.bt, .int .i64 c.po, .int .i64 c.wi, .map (some vb), .map (some ob)] 143 (0, 0)) :: blk nr (.cells #[.int .i64 0, .int .i64 0, .slice none 0 0] 28 (0, 0)) :: outsT ob O :: l)))) [] (by kernel_rfl) ?_
    refine takeW 0 (some 43) (v := ?_) rfl (by rfl) (by kernel_rfl) (by kernel_rfl) (by kernel_rfl) (fun _ _ _ h => h) (by kernel_rfl) (by kernel_rfl) ?_ (Stage.still (by assumption)) ?_
    rotate_left
    · (intro w; go_simp; try (with_reducible rfl))
    try simp only [Act.put, List.setIfInBounds_toArray, List.set_cons_zero, List.set_cons_succ]
    refine takeW 1 (some 44) (v := ?_) rfl (by rfl) (by kernel_rfl) (by kernel_rfl) (by kernel_rfl) (fun _ _ _ h => h) (by kernel_rfl) (by kernel_rfl) ?_ (Stage.still (by assumption)) ?_
    rotate_left
    · (intro w; go_simp; try (with_reducible rfl))
    try simp only [Act.put, List.setIfInBounds_toArray, List.set_cons_zero, List.set_cons_succ]
    refine takeW 2 (some 45) (v := ?_) rfl (by rfl) (by kernel_rfl) (by kernel_rfl) (by kernel_rfl) (fun _ _ _ h => h) (by kernel_rfl) (by kernel_rfl) ?_ (Stage.still (by assumption)) ?_
    rotate_left
    · (intro w; go_simp; try (with_reducible rfl))
    try simp only [Act.put, List.setIfInBounds_toArray, List.set_cons_zero, List.set_cons_succ]
    refine takeS 3 (some 46) (v := ?_) rfl (by rfl) (by kernel_rfl) (by kernel_rfl) (by kernel_rfl) (fun _ _ _ h => h) (by kernel_rfl) (by kernel_rfl) (by kernel_rfl) ?_ (by assumption) ?_
    rotate_left
    · (intro w hSw; have c : w.cell? ⟨q, 9, none⟩ = some (.map (some vb)) := cell_of_blk (Sys.memBlk (n := q) (o := .cells #[.pointer (some ⟨p, 0, none⟩), .int .i64 c.f, .int .i64 c.n, .int .i64 c.cl, .int .i64 c.ba, .int .i64 c.mo, .int .i64 c.bt, .int .i64 c.po, .int .i64 c.wi, .map (some vb), .map (some ob)] 143 (0, 0)) hSw (by simp)) 9; clear hSw; go_simp; try (with_reducible rfl))
    try simp only [Act.put, List.setIfInBounds_toArray, List.set_cons_zero, List.set_cons_succ]
    refine takeS 4 (some 47) (v := ?_) rfl (by rfl) (by kernel_rfl) (by kernel_rfl) (by kernel_rfl) (fun _ _ _ h => h) (by kernel_rfl) (by kernel_rfl) (by kernel_rfl) ?_ (by assumption) ?_
    rotate_left
    · (intro w hSw; have hb := (Sys.memBlk (n := ns) (o := .cells #[.int .i64 view, .int .i64 block] 147 (0, 0)) hSw (by simp)); have c0 : w.cell? ⟨ns, 0, none⟩ = some (.int .i64 view) := cell_of_blk hb 0; have c1 : w.cell? ⟨ns, 1, none⟩ = some (.int .i64 block) := cell_of_blk hb 1; clear hSw hb; go_simp; try (with_reducible rfl))
    try simp only [Act.put, List.setIfInBounds_toArray, List.set_cons_zero, List.set_cons_succ]
    refine takeS 5 (some 48) (v := ?_) rfl (by rfl) (by kernel_rfl) (by kernel_rfl) (by kernel_rfl) (fun _ _ _ h => h) (by kernel_rfl) (by kernel_rfl) (by kernel_rfl) ?_ (by assumption) ?_
    rotate_left
    · (intro w hSw; have e := MapG.lookup spot_run (hSw).getMapG Try.underlying140 (zeroMap w) (view, block) false; rw [HK.out] at e; simp only [Bool.false_eq_true, if_false, pairEnc, Option.getD] at e; clear hSw; go_simp; try (with_reducible rfl))
    try simp only [Act.put, List.setIfInBounds_toArray, List.set_cons_zero, List.set_cons_succ]
    refine takeS 6 (some 49) (v := ?_) rfl (by rfl) (by kernel_rfl) (by kernel_rfl) (by kernel_rfl) (fun _ _ _ h => h) (by kernel_rfl) (by kernel_rfl) (by kernel_rfl) ?_ (by assumption) ?_
    rotate_left
    · (intro w hSw; clear hSw; have e := fun v => run_eql_map_nil (P := Try.prog) w 75 3 3 v Try.underlying75; go_simp; try (with_reducible rfl))
    try simp only [Act.put, List.setIfInBounds_toArray, List.set_cons_zero, List.set_cons_succ]
    refine doneT (by kernel_rfl) ?_ _
    have HV4 := Lib.hid hS1
    clear hS1
    go_wp2_with fail
    obtain ⟨wq, hwq⟩ : ∃ y : World, y = x4.drew := ⟨_, rfl⟩
    rw [← hwq] at HV4 ⊢
    obtain ⟨nb, HNB⟩ : ∃ n, Hid (n = wq.heap.size) := ⟨_, rfl⟩
    have hS1 := HV4.out.drew
    clear hwq
    refine wp_region_stage (fun x : World => Sys x (upd m 0 (worldT p d (X.digest (voteB view block)))) (mapGT pairEnc vb mm :: (R ++ (blk ns (.cells #[.int .i64 view, .int .i64 block] 147 (0, 0)) :: blk q (.cells #[.pointer (some ⟨p, 0, none⟩), .int .i64 c.f, .int .i64 c.n, .int .i64 c.cl, .int .i64 c.ba, .int .i64 c.mo, .int .i64 c.bt, .int .i64 c.po, .int .i64 c.wi, .map (some vb), .map (some ob)] 143 (0, 0)) :: blk nr (.cells #[.int .i64 0, .int .i64 0, .slice none 0 0] 28 (0, 0)) :: outsT ob O :: l)))) [6] (by kernel_rfl) ?_
    refine takeW 0 (some 50) (v := ?_) rfl (by rfl) (by kernel_rfl) (by kernel_rfl) (by kernel_rfl) (fun _ _ _ h => h) (by kernel_rfl) (by kernel_rfl) ?_ (Stage.still (by assumption)) ?_
    rotate_left
    · (intro w; go_simp; try (with_reducible rfl))
    try simp only [Act.put, List.setIfInBounds_toArray, List.set_cons_zero, List.set_cons_succ]
    refine takeW 1 (some 51) (v := ?_) rfl (by rfl) (by kernel_rfl) (by kernel_rfl) (by kernel_rfl) (fun _ _ _ h => h) (by kernel_rfl) (by kernel_rfl) ?_ (Stage.still (by assumption)) ?_
    rotate_left
    · (intro w; go_simp; try (with_reducible rfl))
    try simp only [Act.put, List.setIfInBounds_toArray, List.set_cons_zero, List.set_cons_succ]
    refine takeW 2 (some 52) (v := ?_) rfl (by rfl) (by kernel_rfl) (by kernel_rfl) (by kernel_rfl) (fun _ _ _ h => h) (by kernel_rfl) (by kernel_rfl) ?_ (Stage.still (by assumption)) ?_
    rotate_left
    · (intro w; go_simp; try (with_reducible rfl))
    try simp only [Act.put, List.setIfInBounds_toArray, List.set_cons_zero, List.set_cons_succ]
    refine takeS 3 (some 53) (v := ?_) rfl (by rfl) (by kernel_rfl) (by kernel_rfl) (by kernel_rfl) (fun _ _ _ h => h) (by kernel_rfl) (by kernel_rfl) (by kernel_rfl) ?_ (by assumption) ?_
    rotate_left
    · (intro w hSw; have c : w.cell? ⟨q, 9, none⟩ = some (.map (some vb)) := cell_of_blk (Sys.memBlk (n := q) (o := .cells #[.pointer (some ⟨p, 0, none⟩), .int .i64 c.f, .int .i64 c.n, .int .i64 c.cl, .int .i64 c.ba, .int .i64 c.mo, .int .i64 c.bt, .int .i64 c.po, .int .i64 c.wi, .map (some vb), .map (some ob)] 143 (0, 0)) hSw (by simp)) 9; clear hSw; go_simp; try (with_reducible rfl))
    try simp only [Act.put, List.setIfInBounds_toArray, List.set_cons_zero, List.set_cons_succ]
    refine takeS 4 (some 54) (v := ?_) rfl (by rfl) (by kernel_rfl) (by kernel_rfl) (by kernel_rfl) (fun _ _ _ h => h) (by kernel_rfl) (by kernel_rfl) (by kernel_rfl) ?_ (by assumption) ?_
    rotate_left
    · (intro w hSw; have hb := (Sys.memBlk (n := ns) (o := .cells #[.int .i64 view, .int .i64 block] 147 (0, 0)) hSw (by simp)); have c0 : w.cell? ⟨ns, 0, none⟩ = some (.int .i64 view) := cell_of_blk hb 0; have c1 : w.cell? ⟨ns, 1, none⟩ = some (.int .i64 block) := cell_of_blk hb 1; clear hSw hb; go_simp; try (with_reducible rfl))
    try simp only [Act.put, List.setIfInBounds_toArray, List.set_cons_zero, List.set_cons_succ]
    refine oneT 5 (by kernel_rfl) rfl (fun K hK => ?_)
    have hmm := @run_makeMap Try.prog
    go_simp
    clear hmm
    have HSA := Lib.hid (hS1.push (t := mapT intKey nb []) ((Chg.refl _ _).alloc (.map #[] 0)) (F := (· = nb)) ⟨MapOf.made _ _ HNB.out, rfl⟩ (fun k e => by have e : k = _ := e; have h9 : wq.drew.heap.size = wq.heap.size := rfl; have := HNB.out; omega))
    rw [← HNB.out]
    change K _ (wq.drew.alloc (.map #[] 0))
    generalize wq.drew.alloc (.map #[] 0) = wm at *
    have hS1 := HSA.out.tail
    refine hK.out _ _ (Stage.still ?_) (fun hSt => ?_)
    · (try dsimp only); exact hS1
    clear hK K hSt
    try simp only [Act.put, List.setIfInBounds_toArray, List.set_cons_zero, List.set_cons_succ]
    refine oneT 6 (by kernel_rfl) rfl (fun K hK => ?_)
    obtain ⟨wu, hu, hmu, hcu⟩ := MapG.update spot_run (HSA.out.swap.getMapG) Try.underlying140 (view, block) (.map (some nb))
    simp only [pairEnc] at hu
    have HSU := Lib.hid ((HSA.out.swap.mapGTo hmu hcu).swap)
    clear hmu hcu
    go_simp
    refine hK.out _ _ (Stage.past (by kernel_rfl)) (fun hSt => ?_)
    clear hK K hSt
    try simp only [Act.put, List.setIfInBounds_toArray, List.set_cons_zero, List.set_cons_succ]
    refine doneT (by kernel_rfl) ?_ _
    clear hS1 HSA HV4 HVN
    go_wp2_with fail
    obtain ⟨mq, hmq⟩ : ∃ y, y = aset mm (view, block) (.map (some nb)) := ⟨_, rfl⟩
    rw [← hmq] at HSU
    have HK2 : Hid (alook mq (view, block) = some (.map (some nb))) := by show _ = _; rw [hmq, alook_aset, if_pos rfl]
    have HCL : Hid (∀ w' m' l' L', AllWf L' → Sys w' m' (mapT intKey nb (ones L') :: mapGT pairEnc vb mq :: (R ++ l')) → Sys w' m' (votesT vb (aset V (view, block) L') :: l')) := fun w' m' l' L' h1 h2 => hcl w' m' l' nb L' h1 (by rw [← hmq]; exact h2)
    clear hmq hcl HK
    obtain ⟨b, hb⟩ : ∃ b, b = nb := ⟨_, rfl⟩
    rw [← hb] at HK2 HCL HSU
    have HK := HK2
    clear HK2 hb
    obtain ⟨L0, hL0⟩ : ∃ L : List Int, L = [] := ⟨_, rfl⟩
    have HST : Hid (Sys wu (upd m 0 (worldT p d (X.digest (voteB view block)))) (mapT intKey b (ones L0) :: mapGT pairEnc vb mq :: (R ++ (blk ns (.cells #[.int .i64 view, .int .i64 block] 147 (0, 0)) :: blk q (.cells #[.pointer (some ⟨p, 0, none⟩), .int .i64 c.f, .int .i64 c.n, .int .i64 c.cl, .int .i64 c.ba, .int .i64 c.mo, .int .i64 c.bt, .int .i64 c.po, .int .i64 c.wi, .map (some vb), .map (some ob)] 143 (0, 0)) :: blk nr (.cells #[.int .i64 0, .int .i64 0, .slice none 0 0] 28 (0, 0)) :: outsT ob O :: l)))) := by rw [hL0]; exact HSU.out
    have HWL : Hid (AllWf (addTo L0 who)) := by
      show AllWf _
      rw [hL0]; intro a ha; rcases mem_addTo.1 ha with h | h
      · cases h
      · rw [h]; exact HWW.out
    have HV0 : Hid (voters V (view, block) = L0) := by show _ = _; rw [hL0]; exact HL0.out
    rw [HV0.out] at HLV HQ0
    clear hL0 HSU HL0
    have HWF : Hid (∀ pr ∈ ones (addTo L0 who), (Lit.int .i64 pr.1).wf = true) := by
      intro pr hp
      obtain ⟨a, ha, rfl⟩ := List.mem_map.1 hp
      exact HWL.out a ha
    have HLB : Hid ((ones (addTo L0 who)).length * 8 ≤ 140737488355328) := by
      show _ ≤ _
      rw [show (ones (addTo L0 who)).length = (addTo L0 who).length by simp [ones]]
      have h1 := addTo_len L0 who
      have h2 := HLV.out
      omega
    have hq7 : decide (((addTo L0 who).length : Int) < 2 * c.f + 1) = true := by have := HQ0.out; simp; omega
    have hS1 := HST.out.drew
    refine wp_region_stage (fun x : World => Sys x (upd m 0 (worldT p d (X.digest (voteB view block)))) (mapT intKey b (ones L0) :: mapGT pairEnc vb mq :: (R ++ (blk ns (.cells #[.int .i64 view, .int .i64 block] 147 (0, 0)) :: blk q (.cells #[.pointer (some ⟨p, 0, none⟩), .int .i64 c.f, .int .i64 c.n, .int .i64 c.cl, .int .i64 c.ba, .int .i64 c.mo, .int .i64 c.bt, .int .i64 c.po, .int .i64 c.wi, .map (some vb), .map (some ob)] 143 (0, 0)) :: blk nr (.cells #[.int .i64 0, .int .i64 0, .slice none 0 0] 28 (0, 0)) :: outsT ob O :: l)))) [7] (by kernel_rfl) ?_
    refine takeW 0 (some 56) (v := ?_) rfl (by rfl) (by kernel_rfl) (by kernel_rfl) (by kernel_rfl) (fun _ _ _ h => h) (by kernel_rfl) (by kernel_rfl) ?_ (Stage.still (by assumption)) ?_
    rotate_left
    · (intro w; go_simp; try (with_reducible rfl))
    try simp only [Act.put, List.setIfInBounds_toArray, List.set_cons_zero, List.set_cons_succ]
    refine takeW 1 (some 57) (v := ?_) rfl (by rfl) (by kernel_rfl) (by kernel_rfl) (by kernel_rfl) (fun _ _ _ h => h) (by kernel_rfl) (by kernel_rfl) ?_ (Stage.still (by assumption)) ?_
    rotate_left
    · (intro w; go_simp; try (with_reducible rfl))
    try simp only [Act.put, List.setIfInBounds_toArray, List.set_cons_zero, List.set_cons_succ]
    refine takeW 2 (some 58) (v := ?_) rfl (by rfl) (by kernel_rfl) (by kernel_rfl) (by kernel_rfl) (fun _ _ _ h => h) (by kernel_rfl) (by kernel_rfl) ?_ (Stage.still (by assumption)) ?_
    rotate_left
    · (intro w; go_simp; try (with_reducible rfl))
    try simp only [Act.put, List.setIfInBounds_toArray, List.set_cons_zero, List.set_cons_succ]
    refine takeS 3 (some 59) (v := ?_) rfl (by rfl) (by kernel_rfl) (by kernel_rfl) (by kernel_rfl) (fun _ _ _ h => h) (by kernel_rfl) (by kernel_rfl) (by kernel_rfl) ?_ (by assumption) ?_
    rotate_left
    · (intro w hSw; have c : w.cell? ⟨q, 9, none⟩ = some (.map (some vb)) := cell_of_blk (Sys.memBlk (n := q) (o := .cells #[.pointer (some ⟨p, 0, none⟩), .int .i64 c.f, .int .i64 c.n, .int .i64 c.cl, .int .i64 c.ba, .int .i64 c.mo, .int .i64 c.bt, .int .i64 c.po, .int .i64 c.wi, .map (some vb), .map (some ob)] 143 (0, 0)) hSw (by simp)) 9; clear hSw; go_simp; try (with_reducible rfl))
    try simp only [Act.put, List.setIfInBounds_toArray, List.set_cons_zero, List.set_cons_succ]
    refine takeS 4 (some 60) (v := ?_) rfl (by rfl) (by kernel_rfl) (by kernel_rfl) (by kernel_rfl) (fun _ _ _ h => h) (by kernel_rfl) (by kernel_rfl) (by kernel_rfl) ?_ (by assumption) ?_
    rotate_left
    · (intro w hSw; have hb := (Sys.memBlk (n := ns) (o := .cells #[.int .i64 view, .int .i64 block] 147 (0, 0)) hSw (by simp)); have c0 : w.cell? ⟨ns, 0, none⟩ = some (.int .i64 view) := cell_of_blk hb 0; have c1 : w.cell? ⟨ns, 1, none⟩ = some (.int .i64 block) := cell_of_blk hb 1; clear hSw hb; go_simp; try (with_reducible rfl))
    try simp only [Act.put, List.setIfInBounds_toArray, List.set_cons_zero, List.set_cons_succ]
    refine takeS 5 (some 61) (v := ?_) rfl (by rfl) (by kernel_rfl) (by kernel_rfl) (by kernel_rfl) (fun _ _ _ h => h) (by kernel_rfl) (by kernel_rfl) (by kernel_rfl) ?_ (by assumption) ?_
    rotate_left
    · (intro w hSw; have e := MapG.lookup spot_run (hSw.swap).getMapG Try.underlying140 (zeroMap w) (view, block) false; rw [HK.out] at e; simp only [Bool.false_eq_true, if_false, pairEnc, Option.getD] at e; clear hSw; go_simp; try (with_reducible rfl))
    try simp only [Act.put, List.setIfInBounds_toArray, List.set_cons_zero, List.set_cons_succ]
    refine takeW 6 (some 62) (v := ?_) rfl (by rfl) (by kernel_rfl) (by kernel_rfl) (by kernel_rfl) (fun _ _ _ h => h) (by kernel_rfl) (by kernel_rfl) ?_ (Stage.still (by assumption)) ?_
    rotate_left
    · (intro w; go_simp; try (with_reducible rfl))
    try simp only [Act.put, List.setIfInBounds_toArray, List.set_cons_zero, List.set_cons_succ]
    refine oneT 7 (by kernel_rfl) rfl (fun K hK => ?_)
    obtain ⟨wv, hv, hmv, hcv, _⟩ := hS1.getMap.update (P := Try.prog) Try.underlying75 Try.underlying3 who (.int .i64 1)
    simp only [intKey] at hv
    rw [show aset (ones L0) who (Value.int .i64 1) = ones (addTo L0 who) from aset_ones L0 who] at hmv
    have HSV := Lib.hid (hS1.mapTo hmv hcv)
    clear hmv hcv
    go_simp
    refine hK.out _ _ (Stage.past (by kernel_rfl)) (fun hSt => ?_)
    clear hK K hSt
    try simp only [Act.put, List.setIfInBounds_toArray, List.set_cons_zero, List.set_cons_succ]
    refine doneT (by kernel_rfl) ?_ _
    clear hS1 HST
    go_wp2_with fail
    have hS1 := HSV.out.drew
    refine wp_region_stage (fun x : World => Sys x (upd m 0 (worldT p d (X.digest (voteB view block)))) (mapT intKey b (ones (addTo L0 who)) :: mapGT pairEnc vb mq :: (R ++ (blk ns (.cells #[.int .i64 view, .int .i64 block] 147 (0, 0)) :: blk q (.cells #[.pointer (some ⟨p, 0, none⟩), .int .i64 c.f, .int .i64 c.n, .int .i64 c.cl, .int .i64 c.ba, .int .i64 c.mo, .int .i64 c.bt, .int .i64 c.po, .int .i64 c.wi, .map (some vb), .map (some ob)] 143 (0, 0)) :: blk nr (.cells #[.int .i64 0, .int .i64 0, .slice none 0 0] 28 (0, 0)) :: outsT ob O :: l)))) [] (by kernel_rfl) ?_
    refine takeW 0 (some 63) (v := ?_) rfl (by rfl) (by kernel_rfl) (by kernel_rfl) (by kernel_rfl) (fun _ _ _ h => h) (by kernel_rfl) (by kernel_rfl) ?_ (Stage.still (by assumption)) ?_
    rotate_left
    · (intro w; go_simp; try (with_reducible rfl))
    try simp only [Act.put, List.setIfInBounds_toArray, List.set_cons_zero, List.set_cons_succ]
    refine takeW 1 (some 64) (v := ?_) rfl (by rfl) (by kernel_rfl) (by kernel_rfl) (by kernel_rfl) (fun _ _ _ h => h) (by kernel_rfl) (by kernel_rfl) ?_ (Stage.still (by assumption)) ?_
    rotate_left
    · (intro w; go_simp; try (with_reducible rfl))
    try simp only [Act.put, List.setIfInBounds_toArray, List.set_cons_zero, List.set_cons_succ]
    refine takeW 2 (some 65) (v := ?_) rfl (by rfl) (by kernel_rfl) (by kernel_rfl) (by kernel_rfl) (fun _ _ _ h => h) (by kernel_rfl) (by kernel_rfl) ?_ (Stage.still (by assumption)) ?_
    rotate_left
    · (intro w; go_simp; try (with_reducible rfl))
    try simp only [Act.put, List.setIfInBounds_toArray, List.set_cons_zero, List.set_cons_succ]
    refine takeS 3 (some 66) (v := ?_) rfl (by rfl) (by kernel_rfl) (by kernel_rfl) (by kernel_rfl) (fun _ _ _ h => h) (by kernel_rfl) (by kernel_rfl) (by kernel_rfl) ?_ (by assumption) ?_
    rotate_left
    · (intro w hSw; have c : w.cell? ⟨q, 9, none⟩ = some (.map (some vb)) := cell_of_blk (Sys.memBlk (n := q) (o := .cells #[.pointer (some ⟨p, 0, none⟩), .int .i64 c.f, .int .i64 c.n, .int .i64 c.cl, .int .i64 c.ba, .int .i64 c.mo, .int .i64 c.bt, .int .i64 c.po, .int .i64 c.wi, .map (some vb), .map (some ob)] 143 (0, 0)) hSw (by simp)) 9; clear hSw; go_simp; try (with_reducible rfl))
    try simp only [Act.put, List.setIfInBounds_toArray, List.set_cons_zero, List.set_cons_succ]
    refine takeS 4 (some 67) (v := ?_) rfl (by rfl) (by kernel_rfl) (by kernel_rfl) (by kernel_rfl) (fun _ _ _ h => h) (by kernel_rfl) (by kernel_rfl) (by kernel_rfl) ?_ (by assumption) ?_
    rotate_left
    · (intro w hSw; have hb := (Sys.memBlk (n := ns) (o := .cells #[.int .i64 view, .int .i64 block] 147 (0, 0)) hSw (by simp)); have c0 : w.cell? ⟨ns, 0, none⟩ = some (.int .i64 view) := cell_of_blk hb 0; have c1 : w.cell? ⟨ns, 1, none⟩ = some (.int .i64 block) := cell_of_blk hb 1; clear hSw hb; go_simp; try (with_reducible rfl))
    try simp only [Act.put, List.setIfInBounds_toArray, List.set_cons_zero, List.set_cons_succ]
    refine takeS 5 (some 68) (v := ?_) rfl (by rfl) (by kernel_rfl) (by kernel_rfl) (by kernel_rfl) (fun _ _ _ h => h) (by kernel_rfl) (by kernel_rfl) (by kernel_rfl) ?_ (by assumption) ?_
    rotate_left
    · (intro w hSw; have e := MapG.lookup spot_run (hSw.swap).getMapG Try.underlying140 (zeroMap w) (view, block) false; rw [HK.out] at e; simp only [Bool.false_eq_true, if_false, pairEnc, Option.getD] at e; clear hSw; go_simp; try (with_reducible rfl))
    try simp only [Act.put, List.setIfInBounds_toArray, List.set_cons_zero, List.set_cons_succ]
    refine takeS 6 (some 69) (v := ?_) rfl (by rfl) (by kernel_rfl) (by kernel_rfl) (by kernel_rfl) (fun _ _ _ h => h) (by kernel_rfl) (by kernel_rfl) (by kernel_rfl) ?_ (by assumption) ?_
    rotate_left
    · (intro w hSw; have e := hSw.getMap.len (P := Try.prog) (ty := 3) Try.underlying75; rw [show (ones (addTo L0 who)).length = (addTo L0 who).length by simp [ones]] at e; clear hSw; go_simp; try (with_reducible rfl))
    try simp only [Act.put, List.setIfInBounds_toArray, List.set_cons_zero, List.set_cons_succ]
    refine takeW 7 (some 70) (v := ?_) rfl (by rfl) (by kernel_rfl) (by kernel_rfl) (by kernel_rfl) (fun _ _ _ h => h) (by kernel_rfl) (by kernel_rfl) ?_ (Stage.still (by assumption)) ?_
    rotate_left
    · (intro w; go_simp; try (with_reducible rfl))
    try simp only [Act.put, List.setIfInBounds_toArray, List.set_cons_zero, List.set_cons_succ]
    refine takeW 8 (some 71) (v := ?_) rfl (by rfl) (by kernel_rfl) (by kernel_rfl) (by kernel_rfl) (fun _ _ _ h => h) (by kernel_rfl) (by kernel_rfl) ?_ (Stage.still (by assumption)) ?_
    rotate_left
    · (intro w; go_simp; try (with_reducible rfl))
    try simp only [Act.put, List.setIfInBounds_toArray, List.set_cons_zero, List.set_cons_succ]
    refine takeW 9 (some 72) (v := ?_) rfl (by rfl) (by kernel_rfl) (by kernel_rfl) (by kernel_rfl) (fun _ _ _ h => h) (by kernel_rfl) (by kernel_rfl) ?_ (Stage.still (by assumption)) ?_
    rotate_left
    · (intro w; go_simp; try (with_reducible rfl))
    try simp only [Act.put, List.setIfInBounds_toArray, List.set_cons_zero, List.set_cons_succ]
    refine takeS 10 (some 73) (v := ?_) rfl (by rfl) (by kernel_rfl) (by kernel_rfl) (by kernel_rfl) (fun _ _ _ h => h) (by kernel_rfl) (by kernel_rfl) (by kernel_rfl) ?_ (by assumption) ?_
    rotate_left
    · (intro w hSw; have hb := (Sys.memBlk (n := q) (o := .cells #[.pointer (some ⟨p, 0, none⟩), .int .i64 c.f, .int .i64 c.n, .int .i64 c.cl, .int .i64 c.ba, .int .i64 c.mo, .int .i64 c.bt, .int .i64 c.po, .int .i64 c.wi, .map (some vb), .map (some ob)] 143 (0, 0)) hSw (by simp)); have c0 : w.cell? ⟨q, 1, none⟩ = some (.int .i64 c.f) := cell_of_blk hb 1; have c1 : w.cell? ⟨q, 2, none⟩ = some (.int .i64 c.n) := cell_of_blk hb 2; have c2 : w.cell? ⟨q, 3, none⟩ = some (.int .i64 c.cl) := cell_of_blk hb 3; have c3 : w.cell? ⟨q, 4, none⟩ = some (.int .i64 c.ba) := cell_of_blk hb 4; have c4 : w.cell? ⟨q, 5, none⟩ = some (.int .i64 c.mo) := cell_of_blk hb 5; have c5 : w.cell? ⟨q, 6, none⟩ = some (.int .i64 c.bt) := cell_of_blk hb 6; have c6 : w.cell? ⟨q, 7, none⟩ = some (.int .i64 c.po) := cell_of_blk hb 7; have c7 : w.cell? ⟨q, 8, none⟩ = some (.int .i64 c.wi) := cell_of_blk hb 8; clear hSw hb; go_simp; try (with_reducible rfl))
    try simp only [Act.put, List.setIfInBounds_toArray, List.set_cons_zero, List.set_cons_succ]
    refine oneT 11 (by kernel_rfl) rfl (fun K hK => ?_)
    go_simp
    go_at_call 48
    refine (cert_quorum c HG.out hS1).mono ?_
    rintro e w7 ⟨rfl, h7⟩
    have hS1 := h7
    clear h7
    go_wp2_with fail
    refine hK.out _ _ (Stage.still ?_) (fun hSt => ?_)
    · (try dsimp only); exact hS1
    clear hK K hSt
    try simp only [Act.put, List.setIfInBounds_toArray, List.set_cons_zero, List.set_cons_succ]
    refine takeW 12 (some 75) (v := ?_) rfl (by rfl) (by kernel_rfl) (by kernel_rfl) (by kernel_rfl) (fun _ _ _ h => h) (by kernel_rfl) (by kernel_rfl) ?_ (Stage.still (by assumption)) ?_
    rotate_left
    · (intro w; go_simp; try (with_reducible rfl))
    try simp only [Act.put, List.setIfInBounds_toArray, List.set_cons_zero, List.set_cons_succ]
    refine doneT (by kernel_rfl) ?_ _
    have HSR := Lib.hid ((HCL.out w7 _ (blk ns (.cells #[.int .i64 view, .int .i64 block] 147 (0, 0)) :: blk q (.cells #[.pointer (some ⟨p, 0, none⟩), .int .i64 c.f, .int .i64 c.n, .int .i64 c.cl, .int .i64 c.ba, .int .i64 c.mo, .int .i64 c.bt, .int .i64 c.po, .int .i64 c.wi, .map (some vb), .map (some ob)] 143 (0, 0)) :: blk nr (.cells #[.int .i64 0, .int .i64 0, .slice none 0 0] 28 (0, 0)) :: outsT ob O :: l) (addTo L0 who) HWL.out hS1).perm (rot4 _ _ _ _ _ _))
    clear hS1 HSV
    have hbr : w7.heap[nr]? = _ := HSR.out.getBlk
    have hzz := setRow_heap w7 nr _ #[.int .i64 0, .int .i64 0, .slice none 0 0] _ _ hbr
    have HF := Lib.hid (HSR.out.store ((Chg.refl (· = nr) w7).row #[.int .i64 0, .int .i64 0, .slice none 0 0]) hzz)
    go_wp2_with (refine wpList_store_row rfl 28 _ _ rfl nr #[.int .i64 0, .int .i64 0, .slice none 0 0] rfl rfl _ _ hbr size3 rfl (by simp [Value.oneCell']) ?_)
    (try simp only [Exit.inBlock, Exit.then])
    refine bodyPost_ret (results_cell_tmp (cs := #[.int .i64 0, .int .i64 0, .slice none 0 0]) rfl _ _ nr _ _ _ rfl hzz Try.underlying28 rfl size3) rfl ?_
    exact ⟨rfl, by rw [HV0.out]; exact Sys.close (vb, ob) HF.out.tail.tail⟩
  | some L0 =>
    have hv0 : voters V (view, block) = L0 := by unfold voters; rw [hk]; rfl
    obtain ⟨b, mq, R, hkm, hwf0, hst, hcl⟩ := votes_focus H4.out hk
    have HK := Lib.hid hkm
    have HCL := Lib.hid hcl
    have HWL : Hid (AllWf (addTo L0 who)) := by
      intro a ha; rcases mem_addTo.1 ha with h | h
      · exact hwf0 a h
      · rw [h]; exact HWW.out
    rw [hv0] at HLV HQ0
    have HV0 := Lib.hid hv0
    have hS1 := hst.drew
    clear hkm hcl hwf0 hst hk hv0
    refine wp_region_stage (fun x : World => Sys x (upd m 0 (worldT p d (X.digest (voteB view block)))) (mapT intKey b (ones L0) :: mapGT pairEnc vb mq :: (R ++ (blk ns (.cells #[.int .i64 view, .int .i64 block] 147 (0, 0)) :: blk q (.cells #[.pointer (some ⟨p, 0, none⟩), .int .i64 c.f, .int .i64 c.n, .int .i64 c.cl, .int .i64 c.ba, .int .i64 c.mo, .int .i64 c.bt, .int .i64 c.po, .int .i64 c.wi, .map (some vb), .map (some ob)] 143 (0, 0)) :: blk nr (.cells #[.int .i64 0, .int .i64 0, .slice none 0 0] 28 (0, 0)) :: outsT ob O :: l)))) [] (by kernel_rfl) ?_
    refine takeW 0 (some 43) (v := ?_) rfl (by rfl) (by kernel_rfl) (by kernel_rfl) (by kernel_rfl) (fun _ _ _ h => h) (by kernel_rfl) (by kernel_rfl) ?_ (Stage.still (by assumption)) ?_
    rotate_left
    · (intro w; go_simp; try (with_reducible rfl))
    try simp only [Act.put, List.setIfInBounds_toArray, List.set_cons_zero, List.set_cons_succ]
    refine takeW 1 (some 44) (v := ?_) rfl (by rfl) (by kernel_rfl) (by kernel_rfl) (by kernel_rfl) (fun _ _ _ h => h) (by kernel_rfl) (by kernel_rfl) ?_ (Stage.still (by assumption)) ?_
    rotate_left
    · (intro w; go_simp; try (with_reducible rfl))
    try simp only [Act.put, List.setIfInBounds_toArray, List.set_cons_zero, List.set_cons_succ]
    refine takeW 2 (some 45) (v := ?_) rfl (by rfl) (by kernel_rfl) (by kernel_rfl) (by kernel_rfl) (fun _ _ _ h => h) (by kernel_rfl) (by kernel_rfl) ?_ (Stage.still (by assumption)) ?_
    rotate_left
    · (intro w; go_simp; try (with_reducible rfl))
    try simp only [Act.put, List.setIfInBounds_toArray, List.set_cons_zero, List.set_cons_succ]
    refine takeS 3 (some 46) (v := ?_) rfl (by rfl) (by kernel_rfl) (by kernel_rfl) (by kernel_rfl) (fun _ _ _ h => h) (by kernel_rfl) (by kernel_rfl) (by kernel_rfl) ?_ (by assumption) ?_
    rotate_left
    · (intro w hSw; have c : w.cell? ⟨q, 9, none⟩ = some (.map (some vb)) := cell_of_blk (Sys.memBlk (n := q) (o := .cells #[.pointer (some ⟨p, 0, none⟩), .int .i64 c.f, .int .i64 c.n, .int .i64 c.cl, .int .i64 c.ba, .int .i64 c.mo, .int .i64 c.bt, .int .i64 c.po, .int .i64 c.wi, .map (some vb), .map (some ob)] 143 (0, 0)) hSw (by simp)) 9; clear hSw; go_simp; try (with_reducible rfl))
    try simp only [Act.put, List.setIfInBounds_toArray, List.set_cons_zero, List.set_cons_succ]
    refine takeS 4 (some 47) (v := ?_) rfl (by rfl) (by kernel_rfl) (by kernel_rfl) (by kernel_rfl) (fun _ _ _ h => h) (by kernel_rfl) (by kernel_rfl) (by kernel_rfl) ?_ (by assumption) ?_
    rotate_left
    · (intro w hSw; have hb := (Sys.memBlk (n := ns) (o := .cells #[.int .i64 view, .int .i64 block] 147 (0, 0)) hSw (by simp)); have c0 : w.cell? ⟨ns, 0, none⟩ = some (.int .i64 view) := cell_of_blk hb 0; have c1 : w.cell? ⟨ns, 1, none⟩ = some (.int .i64 block) := cell_of_blk hb 1; clear hSw hb; go_simp; try (with_reducible rfl))
    try simp only [Act.put, List.setIfInBounds_toArray, List.set_cons_zero, List.set_cons_succ]
    refine takeS 5 (some 48) (v := ?_) rfl (by rfl) (by kernel_rfl) (by kernel_rfl) (by kernel_rfl) (fun _ _ _ h => h) (by kernel_rfl) (by kernel_rfl) (by kernel_rfl) ?_ (by assumption) ?_
    rotate_left
    · (intro w hSw; have e := MapG.lookup spot_run (hSw.swap).getMapG Try.underlying140 (zeroMap w) (view, block) false; rw [HK.out] at e; simp only [Bool.false_eq_true, if_false, pairEnc, Option.getD] at e; clear hSw; go_simp; try (with_reducible rfl))
    try simp only [Act.put, List.setIfInBounds_toArray, List.set_cons_zero, List.set_cons_succ]
    refine takeS 6 (some 49) (v := ?_) rfl (by rfl) (by kernel_rfl) (by kernel_rfl) (by kernel_rfl) (fun _ _ _ h => h) (by kernel_rfl) (by kernel_rfl) (by kernel_rfl) ?_ (by assumption) ?_
    rotate_left
    · (intro w hSw; clear hSw; have e := fun v => run_eql_map_nil (P := Try.prog) w 75 3 3 v Try.underlying75; go_simp; try (with_reducible rfl))
    try simp only [Act.put, List.setIfInBounds_toArray, List.set_cons_zero, List.set_cons_succ]
    refine doneT (by kernel_rfl) ?_ _
    have HST := Lib.hid hS1
    clear hS1
    go_wp2_with fail
    have HWF : Hid (∀ pr ∈ ones (addTo L0 who), (Lit.int .i64 pr.1).wf = true) := by
      intro pr hp
      obtain ⟨a, ha, rfl⟩ := List.mem_map.1 hp
      exact HWL.out a ha
    have HLB : Hid ((ones (addTo L0 who)).length * 8 ≤ 140737488355328) := by
      show _ ≤ _
      rw [show (ones (addTo L0 who)).length = (addTo L0 who).length by simp [ones]]
      have h1 := addTo_len L0 who
      have h2 := HLV.out
      omega
    have hq7 : decide (((addTo L0 who).length : Int) < 2 * c.f + 1) = true := by have := HQ0.out; simp; omega
    have hS1 := HST.out.drew
    refine wp_region_stage (fun x : World => Sys x (upd m 0 (worldT p d (X.digest (voteB view block)))) (mapT intKey b (ones L0) :: mapGT pairEnc vb mq :: (R ++ (blk ns (.cells #[.int .i64 view, .int .i64 block] 147 (0, 0)) :: blk q (.cells #[.pointer (some ⟨p, 0, none⟩), .int .i64 c.f, .int .i64 c.n, .int .i64 c.cl, .int .i64 c.ba, .int .i64 c.mo, .int .i64 c.bt, .int .i64 c.po, .int .i64 c.wi, .map (some vb), .map (some ob)] 143 (0, 0)) :: blk nr (.cells #[.int .i64 0, .int .i64 0, .slice none 0 0] 28 (0, 0)) :: outsT ob O :: l)))) [7] (by kernel_rfl) ?_
    refine takeW 0 (some 56) (v := ?_) rfl (by rfl) (by kernel_rfl) (by kernel_rfl) (by kernel_rfl) (fun _ _ _ h => h) (by kernel_rfl) (by kernel_rfl) ?_ (Stage.still (by assumption)) ?_
    rotate_left
    · (intro w; go_simp; try (with_reducible rfl))
    try simp only [Act.put, List.setIfInBounds_toArray, List.set_cons_zero, List.set_cons_succ]
    refine takeW 1 (some 57) (v := ?_) rfl (by rfl) (by kernel_rfl) (by kernel_rfl) (by kernel_rfl) (fun _ _ _ h => h) (by kernel_rfl) (by kernel_rfl) ?_ (Stage.still (by assumption)) ?_
    rotate_left
    · (intro w; go_simp; try (with_reducible rfl))
    try simp only [Act.put, List.setIfInBounds_toArray, List.set_cons_zero, List.set_cons_succ]
    refine takeW 2 (some 58) (v := ?_) rfl (by rfl) (by kernel_rfl) (by kernel_rfl) (by kernel_rfl) (fun _ _ _ h => h) (by kernel_rfl) (by kernel_rfl) ?_ (Stage.still (by assumption)) ?_
    rotate_left
    · (intro w; go_simp; try (with_reducible rfl))
    try simp only [Act.put, List.setIfInBounds_toArray, List.set_cons_zero, List.set_cons_succ]
    refine takeS 3 (some 59) (v := ?_) rfl (by rfl) (by kernel_rfl) (by kernel_rfl) (by kernel_rfl) (fun _ _ _ h => h) (by kernel_rfl) (by kernel_rfl) (by kernel_rfl) ?_ (by assumption) ?_
    rotate_left
    · (intro w hSw; have c : w.cell? ⟨q, 9, none⟩ = some (.map (some vb)) := cell_of_blk (Sys.memBlk (n := q) (o := .cells #[.pointer (some ⟨p, 0, none⟩), .int .i64 c.f, .int .i64 c.n, .int .i64 c.cl, .int .i64 c.ba, .int .i64 c.mo, .int .i64 c.bt, .int .i64 c.po, .int .i64 c.wi, .map (some vb), .map (some ob)] 143 (0, 0)) hSw (by simp)) 9; clear hSw; go_simp; try (with_reducible rfl))
    try simp only [Act.put, List.setIfInBounds_toArray, List.set_cons_zero, List.set_cons_succ]
    refine takeS 4 (some 60) (v := ?_) rfl (by rfl) (by kernel_rfl) (by kernel_rfl) (by kernel_rfl) (fun _ _ _ h => h) (by kernel_rfl) (by kernel_rfl) (by kernel_rfl) ?_ (by assumption) ?_
    rotate_left
    · (intro w hSw; have hb := (Sys.memBlk (n := ns) (o := .cells #[.int .i64 view, .int .i64 block] 147 (0, 0)) hSw (by simp)); have c0 : w.cell? ⟨ns, 0, none⟩ = some (.int .i64 view) := cell_of_blk hb 0; have c1 : w.cell? ⟨ns, 1, none⟩ = some (.int .i64 block) := cell_of_blk hb 1; clear hSw hb; go_simp; try (with_reducible rfl))
    try simp only [Act.put, List.setIfInBounds_toArray, List.set_cons_zero, List.set_cons_succ]
    refine takeS 5 (some 61) (v := ?_) rfl (by rfl) (by kernel_rfl) (by kernel_rfl) (by kernel_rfl) (fun _ _ _ h => h) (by kernel_rfl) (by kernel_rfl) (by kernel_rfl) ?_ (by assumption) ?_
    rotate_left
    · (intro w hSw; have e := MapG.lookup spot_run (hSw.swap).getMapG Try.underlying140 (zeroMap w) (view, block) false; rw [HK.out] at e; simp only [Bool.false_eq_true, if_false, pairEnc, Option.getD] at e; clear hSw; go_simp; try (with_reducible rfl))
    try simp only [Act.put, List.setIfInBounds_toArray, List.set_cons_zero, List.set_cons_succ]
    refine takeW 6 (some 62) (v := ?_) rfl (by rfl) (by kernel_rfl) (by kernel_rfl) (by kernel_rfl) (fun _ _ _ h => h) (by kernel_rfl) (by kernel_rfl) ?_ (Stage.still (by assumption)) ?_
    rotate_left
    · (intro w; go_simp; try (with_reducible rfl))
    try simp only [Act.put, List.setIfInBounds_toArray, List.set_cons_zero, List.set_cons_succ]
    refine oneT 7 (by kernel_rfl) rfl (fun K hK => ?_)
    obtain ⟨wv, hv, hmv, hcv, _⟩ := hS1.getMap.update (P := Try.prog) Try.underlying75 Try.underlying3 who (.int .i64 1)
    simp only [intKey] at hv
    rw [show aset (ones L0) who (Value.int .i64 1) = ones (addTo L0 who) from aset_ones L0 who] at hmv
    have HSV := Lib.hid (hS1.mapTo hmv hcv)
    clear hmv hcv
    go_simp
    refine hK.out _ _ (Stage.past (by kernel_rfl)) (fun hSt => ?_)
    clear hK K hSt
    try simp only [Act.put, List.setIfInBounds_toArray, List.set_cons_zero, List.set_cons_succ]
    refine doneT (by kernel_rfl) ?_ _
    clear hS1 HST
    go_wp2_with fail
    have hS1 := HSV.out.drew
    refine wp_region_stage (fun x : World => Sys x (upd m 0 (worldT p d (X.digest (voteB view block)))) (mapT intKey b (ones (addTo L0 who)) :: mapGT pairEnc vb mq :: (R ++ (blk ns (.cells #[.int .i64 view, .int .i64 block] 147 (0, 0)) :: blk q (.cells #[.pointer (some ⟨p, 0, none⟩), .int .i64 c.f, .int .i64 c.n, .int .i64 c.cl, .int .i64 c.ba, .int .i64 c.mo, .int .i64 c.bt, .int .i64 c.po, .int .i64 c.wi, .map (some vb), .map (some ob)] 143 (0, 0)) :: blk nr (.cells #[.int .i64 0, .int .i64 0, .slice none 0 0] 28 (0, 0)) :: outsT ob O :: l)))) [] (by kernel_rfl) ?_
    refine takeW 0 (some 63) (v := ?_) rfl (by rfl) (by kernel_rfl) (by kernel_rfl) (by kernel_rfl) (fun _ _ _ h => h) (by kernel_rfl) (by kernel_rfl) ?_ (Stage.still (by assumption)) ?_
    rotate_left
    · (intro w; go_simp; try (with_reducible rfl))
    try simp only [Act.put, List.setIfInBounds_toArray, List.set_cons_zero, List.set_cons_succ]
    refine takeW 1 (some 64) (v := ?_) rfl (by rfl) (by kernel_rfl) (by kernel_rfl) (by kernel_rfl) (fun _ _ _ h => h) (by kernel_rfl) (by kernel_rfl) ?_ (Stage.still (by assumption)) ?_
    rotate_left
    · (intro w; go_simp; try (with_reducible rfl))
    try simp only [Act.put, List.setIfInBounds_toArray, List.set_cons_zero, List.set_cons_succ]
    refine takeW 2 (some 65) (v := ?_) rfl (by rfl) (by kernel_rfl) (by kernel_rfl) (by kernel_rfl) (fun _ _ _ h => h) (by kernel_rfl) (by kernel_rfl) ?_ (Stage.still (by assumption)) ?_
    rotate_left
    · (intro w; go_simp; try (with_reducible rfl))
    try simp only [Act.put, List.setIfInBounds_toArray, List.set_cons_zero, List.set_cons_succ]
    refine takeS 3 (some 66) (v := ?_) rfl (by rfl) (by kernel_rfl) (by kernel_rfl) (by kernel_rfl) (fun _ _ _ h => h) (by kernel_rfl) (by kernel_rfl) (by kernel_rfl) ?_ (by assumption) ?_
    rotate_left
    · (intro w hSw; have c : w.cell? ⟨q, 9, none⟩ = some (.map (some vb)) := cell_of_blk (Sys.memBlk (n := q) (o := .cells #[.pointer (some ⟨p, 0, none⟩), .int .i64 c.f, .int .i64 c.n, .int .i64 c.cl, .int .i64 c.ba, .int .i64 c.mo, .int .i64 c.bt, .int .i64 c.po, .int .i64 c.wi, .map (some vb), .map (some ob)] 143 (0, 0)) hSw (by simp)) 9; clear hSw; go_simp; try (with_reducible rfl))
    try simp only [Act.put, List.setIfInBounds_toArray, List.set_cons_zero, List.set_cons_succ]
    refine takeS 4 (some 67) (v := ?_) rfl (by rfl) (by kernel_rfl) (by kernel_rfl) (by kernel_rfl) (fun _ _ _ h => h) (by kernel_rfl) (by kernel_rfl) (by kernel_rfl) ?_ (by assumption) ?_
    rotate_left
    · (intro w hSw; have hb := (Sys.memBlk (n := ns) (o := .cells #[.int .i64 view, .int .i64 block] 147 (0, 0)) hSw (by simp)); have c0 : w.cell? ⟨ns, 0, none⟩ = some (.int .i64 view) := cell_of_blk hb 0; have c1 : w.cell? ⟨ns, 1, none⟩ = some (.int .i64 block) := cell_of_blk hb 1; clear hSw hb; go_simp; try (with_reducible rfl))
    try simp only [Act.put, List.setIfInBounds_toArray, List.set_cons_zero, List.set_cons_succ]
    refine takeS 5 (some 68) (v := ?_) rfl (by rfl) (by kernel_rfl) (by kernel_rfl) (by kernel_rfl) (fun _ _ _ h => h) (by kernel_rfl) (by kernel_rfl) (by kernel_rfl) ?_ (by assumption) ?_
    rotate_left
    · (intro w hSw; have e := MapG.lookup spot_run (hSw.swap).getMapG Try.underlying140 (zeroMap w) (view, block) false; rw [HK.out] at e; simp only [Bool.false_eq_true, if_false, pairEnc, Option.getD] at e; clear hSw; go_simp; try (with_reducible rfl))
    try simp only [Act.put, List.setIfInBounds_toArray, List.set_cons_zero, List.set_cons_succ]
    refine takeS 6 (some 69) (v := ?_) rfl (by rfl) (by kernel_rfl) (by kernel_rfl) (by kernel_rfl) (fun _ _ _ h => h) (by kernel_rfl) (by kernel_rfl) (by kernel_rfl) ?_ (by assumption) ?_
    rotate_left
    · (intro w hSw; have e := hSw.getMap.len (P := Try.prog) (ty := 3) Try.underlying75; rw [show (ones (addTo L0 who)).length = (addTo L0 who).length by simp [ones]] at e; clear hSw; go_simp; try (with_reducible rfl))
    try simp only [Act.put, List.setIfInBounds_toArray, List.set_cons_zero, List.set_cons_succ]
    refine takeW 7 (some 70) (v := ?_) rfl (by rfl) (by kernel_rfl) (by kernel_rfl) (by kernel_rfl) (fun _ _ _ h => h) (by kernel_rfl) (by kernel_rfl) ?_ (Stage.still (by assumption)) ?_
    rotate_left
    · (intro w; go_simp; try (with_reducible rfl))
    try simp only [Act.put, List.setIfInBounds_toArray, List.set_cons_zero, List.set_cons_succ]
    refine takeW 8 (some 71) (v := ?_) rfl (by rfl) (by kernel_rfl) (by kernel_rfl) (by kernel_rfl) (fun _ _ _ h => h) (by kernel_rfl) (by kernel_rfl) ?_ (Stage.still (by assumption)) ?_
    rotate_left
    · (intro w; go_simp; try (with_reducible rfl))
    try simp only [Act.put, List.setIfInBounds_toArray, List.set_cons_zero, List.set_cons_succ]
    refine takeW 9 (some 72) (v := ?_) rfl (by rfl) (by kernel_rfl) (by kernel_rfl) (by kernel_rfl) (fun _ _ _ h => h) (by kernel_rfl) (by kernel_rfl) ?_ (Stage.still (by assumption)) ?_
    rotate_left
    · (intro w; go_simp; try (with_reducible rfl))
    try simp only [Act.put, List.setIfInBounds_toArray, List.set_cons_zero, List.set_cons_succ]
    refine takeS 10 (some 73) (v := ?_) rfl (by rfl) (by kernel_rfl) (by kernel_rfl) (by kernel_rfl) (fun _ _ _ h => h) (by kernel_rfl) (by kernel_rfl) (by kernel_rfl) ?_ (by assumption) ?_
    rotate_left
    · (intro w hSw; have hb := (Sys.memBlk (n := q) (o := .cells #[.pointer (some ⟨p, 0, none⟩), .int .i64 c.f, .int .i64 c.n, .int .i64 c.cl, .int .i64 c.ba, .int .i64 c.mo, .int .i64 c.bt, .int .i64 c.po, .int .i64 c.wi, .map (some vb), .map (some ob)] 143 (0, 0)) hSw (by simp)); have c0 : w.cell? ⟨q, 1, none⟩ = some (.int .i64 c.f) := cell_of_blk hb 1; have c1 : w.cell? ⟨q, 2, none⟩ = some (.int .i64 c.n) := cell_of_blk hb 2; have c2 : w.cell? ⟨q, 3, none⟩ = some (.int .i64 c.cl) := cell_of_blk hb 3; have c3 : w.cell? ⟨q, 4, none⟩ = some (.int .i64 c.ba) := cell_of_blk hb 4; have c4 : w.cell? ⟨q, 5, none⟩ = some (.int .i64 c.mo) := cell_of_blk hb 5; have c5 : w.cell? ⟨q, 6, none⟩ = some (.int .i64 c.bt) := cell_of_blk hb 6; have c6 : w.cell? ⟨q, 7, none⟩ = some (.int .i64 c.po) := cell_of_blk hb 7; have c7 : w.cell? ⟨q, 8, none⟩ = some (.int .i64 c.wi) := cell_of_blk hb 8; clear hSw hb; go_simp; try (with_reducible rfl))
    try simp only [Act.put, List.setIfInBounds_toArray, List.set_cons_zero, List.set_cons_succ]
    refine oneT 11 (by kernel_rfl) rfl (fun K hK => ?_)
    go_simp
    go_at_call 48
    refine (cert_quorum c HG.out hS1).mono ?_
    rintro e w7 ⟨rfl, h7⟩
    have hS1 := h7
    clear h7
    go_wp2_with fail
    refine hK.out _ _ (Stage.still ?_) (fun hSt => ?_)
    · (try dsimp only); exact hS1
    clear hK K hSt
    try simp only [Act.put, List.setIfInBounds_toArray, List.set_cons_zero, List.set_cons_succ]
    refine takeW 12 (some 75) (v := ?_) rfl (by rfl) (by kernel_rfl) (by kernel_rfl) (by kernel_rfl) (fun _ _ _ h => h) (by kernel_rfl) (by kernel_rfl) ?_ (Stage.still (by assumption)) ?_
    rotate_left
    · (intro w; go_simp; try (with_reducible rfl))
    try simp only [Act.put, List.setIfInBounds_toArray, List.set_cons_zero, List.set_cons_succ]
    refine doneT (by kernel_rfl) ?_ _
    have HSR := Lib.hid ((HCL.out w7 _ (blk ns (.cells #[.int .i64 view, .int .i64 block] 147 (0, 0)) :: blk q (.cells #[.pointer (some ⟨p, 0, none⟩), .int .i64 c.f, .int .i64 c.n, .int .i64 c.cl, .int .i64 c.ba, .int .i64 c.mo, .int .i64 c.bt, .int .i64 c.po, .int .i64 c.wi, .map (some vb), .map (some ob)] 143 (0, 0)) :: blk nr (.cells #[.int .i64 0, .int .i64 0, .slice none 0 0] 28 (0, 0)) :: outsT ob O :: l) (addTo L0 who) HWL.out hS1).perm (rot4 _ _ _ _ _ _))
    clear hS1 HSV
    have hbr : w7.heap[nr]? = _ := HSR.out.getBlk
    have hzz := setRow_heap w7 nr _ #[.int .i64 0, .int .i64 0, .slice none 0 0] _ _ hbr
    have HF := Lib.hid (HSR.out.store ((Chg.refl (· = nr) w7).row #[.int .i64 0, .int .i64 0, .slice none 0 0]) hzz)
    go_wp2_with (refine wpList_store_row rfl 28 _ _ rfl nr #[.int .i64 0, .int .i64 0, .slice none 0 0] rfl rfl _ _ hbr size3 rfl (by simp [Value.oneCell']) ?_)
    (try simp only [Exit.inBlock, Exit.then])
    refine bodyPost_ret (results_cell_tmp (cs := #[.int .i64 0, .int .i64 0, .slice none 0 0]) rfl _ _ nr _ _ _ rfl hzz Try.underlying28 rfl size3) rfl ?_
    exact ⟨rfl, by rw [HV0.out]; exact Sys.close (vb, ob) HF.out.tail.tail⟩

set_option maxRecDepth 100000 in
set_option maxHeartbeats 4000000 in
theorem tally_vote_many (c : CfgX) (hg : c.Good) (who view block : Int) (h : Sys w m (tallyT q p c V O :: l)) (hw : m 0 = worldT p d X) (hT : X.T.length ≤ 1000000000) (hrep : repB c who = true) (hview : 1 ≤ view) (hhas : who ∈ X.f (dg X.T (voteB view block))) (hlb : (voters V (view, block)).length ≤ 1000000) (hq : ((addTo (voters V (view, block)) who).length : Int) ≥ 2 * c.f + 1) :
    Calls Try.prog 41 #[.pointer (some ⟨q, 0, none⟩), .int .i64 who, .int .i64 view, .int .i64 block] w fun e w' => ∃ v, e = .returned (.tuple #[.agg #[.int .i64 view, .int .i64 block, v], .bool true]) ∧ Sys w' (upd m 0 (worldT p d (X.digest (voteB view block)))) (own 3 1 v (rising (addTo (voters V (view, block)) who)).length ((rising (addTo (voters V (view, block)) who)).map (Value.int .i64)) :: tallyT q p c (aset V (view, block) (addTo (voters V (view, block)) who)) O :: l) := by
  obtain ⟨⟨vb, ob⟩, h⟩ := h.open
  replace h : Sys w m (blk q (.cells #[.pointer (some ⟨p, 0, none⟩), .int .i64 c.f, .int .i64 c.n, .int .i64 c.cl, .int .i64 c.ba, .int .i64 c.mo, .int .i64 c.bt, .int .i64 c.po, .int .i64 c.wi, .map (some vb), .map (some ob)] 143 (0, 0)) :: votesT vb V :: outsT ob O :: l) := h
  obtain ⟨nr, hnr⟩ : ∃ n, n = w.heap.size := ⟨_, rfl⟩
  obtain ⟨xr, hxr⟩ : ∃ y, y = w.alloc (.cells #[.int .i64 0, .int .i64 0, .slice none 0 0] 28 (0, 0)) := ⟨_, rfl⟩
  have h1 := (h.alloc (.cells #[.int .i64 0, .int .i64 0, .slice none 0 0] 28 (0, 0)) hnr).swap
  rw [← hxr] at h1
  have H1 := Lib.hid h1.drew
  have hS1 := H1.out.getBlk
  have HG := Lib.hid hg
  have HTL := Lib.hid hT
  have HXR := Lib.hid hxr
  have HNR := Lib.hid hnr
  have hd : decide (view < 1) = false := by simp; omega
  have HHAS : Hid (decide (who ∈ X.f (dg X.T (voteB view block))) = true) := by show _ = _; simpa using hhas
  have hww : (Lit.int .i64 who).wf = true := by
    have hr := hrep
    unfold repB at hr
    simp only [decide_eq_true_eq] at hr
    obtain ⟨g0, g1, g2⟩ := hg
    exact wf_mk (by omega) (by omega)
  have HLV := Lib.hid hlb
  have HQ0 := Lib.hid hq
  have HWW := Lib.hid hww
  clear h h1 hxr hnr hg hT hview hhas hlb hq hww
  go_enter Try.func41, Try.ntmps41
  go_upto_region 1 with fail
  rw [← HXR.out, ← HNR.out]
  refine wp_region_stage (fun x : World => x.heap[q]? = some (.cells #[.pointer (some ⟨p, 0, none⟩), .int .i64 c.f, .int .i64 c.n, .int .i64 c.cl, .int .i64 c.ba, .int .i64 c.mo, .int .i64 c.bt, .int .i64 c.po, .int .i64 c.wi, .map (some vb), .map (some ob)] 143 (0, 0))) [] (by kernel_rfl) ?_
  refine takeW 0 (some 11) (v := ?_) rfl (by rfl) (by kernel_rfl) (by kernel_rfl) (by kernel_rfl) (fun _ _ _ h => h) (by kernel_rfl) (by kernel_rfl) ?_ (Stage.still (by assumption)) ?_
  rotate_left
  · (intro w; go_simp; try (with_reducible rfl))
  try simp only [Act.put, List.setIfInBounds_toArray, List.set_cons_zero, List.set_cons_succ]
  refine takeW 1 (some 12) (v := ?_) rfl (by rfl) (by kernel_rfl) (by kernel_rfl) (by kernel_rfl) (fun _ _ _ h => h) (by kernel_rfl) (by kernel_rfl) ?_ (Stage.still (by assumption)) ?_
  rotate_left
  · (intro w; go_simp; try (with_reducible rfl))
  try simp only [Act.put, List.setIfInBounds_toArray, List.set_cons_zero, List.set_cons_succ]
  refine takeW 2 (some 13) (v := ?_) rfl (by rfl) (by kernel_rfl) (by kernel_rfl) (by kernel_rfl) (fun _ _ _ h => h) (by kernel_rfl) (by kernel_rfl) ?_ (Stage.still (by assumption)) ?_
  rotate_left
  · (intro w; go_simp; try (with_reducible rfl))
  try simp only [Act.put, List.setIfInBounds_toArray, List.set_cons_zero, List.set_cons_succ]
  refine takeS 3 (some 14) (v := ?_) rfl (by rfl) (by kernel_rfl) (by kernel_rfl) (by kernel_rfl) (fun _ _ _ h => h) (by kernel_rfl) (by kernel_rfl) (by kernel_rfl) ?_ (by assumption) ?_
  rotate_left
  · (intro w hSw; have c0 : w.cell? ⟨q, 1, none⟩ = some (.int .i64 c.f) := cell_of_blk hSw 1; have c1 : w.cell? ⟨q, 2, none⟩ = some (.int .i64 c.n) := cell_of_blk hSw 2; have c2 : w.cell? ⟨q, 3, none⟩ = some (.int .i64 c.cl) := cell_of_blk hSw 3; have c3 : w.cell? ⟨q, 4, none⟩ = some (.int .i64 c.ba) := cell_of_blk hSw 4; have c4 : w.cell? ⟨q, 5, none⟩ = some (.int .i64 c.mo) := cell_of_blk hSw 5; have c5 : w.cell? ⟨q, 6, none⟩ = some (.int .i64 c.bt) := cell_of_blk hSw 6; have c6 : w.cell? ⟨q, 7, none⟩ = some (.int .i64 c.po) := cell_of_blk hSw 7; have c7 : w.cell? ⟨q, 8, none⟩ = some (.int .i64 c.wi) := cell_of_blk hSw 8; clear hSw; go_simp; try (with_reducible rfl))
  try simp only [Act.put, List.setIfInBounds_toArray, List.set_cons_zero, List.set_cons_succ]
  refine takeW 4 (some 15) (v := ?_) rfl (by rfl) (by kernel_rfl) (by kernel_rfl) (by kernel_rfl) (fun _ _ _ h => h) (by kernel_rfl) (by kernel_rfl) ?_ (Stage.still (by assumption)) ?_
  rotate_left
  · (intro w; go_simp; try (with_reducible rfl))
  try simp only [Act.put, List.setIfInBounds_toArray, List.set_cons_zero, List.set_cons_succ]
  refine oneT 5 (by kernel_rfl) rfl (fun K hK => ?_)
  go_simp
  go_at_call 60
  refine (cert_replica c HG.out who H1.out).mono ?_
  rintro e w2 ⟨rfl, h2⟩
  rw [hrep]
  have hS1 := h2.getBlk
  have H2 := Lib.hid h2
  clear h2
  go_wp2_with fail
  refine hK.out _ _ (Stage.still ?_) (fun hSt => ?_)
  · (try dsimp only); exact hS1
  clear hK K hSt
  try simp only [Act.put, List.setIfInBounds_toArray, List.set_cons_zero, List.set_cons_succ]
  refine takeW 6 (some 17) (v := ?_) rfl (by rfl) (by kernel_rfl) (by kernel_rfl) (by kernel_rfl) (fun _ _ _ h => h) (by kernel_rfl) (by kernel_rfl) ?_ (Stage.still (by assumption)) ?_
  rotate_left
  · (intro w; go_simp; try (with_reducible rfl))
  try simp only [Act.put, List.setIfInBounds_toArray, List.set_cons_zero, List.set_cons_succ]
  refine takeW 7 (some 18) (v := ?_) rfl (by rfl) (by kernel_rfl) (by kernel_rfl) (by kernel_rfl) (fun _ _ _ h => h) (by kernel_rfl) (by kernel_rfl) ?_ (Stage.still (by assumption)) ?_
  rotate_left
  · (intro w; go_simp; try (with_reducible rfl))
  try simp only [Act.put, List.setIfInBounds_toArray, List.set_cons_zero, List.set_cons_succ]
  refine takeW 8 (some 19) (v := ?_) rfl (by rfl) (by kernel_rfl) (by kernel_rfl) (by kernel_rfl) (fun _ _ _ h => h) (by kernel_rfl) (by kernel_rfl) ?_ (Stage.still (by assumption)) ?_
  rotate_left
  · (intro w; go_simp; try (with_reducible rfl))
  try simp only [Act.put, List.setIfInBounds_toArray, List.set_cons_zero, List.set_cons_succ]
  refine takeW 9 (some 20) (v := ?_) rfl (by rfl) (by kernel_rfl) (by kernel_rfl) (by kernel_rfl) (fun _ _ _ h => h) (by kernel_rfl) (by kernel_rfl) ?_ (Stage.still (by assumption)) ?_
  rotate_left
  · (intro w; go_simp; try (with_reducible rfl))
  try simp only [Act.put, List.setIfInBounds_toArray, List.set_cons_zero, List.set_cons_succ]
  refine takeW 10 (some 21) (v := ?_) rfl (by rfl) (by kernel_rfl) (by kernel_rfl) (by kernel_rfl) (fun _ _ _ h => h) (by kernel_rfl) (by kernel_rfl) ?_ (Stage.still (by assumption)) ?_
  rotate_left
  · (intro w; go_simp; try (with_reducible rfl))
  try simp only [Act.put, List.setIfInBounds_toArray, List.set_cons_zero, List.set_cons_succ]
  refine takeW 11 (some 22) (v := ?_) rfl (by rfl) (by kernel_rfl) (by kernel_rfl) (by kernel_rfl) (fun _ _ _ h => h) (by kernel_rfl) (by kernel_rfl) ?_ (Stage.still (by assumption)) ?_
  rotate_left
  · (intro w; go_simp; try (with_reducible rfl))
  try simp only [Act.put, List.setIfInBounds_toArray, List.set_cons_zero, List.set_cons_succ]
  refine takeW 12 (some 23) (v := ?_) rfl (by rfl) (by kernel_rfl) (by kernel_rfl) (by kernel_rfl) (fun _ _ _ h => h) (by kernel_rfl) (by kernel_rfl) ?_ (Stage.still (by assumption)) ?_
  rotate_left
  · (intro w; go_simp; try (with_reducible rfl))
  try simp only [Act.put, List.setIfInBounds_toArray, List.set_cons_zero, List.set_cons_succ]
  refine takeW 13 (some 24) (v := ?_) rfl (by rfl) (by kernel_rfl) (by kernel_rfl) (by kernel_rfl) (fun _ _ _ h => h) (by kernel_rfl) (by kernel_rfl) ?_ (Stage.still (by assumption)) ?_
  rotate_left
  · (intro w; go_simp; try (with_reducible rfl))
  try simp only [Act.put, List.setIfInBounds_toArray, List.set_cons_zero, List.set_cons_succ]
  refine takeW 14 (some 25) (v := ?_) rfl (by rfl) (by kernel_rfl) (by kernel_rfl) (by kernel_rfl) (fun _ _ _ h => h) (by kernel_rfl) (by kernel_rfl) ?_ (Stage.still (by assumption)) ?_
  rotate_left
  · (intro w; go_simp; try (with_reducible rfl))
  try simp only [Act.put, List.setIfInBounds_toArray, List.set_cons_zero, List.set_cons_succ]
  refine takeS 15 (some 26) (v := ?_) rfl (by rfl) (by kernel_rfl) (by kernel_rfl) (by kernel_rfl) (fun _ _ _ h => h) (by kernel_rfl) (by kernel_rfl) (by kernel_rfl) ?_ (by assumption) ?_
  rotate_left
  · (intro w hSw; have c : w.cell? ⟨q, 0, none⟩ = some (.pointer (some ⟨p, 0, none⟩)) := cell_of_blk hSw 0; clear hSw; go_simp; try (with_reducible rfl))
  try simp only [Act.put, List.setIfInBounds_toArray, List.set_cons_zero, List.set_cons_succ]
  refine takeW 17 (some 28) (v := ?_) rfl (by rfl) (by kernel_rfl) (by kernel_rfl) (by kernel_rfl) (fun _ _ _ h => h) (by kernel_rfl) (by kernel_rfl) ?_ (Stage.still (by assumption)) ?_
  rotate_left
  · (intro w; go_simp; try (with_reducible rfl))
  try simp only [Act.put, List.setIfInBounds_toArray, List.set_cons_zero, List.set_cons_succ]
  refine takeW 18 (some 29) (v := ?_) rfl (by rfl) (by kernel_rfl) (by kernel_rfl) (by kernel_rfl) (fun _ _ _ h => h) (by kernel_rfl) (by kernel_rfl) ?_ (Stage.still (by assumption)) ?_
  rotate_left
  · (intro w; go_simp; try (with_reducible rfl))
  try simp only [Act.put, List.setIfInBounds_toArray, List.set_cons_zero, List.set_cons_succ]
  refine takeW 19 (some 30) (v := ?_) rfl (by rfl) (by kernel_rfl) (by kernel_rfl) (by kernel_rfl) (fun _ _ _ h => h) (by kernel_rfl) (by kernel_rfl) ?_ (Stage.still (by assumption)) ?_
  rotate_left
  · (intro w; go_simp; try (with_reducible rfl))
  try simp only [Act.put, List.setIfInBounds_toArray, List.set_cons_zero, List.set_cons_succ]
  refine takeW 20 (some 31) (v := ?_) rfl (by rfl) (by kernel_rfl) (by kernel_rfl) (by kernel_rfl) (fun _ _ _ h => h) (by kernel_rfl) (by kernel_rfl) ?_ (Stage.still (by assumption)) ?_
  rotate_left
  · (intro w; go_simp; try (with_reducible rfl))
  try simp only [Act.put, List.setIfInBounds_toArray, List.set_cons_zero, List.set_cons_succ]
  refine takeS 21 (some 32) (v := ?_) rfl (by rfl) (by kernel_rfl) (by kernel_rfl) (by kernel_rfl) (fun _ _ _ h => h) (by kernel_rfl) (by kernel_rfl) (by kernel_rfl) ?_ (by assumption) ?_
  rotate_left
  · (intro w hSw; have c : w.cell? ⟨q, 0, none⟩ = some (.pointer (some ⟨p, 0, none⟩)) := cell_of_blk hSw 0; clear hSw; go_simp; try (with_reducible rfl))
  try simp only [Act.put, List.setIfInBounds_toArray, List.set_cons_zero, List.set_cons_succ]
  refine takeW 22 (some 33) (v := ?_) rfl (by rfl) (by kernel_rfl) (by kernel_rfl) (by kernel_rfl) (fun _ _ _ h => h) (by kernel_rfl) (by kernel_rfl) ?_ (Stage.still (by assumption)) ?_
  rotate_left
  · (intro w; go_simp; try (with_reducible rfl))
  try simp only [Act.put, List.setIfInBounds_toArray, List.set_cons_zero, List.set_cons_succ]
  refine takeW 23 (some 34) (v := ?_) rfl (by rfl) (by kernel_rfl) (by kernel_rfl) (by kernel_rfl) (fun _ _ _ h => h) (by kernel_rfl) (by kernel_rfl) ?_ (Stage.still (by assumption)) ?_
  rotate_left
  · (intro w; go_simp; try (with_reducible rfl))
  try simp only [Act.put, List.setIfInBounds_toArray, List.set_cons_zero, List.set_cons_succ]
  refine oneT 16 (by kernel_rfl) rfl (fun K hK => ?_)
  go_simp
  go_at_call 37
  refine (world_signs H2.out hw).mono ?_
  rintro e _ ⟨rfl, rfl⟩
  go_wp2_with fail
  refine hK.out _ _ (Stage.still ?_) (fun hSt => ?_)
  · (try dsimp only); exact hS1
  clear hK K hSt
  try simp only [Act.put, List.setIfInBounds_toArray, List.set_cons_zero, List.set_cons_succ]
  refine oneT 24 (by kernel_rfl) rfl (fun K hK => ?_)
  go_simp
  go_at_call 39
  refine (cert_vote view block H2.out hw HTL.out).mono ?_
  rintro e w3 ⟨rfl, h3⟩
  have hS1 := h3.getBlk
  have H3 := Lib.hid h3
  clear h3
  go_wp2_with fail
  refine hK.out _ _ (Stage.still ?_) (fun hSt => ?_)
  · (try dsimp only); exact hS1
  clear hK K hSt
  try simp only [Act.put, List.setIfInBounds_toArray, List.set_cons_zero, List.set_cons_succ]
  refine oneT 25 (by kernel_rfl) rfl (fun K hK => ?_)
  go_simp
  go_at_call 40
  refine (world_has who _ H3.out (upd_same _ _ _)).mono ?_
  rintro e _ ⟨rfl, rfl⟩
  rw [show (X.digest (voteB view block)).f = X.f from rfl, HHAS.out]
  go_wp2_with fail
  refine hK.out _ _ (Stage.still ?_) (fun hSt => ?_)
  · (try dsimp only); exact hS1
  clear hK K hSt
  try simp only [Act.put, List.setIfInBounds_toArray, List.set_cons_zero, List.set_cons_succ]
  refine takeW 26 (some 37) (v := ?_) rfl (by rfl) (by kernel_rfl) (by kernel_rfl) (by kernel_rfl) (fun _ _ _ h => h) (by kernel_rfl) (by kernel_rfl) ?_ (Stage.still (by assumption)) ?_
  rotate_left
  · (intro w; go_simp; try (with_reducible rfl))
  try simp only [Act.put, List.setIfInBounds_toArray, List.set_cons_zero, List.set_cons_succ]
  refine takeW 27 (some 38) (v := ?_) rfl (by rfl) (by kernel_rfl) (by kernel_rfl) (by kernel_rfl) (fun _ _ _ h => h) (by kernel_rfl) (by kernel_rfl) ?_ (Stage.still (by assumption)) ?_
  rotate_left
  · (intro w; go_simp; try (with_reducible rfl))
  try simp only [Act.put, List.setIfInBounds_toArray, List.set_cons_zero, List.set_cons_succ]
  refine doneT (by kernel_rfl) ?_ _
  clear hS1
  go_upto_region 3 with fail
  obtain ⟨ns, hns⟩ : ∃ n, n = w3.heap.size := ⟨_, rfl⟩
  obtain ⟨x4, hx4⟩ : ∃ y, y = w3.alloc (.cells #[.int .i64 view, .int .i64 block] 147 (0, 0)) := ⟨_, rfl⟩
  have h4 := H3.out.alloc (.cells #[.int .i64 view, .int .i64 block] 147 (0, 0)) hns
  rw [← hx4] at h4
  have HX4 := Lib.hid hx4
  have HNS := Lib.hid hns
  have H4 := Lib.hid (h4.perm (perm_in _ _ _ _ _ _))
  clear h4 hx4 hns
  go_upto_region 4 with fail
  rw [← HX4.out, ← HNS.out]
  cases hk : alook V (view, block) with
  | none =>
    obtain ⟨mm, R, hkm, hvn, hcl⟩ := votes_none H4.out hk
    have HK := Lib.hid hkm
    have HVN := Lib.hid hvn
    have HL0 : Hid (voters V (view, block) = []) := by show _ = _; unfold voters; rw [hk]; rfl
    have hS1 := HVN.out.drew
    clear hkm hvn hk
    refine wp_region_stage (fun x : World => Sys x (upd m 0 (worldT p d (X.digest (voteB view block)))) (mapGT pairEnc vb mm :: (R ++ (blk ns (.cells #[.int .i64 view, .int .i64 block] 147 (0, 0)) :: blk q (.cells #[.pointer (some ⟨p, 0, none⟩), .int .i64 c.f, .int .i64 c.n, .int .i64 c.cl, .int .i64 c.ba, .int .i64 c.mo, .int .i64 c.bt, .int .i64 c.po, .int .i64 c.wi, .map (some vb), .map (some ob)] 143 (0, 0)) :: blk nr (.cells #[.int .i64 0, .int .i64 0, .slice none 0 0] 28 (0, 0)) :: outsT ob O :: l)))) [] (by kernel_rfl) ?_
    refine takeW 0 (some 43) (v := ?_) rfl (by rfl) (by kernel_rfl) (by kernel_rfl) (by kernel_rfl) (fun _ _ _ h => h) (by kernel_rfl) (by kernel_rfl) ?_ (Stage.still (by assumption)) ?_
    rotate_left
    · (intro w; go_simp; try (with_reducible rfl))
    try simp only [Act.put, List.setIfInBounds_toArray, List.set_cons_zero, List.set_cons_succ]
    refine takeW 1 (some 44) (v := ?_) rfl (by rfl) (by kernel_rfl) (by kernel_rfl) (by kernel_rfl) (fun _ _ _ h => h) (by kernel_rfl) (by kernel_rfl) ?_ (Stage.still (by assumption)) ?_
    rotate_left
    · (intro w; go_simp; try (with_reducible rfl))
    try simp only [Act.put, List.setIfInBounds_toArray, List.set_cons_zero, List.set_cons_succ]
    refine takeW 2 (some 45) (v := ?_) rfl (by rfl) (by kernel_rfl) (by kernel_rfl) (by kernel_rfl) (fun _ _ _ h => h) (by kernel_rfl) (by kernel_rfl) ?_ (Stage.still (by assumption)) ?_
    rotate_left
    · (intro w; go_simp; try (with_reducible rfl))
    try simp only [Act.put, List.setIfInBounds_toArray, List.set_cons_zero, List.set_cons_succ]
    refine takeS 3 (some 46) (v := ?_) rfl (by rfl) (by kernel_rfl) (by kernel_rfl) (by kernel_rfl) (fun _ _ _ h => h) (by kernel_rfl) (by kernel_rfl) (by kernel_rfl) ?_ (by assumption) ?_
    rotate_left
    · (intro w hSw; have c : w.cell? ⟨q, 9, none⟩ = some (.map (some vb)) := cell_of_blk (Sys.memBlk (n := q) (o := .cells #[.pointer (some ⟨p, 0, none⟩), .int .i64 c.f, .int .i64 c.n, .int .i64 c.cl, .int .i64 c.ba, .int .i64 c.mo, .int .i64 c.bt, .int .i64 c.po, .int .i64 c.wi, .map (some vb), .map (some ob)] 143 (0, 0)) hSw (by simp)) 9; clear hSw; go_simp; try (with_reducible rfl))
    try simp only [Act.put, List.setIfInBounds_toArray, List.set_cons_zero, List.set_cons_succ]
    refine takeS 4 (some 47) (v := ?_) rfl (by rfl) (by kernel_rfl) (by kernel_rfl) (by kernel_rfl) (fun _ _ _ h => h) (by kernel_rfl) (by kernel_rfl) (by kernel_rfl) ?_ (by assumption) ?_
    rotate_left
    · (intro w hSw; have hb := (Sys.memBlk (n := ns) (o := .cells #[.int .i64 view, .int .i64 block] 147 (0, 0)) hSw (by simp)); have c0 : w.cell? ⟨ns, 0, none⟩ = some (.int .i64 view) := cell_of_blk hb 0; have c1 : w.cell? ⟨ns, 1, none⟩ = some (.int .i64 block) := cell_of_blk hb 1; clear hSw hb; go_simp; try (with_reducible rfl))
    try simp only [Act.put, List.setIfInBounds_toArray, List.set_cons_zero, List.set_cons_succ]
    refine takeS 5 (some 48) (v := ?_) rfl (by rfl) (by kernel_rfl) (by kernel_rfl) (by kernel_rfl) (fun _ _ _ h => h) (by kernel_rfl) (by kernel_rfl) (by kernel_rfl) ?_ (by assumption) ?_
    rotate_left
    · (intro w hSw; have e := MapG.lookup spot_run (hSw).getMapG Try.underlying140 (zeroMap w) (view, block) false; rw [HK.out] at e; simp only [Bool.false_eq_true, if_false, pairEnc, Option.getD] at e; clear hSw; go_simp; try (with_reducible rfl))
    try simp only [Act.put, List.setIfInBounds_toArray, List.set_cons_zero, List.set_cons_succ]
    refine takeS 6 (some 49) (v := ?_) rfl (by rfl) (by kernel_rfl) (by kernel_rfl) (by kernel_rfl) (fun _ _ _ h => h) (by kernel_rfl) (by kernel_rfl) (by kernel_rfl) ?_ (by assumption) ?_
    rotate_left
    · (intro w hSw; clear hSw; have e := fun v => run_eql_map_nil (P := Try.prog) w 75 3 3 v Try.underlying75; go_simp; try (with_reducible rfl))
    try simp only [Act.put, List.setIfInBounds_toArray, List.set_cons_zero, List.set_cons_succ]
    refine doneT (by kernel_rfl) ?_ _
    have HV4 := Lib.hid hS1
    clear hS1
    go_wp2_with fail
    obtain ⟨wq, hwq⟩ : ∃ y : World, y = x4.drew := ⟨_, rfl⟩
    rw [← hwq] at HV4 ⊢
    obtain ⟨nb, HNB⟩ : ∃ n, Hid (n = wq.heap.size) := ⟨_, rfl⟩
    have hS1 := HV4.out.drew
    clear hwq
    refine wp_region_stage (fun x : World => Sys x (upd m 0 (worldT p d (X.digest (voteB view block)))) (mapGT pairEnc vb mm :: (R ++ (blk ns (.cells #[.int .i64 view, .int .i64 block] 147 (0, 0)) :: blk q (.cells #[.pointer (some ⟨p, 0, none⟩), .int .i64 c.f, .int .i64 c.n, .int .i64 c.cl, .int .i64 c.ba, .int .i64 c.mo, .int .i64 c.bt, .int .i64 c.po, .int .i64 c.wi, .map (some vb), .map (some ob)] 143 (0, 0)) :: blk nr (.cells #[.int .i64 0, .int .i64 0, .slice none 0 0] 28 (0, 0)) :: outsT ob O :: l)))) [6] (by kernel_rfl) ?_
    refine takeW 0 (some 50) (v := ?_) rfl (by rfl) (by kernel_rfl) (by kernel_rfl) (by kernel_rfl) (fun _ _ _ h => h) (by kernel_rfl) (by kernel_rfl) ?_ (Stage.still (by assumption)) ?_
    rotate_left
    · (intro w; go_simp; try (with_reducible rfl))
    try simp only [Act.put, List.setIfInBounds_toArray, List.set_cons_zero, List.set_cons_succ]
    refine takeW 1 (some 51) (v := ?_) rfl (by rfl) (by kernel_rfl) (by kernel_rfl) (by kernel_rfl) (fun _ _ _ h => h) (by kernel_rfl) (by kernel_rfl) ?_ (Stage.still (by assumption)) ?_
    rotate_left
    · (intro w; go_simp; try (with_reducible rfl))
    try simp only [Act.put, List.setIfInBounds_toArray, List.set_cons_zero, List.set_cons_succ]
    refine takeW 2 (some 52) (v := ?_) rfl (by rfl) (by kernel_rfl) (by kernel_rfl) (by kernel_rfl) (fun _ _ _ h => h) (by kernel_rfl) (by kernel_rfl) ?_ (Stage.still (by assumption)) ?_
    rotate_left
    · (intro w; go_simp; try (with_reducible rfl))
    try simp only [Act.put, List.setIfInBounds_toArray, List.set_cons_zero, List.set_cons_succ]
    refine takeS 3 (some 53) (v := ?_) rfl (by rfl) (by kernel_rfl) (by kernel_rfl) (by kernel_rfl) (fun _ _ _ h => h) (by kernel_rfl) (by kernel_rfl) (by kernel_rfl) ?_ (by assumption) ?_
    rotate_left
    · (intro w hSw; have c : w.cell? ⟨q, 9, none⟩ = some (.map (some vb)) := cell_of_blk (Sys.memBlk (n := q) (o := .cells #[.pointer (some ⟨p, 0, none⟩), .int .i64 c.f, .int .i64 c.n, .int .i64 c.cl, .int .i64 c.ba, .int .i64 c.mo, .int .i64 c.bt, .int .i64 c.po, .int .i64 c.wi, .map (some vb), .map (some ob)] 143 (0, 0)) hSw (by simp)) 9; clear hSw; go_simp; try (with_reducible rfl))
    try simp only [Act.put, List.setIfInBounds_toArray, List.set_cons_zero, List.set_cons_succ]
    refine takeS 4 (some 54) (v := ?_) rfl (by rfl) (by kernel_rfl) (by kernel_rfl) (by kernel_rfl) (fun _ _ _ h => h) (by kernel_rfl) (by kernel_rfl) (by kernel_rfl) ?_ (by assumption) ?_
    rotate_left
    · (intro w hSw; have hb := (Sys.memBlk (n := ns) (o := .cells #[.int .i64 view, .int .i64 block] 147 (0, 0)) hSw (by simp)); have c0 : w.cell? ⟨ns, 0, none⟩ = some (.int .i64 view) := cell_of_blk hb 0; have c1 : w.cell? ⟨ns, 1, none⟩ = some (.int .i64 block) := cell_of_blk hb 1; clear hSw hb; go_simp; try (with_reducible rfl))
    try simp only [Act.put, List.setIfInBounds_toArray, List.set_cons_zero, List.set_cons_succ]
    refine oneT 5 (by kernel_rfl) rfl (fun K hK => ?_)
    have hmm := @run_makeMap Try.prog
    go_simp
    clear hmm
    have HSA := Lib.hid (hS1.push (t := mapT intKey nb []) ((Chg.refl _ _).alloc (.map #[] 0)) (F := (· = nb)) ⟨MapOf.made _ _ HNB.out, rfl⟩ (fun k e => by have e : k = _ := e; have h9 : wq.drew.heap.size = wq.heap.size := rfl; have := HNB.out; omega))
    rw [← HNB.out]
    change K _ (wq.drew.alloc (.map #[] 0))
    generalize wq.drew.alloc (.map #[] 0) = wm at *
    have hS1 := HSA.out.tail
    refine hK.out _ _ (Stage.still ?_) (fun hSt => ?_)
    · (try dsimp only); exact hS1
    clear hK K hSt
    try simp only [Act.put, List.setIfInBounds_toArray, List.set_cons_zero, List.set_cons_succ]
    refine oneT 6 (by kernel_rfl) rfl (fun K hK => ?_)
    obtain ⟨wu, hu, hmu, hcu⟩ := MapG.update spot_run (HSA.out.swap.getMapG) Try.underlying140 (view, block) (.map (some nb))
    simp only [pairEnc] at hu
    have HSU := Lib.hid ((HSA.out.swap.mapGTo hmu hcu).swap)
    clear hmu hcu
    go_simp
    refine hK.out _ _ (Stage.past (by kernel_rfl)) (fun hSt => ?_)
    clear hK K hSt
    try simp only [Act.put, List.setIfInBounds_toArray, List.set_cons_zero, List.set_cons_succ]
    refine doneT (by kernel_rfl) ?_ _
    clear hS1 HSA HV4 HVN
    go_wp2_with fail
    obtain ⟨mq, hmq⟩ : ∃ y, y = aset mm (view, block) (.map (some nb)) := ⟨_, rfl⟩
    rw [← hmq] at HSU
    have HK2 : Hid (alook mq (view, block) = some (.map (some nb))) := by show _ = _; rw [hmq, alook_aset, if_pos rfl]
    have HCL : Hid (∀ w' m' l' L', AllWf L' → Sys w' m' (mapT intKey nb (ones L') :: mapGT pairEnc vb mq :: (R ++ l')) → Sys w' m' (votesT vb (aset V (view, block) L') :: l')) := fun w' m' l' L' h1 h2 => hcl w' m' l' nb L' h1 (by rw [← hmq]; exact h2)
    clear hmq hcl HK
    obtain ⟨b, hb⟩ : ∃ b, b = nb := ⟨_, rfl⟩
    rw [← hb] at HK2 HCL HSU
    have HK := HK2
    clear HK2 hb
    obtain ⟨L0, hL0⟩ : ∃ L : List Int, L = [] := ⟨_, rfl⟩
    have HST : Hid (Sys wu (upd m 0 (worldT p d (X.digest (voteB view block)))) (mapT intKey b (ones L0) :: mapGT pairEnc vb mq :: (R ++ (blk ns (.cells #[.int .i64 view, .int .i64 block] 147 (0, 0)) :: blk q (.cells #[.pointer (some ⟨p, 0, none⟩), .int .i64 c.f, .int .i64 c.n, .int .i64 c.cl, .int .i64 c.ba, .int .i64 c.mo, .int .i64 c.bt, .int .i64 c.po, .int .i64 c.wi, .map (some vb), .map (some ob)] 143 (0, 0)) :: blk nr (.cells #[.int .i64 0, .int .i64 0, .slice none 0 0] 28 (0, 0)) :: outsT ob O :: l)))) := by rw [hL0]; exact HSU.out
    have HWL : Hid (AllWf (addTo L0 who)) := by
      show AllWf _
      rw [hL0]; intro a ha; rcases mem_addTo.1 ha with h | h
      · cases h
      · rw [h]; exact HWW.out
    have HV0 : Hid (voters V (view, block) = L0) := by show _ = _; rw [hL0]; exact HL0.out
    rw [HV0.out] at HLV HQ0
    clear hL0 HSU HL0
    have HWF : Hid (∀ pr ∈ ones (addTo L0 who), (Lit.int .i64 pr.1).wf = true) := by
      intro pr hp
      obtain ⟨a, ha, rfl⟩ := List.mem_map.1 hp
      exact HWL.out a ha
    have HLB : Hid ((ones (addTo L0 who)).length * 8 ≤ 140737488355328) := by
      show _ ≤ _
      rw [show (ones (addTo L0 who)).length = (addTo L0 who).length by simp [ones]]
      have h1 := addTo_len L0 who
      have h2 := HLV.out
      omega
    have hq7 : decide (((addTo L0 who).length : Int) < 2 * c.f + 1) = false := by have := HQ0.out; simp; omega
    have hS1 := HST.out.drew
    refine wp_region_stage (fun x : World => Sys x (upd m 0 (worldT p d (X.digest (voteB view block)))) (mapT intKey b (ones L0) :: mapGT pairEnc vb mq :: (R ++ (blk ns (.cells #[.int .i64 view, .int .i64 block] 147 (0, 0)) :: blk q (.cells #[.pointer (some ⟨p, 0, none⟩), .int .i64 c.f, .int .i64 c.n, .int .i64 c.cl, .int .i64 c.ba, .int .i64 c.mo, .int .i64 c.bt, .int .i64 c.po, .int .i64 c.wi, .map (some vb), .map (some ob)] 143 (0, 0)) :: blk nr (.cells #[.int .i64 0, .int .i64 0, .slice none 0 0] 28 (0, 0)) :: outsT ob O :: l)))) [7] (by kernel_rfl) ?_
    refine takeW 0 (some 56) (v := ?_) rfl (by rfl) (by kernel_rfl) (by kernel_rfl) (by kernel_rfl) (fun _ _ _ h => h) (by kernel_rfl) (by kernel_rfl) ?_ (Stage.still (by assumption)) ?_
    rotate_left
    · (intro w; go_simp; try (with_reducible rfl))
    try simp only [Act.put, List.setIfInBounds_toArray, List.set_cons_zero, List.set_cons_succ]
    refine takeW 1 (some 57) (v := ?_) rfl (by rfl) (by kernel_rfl) (by kernel_rfl) (by kernel_rfl) (fun _ _ _ h => h) (by kernel_rfl) (by kernel_rfl) ?_ (Stage.still (by assumption)) ?_
    rotate_left
    · (intro w; go_simp; try (with_reducible rfl))
    try simp only [Act.put, List.setIfInBounds_toArray, List.set_cons_zero, List.set_cons_succ]
    refine takeW 2 (some 58) (v := ?_) rfl (by rfl) (by kernel_rfl) (by kernel_rfl) (by kernel_rfl) (fun _ _ _ h => h) (by kernel_rfl) (by kernel_rfl) ?_ (Stage.still (by assumption)) ?_
    rotate_left
    · (intro w; go_simp; try (with_reducible rfl))
    try simp only [Act.put, List.setIfInBounds_toArray, List.set_cons_zero, List.set_cons_succ]
    refine takeS 3 (some 59) (v := ?_) rfl (by rfl) (by kernel_rfl) (by kernel_rfl) (by kernel_rfl) (fun _ _ _ h => h) (by kernel_rfl) (by kernel_rfl) (by kernel_rfl) ?_ (by assumption) ?_
    rotate_left
    · (intro w hSw; have c : w.cell? ⟨q, 9, none⟩ = some (.map (some vb)) := cell_of_blk (Sys.memBlk (n := q) (o := .cells #[.pointer (some ⟨p, 0, none⟩), .int .i64 c.f, .int .i64 c.n, .int .i64 c.cl, .int .i64 c.ba, .int .i64 c.mo, .int .i64 c.bt, .int .i64 c.po, .int .i64 c.wi, .map (some vb), .map (some ob)] 143 (0, 0)) hSw (by simp)) 9; clear hSw; go_simp; try (with_reducible rfl))
    try simp only [Act.put, List.setIfInBounds_toArray, List.set_cons_zero, List.set_cons_succ]
    refine takeS 4 (some 60) (v := ?_) rfl (by rfl) (by kernel_rfl) (by kernel_rfl) (by kernel_rfl) (fun _ _ _ h => h) (by kernel_rfl) (by kernel_rfl) (by kernel_rfl) ?_ (by assumption) ?_
    rotate_left
    · (intro w hSw; have hb := (Sys.memBlk (n := ns) (o := .cells #[.int .i64 view, .int .i64 block] 147 (0, 0)) hSw (by simp)); have c0 : w.cell? ⟨ns, 0, none⟩ = some (.int .i64 view) := cell_of_blk hb 0; have c1 : w.cell? ⟨ns, 1, none⟩ = some (.int .i64 block) := cell_of_blk hb 1; clear hSw hb; go_simp; try (with_reducible rfl))
    try simp only [Act.put, List.setIfInBounds_toArray, List.set_cons_zero, List.set_cons_succ]
    refine takeS 5 (some 61) (v := ?_) rfl (by rfl) (by kernel_rfl) (by kernel_rfl) (by kernel_rfl) (fun _ _ _ h => h) (by kernel_rfl) (by kernel_rfl) (by kernel_rfl) ?_ (by assumption) ?_
    rotate_left
    · (intro w hSw; have e := MapG.lookup spot_run (hSw.swap).getMapG Try.underlying140 (zeroMap w) (view, block) false; rw [HK.out] at e; simp only [Bool.false_eq_true, if_false, pairEnc, Option.getD] at e; clear hSw; go_simp; try (with_reducible rfl))
    try simp only [Act.put, List.setIfInBounds_toArray, List.set_cons_zero, List.set_cons_succ]
    refine takeW 6 (some 62) (v := ?_) rfl (by rfl) (by kernel_rfl) (by kernel_rfl) (by kernel_rfl) (fun _ _ _ h => h) (by kernel_rfl) (by kernel_rfl) ?_ (Stage.still (by assumption)) ?_
    rotate_left
    · (intro w; go_simp; try (with_reducible rfl))
    try simp only [Act.put, List.setIfInBounds_toArray, List.set_cons_zero, List.set_cons_succ]
    refine oneT 7 (by kernel_rfl) rfl (fun K hK => ?_)
    obtain ⟨wv, hv, hmv, hcv, _⟩ := hS1.getMap.update (P := Try.prog) Try.underlying75 Try.underlying3 who (.int .i64 1)
    simp only [intKey] at hv
    rw [show aset (ones L0) who (Value.int .i64 1) = ones (addTo L0 who) from aset_ones L0 who] at hmv
    have HSV := Lib.hid (hS1.mapTo hmv hcv)
    clear hmv hcv
    go_simp
    refine hK.out _ _ (Stage.past (by kernel_rfl)) (fun hSt => ?_)
    clear hK K hSt
    try simp only [Act.put, List.setIfInBounds_toArray, List.set_cons_zero, List.set_cons_succ]
    refine doneT (by kernel_rfl) ?_ _
    clear hS1 HST
    go_wp2_with fail
    have hS1 := HSV.out.drew
    refine wp_region_stage (fun x : World => Sys x (upd m 0 (worldT p d (X.digest (voteB view block)))) (mapT intKey b (ones (addTo L0 who)) :: mapGT pairEnc vb mq :: (R ++ (blk ns (.cells #[.int .i64 view, .int .i64 block] 147 (0, 0)) :: blk q (.cells #[.pointer (some ⟨p, 0, none⟩), .int .i64 c.f, .int .i64 c.n, .int .i64 c.cl, .int .i64 c.ba, .int .i64 c.mo, .int .i64 c.bt, .int .i64 c.po, .int .i64 c.wi, .map (some vb), .map (some ob)] 143 (0, 0)) :: blk nr (.cells #[.int .i64 0, .int .i64 0, .slice none 0 0] 28 (0, 0)) :: outsT ob O :: l)))) [] (by kernel_rfl) ?_
    refine takeW 0 (some 63) (v := ?_) rfl (by rfl) (by kernel_rfl) (by kernel_rfl) (by kernel_rfl) (fun _ _ _ h => h) (by kernel_rfl) (by kernel_rfl) ?_ (Stage.still (by assumption)) ?_
    rotate_left
    · (intro w; go_simp; try (with_reducible rfl))
    try simp only [Act.put, List.setIfInBounds_toArray, List.set_cons_zero, List.set_cons_succ]
    refine takeW 1 (some 64) (v := ?_) rfl (by rfl) (by kernel_rfl) (by kernel_rfl) (by kernel_rfl) (fun _ _ _ h => h) (by kernel_rfl) (by kernel_rfl) ?_ (Stage.still (by assumption)) ?_
    rotate_left
    · (intro w; go_simp; try (with_reducible rfl))
    try simp only [Act.put, List.setIfInBounds_toArray, List.set_cons_zero, List.set_cons_succ]
    refine takeW 2 (some 65) (v := ?_) rfl (by rfl) (by kernel_rfl) (by kernel_rfl) (by kernel_rfl) (fun _ _ _ h => h) (by kernel_rfl) (by kernel_rfl) ?_ (Stage.still (by assumption)) ?_
    rotate_left
    · (intro w; go_simp; try (with_reducible rfl))
    try simp only [Act.put, List.setIfInBounds_toArray, List.set_cons_zero, List.set_cons_succ]
    refine takeS 3 (some 66) (v := ?_) rfl (by rfl) (by kernel_rfl) (by kernel_rfl) (by kernel_rfl) (fun _ _ _ h => h) (by kernel_rfl) (by kernel_rfl) (by kernel_rfl) ?_ (by assumption) ?_
    rotate_left
    · (intro w hSw; have c : w.cell? ⟨q, 9, none⟩ = some (.map (some vb)) := cell_of_blk (Sys.memBlk (n := q) (o := .cells #[.pointer (some ⟨p, 0, none⟩), .int .i64 c.f, .int .i64 c.n, .int .i64 c.cl, .int .i64 c.ba, .int .i64 c.mo, .int .i64 c.bt, .int .i64 c.po, .int .i64 c.wi, .map (some vb), .map (some ob)] 143 (0, 0)) hSw (by simp)) 9; clear hSw; go_simp; try (with_reducible rfl))
    try simp only [Act.put, List.setIfInBounds_toArray, List.set_cons_zero, List.set_cons_succ]
    refine takeS 4 (some 67) (v := ?_) rfl (by rfl) (by kernel_rfl) (by kernel_rfl) (by kernel_rfl) (fun _ _ _ h => h) (by kernel_rfl) (by kernel_rfl) (by kernel_rfl) ?_ (by assumption) ?_
    rotate_left
    · (intro w hSw; have hb := (Sys.memBlk (n := ns) (o := .cells #[.int .i64 view, .int .i64 block] 147 (0, 0)) hSw (by simp)); have c0 : w.cell? ⟨ns, 0, none⟩ = some (.int .i64 view) := cell_of_blk hb 0; have c1 : w.cell? ⟨ns, 1, none⟩ = some (.int .i64 block) := cell_of_blk hb 1; clear hSw hb; go_simp; try (with_reducible rfl))
    try simp only [Act.put, List.setIfInBounds_toArray, List.set_cons_zero, List.set_cons_succ]
    refine takeS 5 (some 68) (v := ?_) rfl (by rfl) (by kernel_rfl) (by kernel_rfl) (by kernel_rfl) (fun _ _ _ h => h) (by kernel_rfl) (by kernel_rfl) (by kernel_rfl) ?_ (by assumption) ?_
    rotate_left
    · (intro w hSw; have e := MapG.lookup spot_run (hSw.swap).getMapG Try.underlying140 (zeroMap w) (view, block) false; rw [HK.out] at e; simp only [Bool.false_eq_true, if_false, pairEnc, Option.getD] at e; clear hSw; go_simp; try (with_reducible rfl))
    try simp only [Act.put, List.setIfInBounds_toArray, List.set_cons_zero, List.set_cons_succ]
    refine takeS 6 (some 69) (v := ?_) rfl (by rfl) (by kernel_rfl) (by kernel_rfl) (by kernel_rfl) (fun _ _ _ h => h) (by kernel_rfl) (by kernel_rfl) (by kernel_rfl) ?_ (by assumption) ?_
    rotate_left
    · (intro w hSw; have e := hSw.getMap.len (P := Try.prog) (ty := 3) Try.underlying75; rw [show (ones (addTo L0 who)).length = (addTo L0 who).length by simp [ones]] at e; clear hSw; go_simp; try (with_reducible rfl))
    try simp only [Act.put, List.setIfInBounds_toArray, List.set_cons_zero, List.set_cons_succ]
    refine takeW 7 (some 70) (v := ?_) rfl (by rfl) (by kernel_rfl) (by kernel_rfl) (by kernel_rfl) (fun _ _ _ h => h) (by kernel_rfl) (by kernel_rfl) ?_ (Stage.still (by assumption)) ?_
    rotate_left
    · (intro w; go_simp; try (with_reducible rfl))
    try simp only [Act.put, List.setIfInBounds_toArray, List.set_cons_zero, List.set_cons_succ]
    refine takeW 8 (some 71) (v := ?_) rfl (by rfl) (by kernel_rfl) (by kernel_rfl) (by kernel_rfl) (fun _ _ _ h => h) (by kernel_rfl) (by kernel_rfl) ?_ (Stage.still (by assumption)) ?_
    rotate_left
    · (intro w; go_simp; try (with_reducible rfl))
    try simp only [Act.put, List.setIfInBounds_toArray, List.set_cons_zero, List.set_cons_succ]
    refine takeW 9 (some 72) (v := ?_) rfl (by rfl) (by kernel_rfl) (by kernel_rfl) (by kernel_rfl) (fun _ _ _ h => h) (by kernel_rfl) (by kernel_rfl) ?_ (Stage.still (by assumption)) ?_
    rotate_left
    · (intro w; go_simp; try (with_reducible rfl))
    try simp only [Act.put, List.setIfInBounds_toArray, List.set_cons_zero, List.set_cons_succ]
    refine takeS 10 (some 73) (v := ?_) rfl (by rfl) (by kernel_rfl) (by kernel_rfl) (by kernel_rfl) (fun _ _ _ h => h) (by kernel_rfl) (by kernel_rfl) (by kernel_rfl) ?_ (by assumption) ?_
    rotate_left
    · (intro w hSw; have hb := (Sys.memBlk (n := q) (o := .cells #[.pointer (some ⟨p, 0, none⟩), .int .i64 c.f, .int .i64 c.n, .int .i64 c.cl, .int .i64 c.ba, .int .i64 c.mo, .int .i64 c.bt, .int .i64 c.po, .int .i64 c.wi, .map (some vb), .map (some ob)] 143 (0, 0)) hSw (by simp)); have c0 : w.cell? ⟨q, 1, none⟩ = some (.int .i64 c.f) := cell_of_blk hb 1; have c1 : w.cell? ⟨q, 2, none⟩ = some (.int .i64 c.n) := cell_of_blk hb 2; have c2 : w.cell? ⟨q, 3, none⟩ = some (.int .i64 c.cl) := cell_of_blk hb 3; have c3 : w.cell? ⟨q, 4, none⟩ = some (.int .i64 c.ba) := cell_of_blk hb 4; have c4 : w.cell? ⟨q, 5, none⟩ = some (.int .i64 c.mo) := cell_of_blk hb 5; have c5 : w.cell? ⟨q, 6, none⟩ = some (.int .i64 c.bt) := cell_of_blk hb 6; have c6 : w.cell? ⟨q, 7, none⟩ = some (.int .i64 c.po) := cell_of_blk hb 7; have c7 : w.cell? ⟨q, 8, none⟩ = some (.int .i64 c.wi) := cell_of_blk hb 8; clear hSw hb; go_simp; try (with_reducible rfl))
    try simp only [Act.put, List.setIfInBounds_toArray, List.set_cons_zero, List.set_cons_succ]
    refine oneT 11 (by kernel_rfl) rfl (fun K hK => ?_)
    go_simp
    go_at_call 48
    refine (cert_quorum c HG.out hS1).mono ?_
    rintro e w7 ⟨rfl, h7⟩
    have hS1 := h7
    clear h7
    go_wp2_with fail
    refine hK.out _ _ (Stage.still ?_) (fun hSt => ?_)
    · (try dsimp only); exact hS1
    clear hK K hSt
    try simp only [Act.put, List.setIfInBounds_toArray, List.set_cons_zero, List.set_cons_succ]
    refine takeW 12 (some 75) (v := ?_) rfl (by rfl) (by kernel_rfl) (by kernel_rfl) (by kernel_rfl) (fun _ _ _ h => h) (by kernel_rfl) (by kernel_rfl) ?_ (Stage.still (by assumption)) ?_
    rotate_left
    · (intro w; go_simp; try (with_reducible rfl))
    try simp only [Act.put, List.setIfInBounds_toArray, List.set_cons_zero, List.set_cons_succ]
    refine doneT (by kernel_rfl) ?_ _
    clear HSV
    go_upto_region 9 with fail
    have hS1 := hS1.drew
    refine wp_region_stage (fun x : World => Sys x (upd m 0 (worldT p d (X.digest (voteB view block)))) (mapT intKey b (ones (addTo L0 who)) :: mapGT pairEnc vb mq :: (R ++ (blk ns (.cells #[.int .i64 view, .int .i64 block] 147 (0, 0)) :: blk q (.cells #[.pointer (some ⟨p, 0, none⟩), .int .i64 c.f, .int .i64 c.n, .int .i64 c.cl, .int .i64 c.ba, .int .i64 c.mo, .int .i64 c.bt, .int .i64 c.po, .int .i64 c.wi, .map (some vb), .map (some ob)] 143 (0, 0)) :: blk nr (.cells #[.int .i64 0, .int .i64 0, .slice none 0 0] 28 (0, 0)) :: outsT ob O :: l)))) [11] (by kernel_rfl) ?_
    refine takeW 0 (some 77) (v := ?_) rfl (by rfl) (by kernel_rfl) (by kernel_rfl) (by kernel_rfl) (fun _ _ _ h => h) (by kernel_rfl) (by kernel_rfl) ?_ (Stage.still (by assumption)) ?_
    rotate_left
    · (intro w; go_simp; try (with_reducible rfl))
    try simp only [Act.put, List.setIfInBounds_toArray, List.set_cons_zero, List.set_cons_succ]
    refine takeW 1 (some 78) (v := ?_) rfl (by rfl) (by kernel_rfl) (by kernel_rfl) (by kernel_rfl) (fun _ _ _ h => h) (by kernel_rfl) (by kernel_rfl) ?_ (Stage.still (by assumption)) ?_
    rotate_left
    · (intro w; go_simp; try (with_reducible rfl))
    try simp only [Act.put, List.setIfInBounds_toArray, List.set_cons_zero, List.set_cons_succ]
    refine takeW 2 (some 79) (v := ?_) rfl (by rfl) (by kernel_rfl) (by kernel_rfl) (by kernel_rfl) (fun _ _ _ h => h) (by kernel_rfl) (by kernel_rfl) ?_ (Stage.still (by assumption)) ?_
    rotate_left
    · (intro w; go_simp; try (with_reducible rfl))
    try simp only [Act.put, List.setIfInBounds_toArray, List.set_cons_zero, List.set_cons_succ]
    refine takeW 3 (some 80) (v := ?_) rfl (by rfl) (by kernel_rfl) (by kernel_rfl) (by kernel_rfl) (fun _ _ _ h => h) (by kernel_rfl) (by kernel_rfl) ?_ (Stage.still (by assumption)) ?_
    rotate_left
    · (intro w; go_simp; try (with_reducible rfl))
    try simp only [Act.put, List.setIfInBounds_toArray, List.set_cons_zero, List.set_cons_succ]
    refine takeW 4 (some 81) (v := ?_) rfl (by rfl) (by kernel_rfl) (by kernel_rfl) (by kernel_rfl) (fun _ _ _ h => h) (by kernel_rfl) (by kernel_rfl) ?_ (Stage.still (by assumption)) ?_
    rotate_left
    · (intro w; go_simp; try (with_reducible rfl))
    try simp only [Act.put, List.setIfInBounds_toArray, List.set_cons_zero, List.set_cons_succ]
    refine takeS 5 (some 82) (v := ?_) rfl (by rfl) (by kernel_rfl) (by kernel_rfl) (by kernel_rfl) (fun _ _ _ h => h) (by kernel_rfl) (by kernel_rfl) (by kernel_rfl) ?_ (by assumption) ?_
    rotate_left
    · (intro w hSw; have c : w.cell? ⟨q, 9, none⟩ = some (.map (some vb)) := cell_of_blk (Sys.memBlk (n := q) (o := .cells #[.pointer (some ⟨p, 0, none⟩), .int .i64 c.f, .int .i64 c.n, .int .i64 c.cl, .int .i64 c.ba, .int .i64 c.mo, .int .i64 c.bt, .int .i64 c.po, .int .i64 c.wi, .map (some vb), .map (some ob)] 143 (0, 0)) hSw (by simp)) 9; clear hSw; go_simp; try (with_reducible rfl))
    try simp only [Act.put, List.setIfInBounds_toArray, List.set_cons_zero, List.set_cons_succ]
    refine takeS 6 (some 83) (v := ?_) rfl (by rfl) (by kernel_rfl) (by kernel_rfl) (by kernel_rfl) (fun _ _ _ h => h) (by kernel_rfl) (by kernel_rfl) (by kernel_rfl) ?_ (by assumption) ?_
    rotate_left
    · (intro w hSw; have hb := (Sys.memBlk (n := ns) (o := .cells #[.int .i64 view, .int .i64 block] 147 (0, 0)) hSw (by simp)); have c0 : w.cell? ⟨ns, 0, none⟩ = some (.int .i64 view) := cell_of_blk hb 0; have c1 : w.cell? ⟨ns, 1, none⟩ = some (.int .i64 block) := cell_of_blk hb 1; clear hSw hb; go_simp; try (with_reducible rfl))
    try simp only [Act.put, List.setIfInBounds_toArray, List.set_cons_zero, List.set_cons_succ]
    refine takeS 7 (some 84) (v := ?_) rfl (by rfl) (by kernel_rfl) (by kernel_rfl) (by kernel_rfl) (fun _ _ _ h => h) (by kernel_rfl) (by kernel_rfl) (by kernel_rfl) ?_ (by assumption) ?_
    rotate_left
    · (intro w hSw; have e := MapG.lookup spot_run (hSw.swap).getMapG Try.underlying140 (zeroMap w) (view, block) false; rw [HK.out] at e; simp only [Bool.false_eq_true, if_false, pairEnc, Option.getD] at e; clear hSw; go_simp; try (with_reducible rfl))
    try simp only [Act.put, List.setIfInBounds_toArray, List.set_cons_zero, List.set_cons_succ]
    refine oneT 8 (by kernel_rfl) rfl (fun K hK => ?_)
    go_simp
    go_at_call 82
    refine (keys_TryA (some b) _).mono ?_
    rintro e _ ⟨rfl, rfl⟩
    have HB8 := Lib.hid hS1
    have hS1 := hS1.alloc0 (.cells #[.map (some b)] 75)
    go_wp2_with fail
    refine hK.out _ _ (Stage.still ?_) (fun hSt => ?_)
    · (try dsimp only); exact hS1
    clear hK K hSt
    try simp only [Act.put, List.setIfInBounds_toArray, List.set_cons_zero, List.set_cons_succ]
    refine oneT 9 (by kernel_rfl) rfl (fun K hK => ?_)
    go_simp
    go_at_call 81
    have CS := sorted_TryA b _ _ HB8.out.getMap HWF.out HLB.out
    rw [show (ones (addTo L0 who)).map (·.1) = addTo L0 who by simp [ones, List.map_map, Function.comp_def]] at CS
    refine CS.mono ?_
    rintro e w8 ⟨v, rfl, hN, hB8⟩
    obtain ⟨ho, hnew⟩ := hN.own
    have HS8 := Lib.hid ((HB8.out.alloc0 (.cells #[.map (some b)] 75)).pushOwn (by simpa using hB8) ho (fun k hk => by have h9 := hnew k hk; have h8 : w7.drew.heap.size = w7.heap.size := rfl; simp; omega))
    obtain ⟨va, vk, vc, rfl, HVK⟩ := ho.slice
    have hS1 := HS8.out.tail
    clear CS hN hB8 ho hnew
    go_wp2_with fail
    refine hK.out _ _ (Stage.still ?_) (fun hSt => ?_)
    · (try dsimp only); exact hS1
    clear hK K hSt
    try simp only [Act.put, List.setIfInBounds_toArray, List.set_cons_zero, List.set_cons_succ]
    refine takeW 10 (some 87) (v := ?_) rfl (by rfl) (by kernel_rfl) (by kernel_rfl) (by kernel_rfl) (fun _ _ _ h => h) (by kernel_rfl) (by kernel_rfl) ?_ (Stage.still (by assumption)) ?_
    rotate_left
    · (intro w; go_simp; try (with_reducible rfl))
    try simp only [Act.put, List.setIfInBounds_toArray, List.set_cons_zero, List.set_cons_succ]
    refine oneT 11 (by kernel_rfl) rfl (fun K hK => ?_)
    have hbr := Sys.memBlk (n := nr) (o := .cells #[.int .i64 0, .int .i64 0, .slice none 0 0] 28 (0, 0)) HS8.out (by simp)
    have hzz := setRow_heap w8 nr _ #[.int .i64 view, .int .i64 block, .slice va vk vc] _ _ hbr
    refine if_wanted rfl (wp_store_row 28 _ _ rfl nr #[.int .i64 view, .int .i64 block, .slice va vk vc] rfl rfl _ _ hbr size3 rfl (by simp [Value.oneCell']) ?_)
    refine hK.out _ _ (Stage.past (by kernel_rfl)) (fun hSt => ?_)
    clear hK K hSt
    try simp only [Act.put, List.setIfInBounds_toArray, List.set_cons_zero, List.set_cons_succ]
    refine takeW 12 (some 9) (v := ?_) rfl (by rfl) (by kernel_rfl) (by kernel_rfl) (by kernel_rfl) (fun _ _ _ h => h) (by kernel_rfl) (by kernel_rfl) ?_ (Stage.past (by kernel_rfl)) ?_
    rotate_left
    · (intro w; go_simp; try (with_reducible rfl))
    try simp only [Act.put, List.setIfInBounds_toArray, List.set_cons_zero, List.set_cons_succ]
    refine doneT (by kernel_rfl) ?_ _
    have HSR := Lib.hid ((HCL.out w8 _ (blk ns (.cells #[.int .i64 view, .int .i64 block] 147 (0, 0)) :: blk q (.cells #[.pointer (some ⟨p, 0, none⟩), .int .i64 c.f, .int .i64 c.n, .int .i64 c.cl, .int .i64 c.ba, .int .i64 c.mo, .int .i64 c.bt, .int .i64 c.po, .int .i64 c.wi, .map (some vb), .map (some ob)] 143 (0, 0)) :: blk nr (.cells #[.int .i64 0, .int .i64 0, .slice none 0 0] 28 (0, 0)) :: outsT ob O :: l) (addTo L0 who) HWL.out HS8.out.tail).perm (rot4 _ _ _ _ _ _))
    have HOW := Lib.hid HS8.out.getOwn
    have HFI : Hid (Sys (w8.setRow nr #[.int .i64 view, .int .i64 block, .slice va vk vc]) (upd m 0 (worldT p d (X.digest (voteB view block)))) (own 3 1 (.slice va vk vc) (rising (addTo L0 who)).length ((rising (addTo L0 who)).map (Value.int .i64)) :: blk ns (.cells #[.int .i64 view, .int .i64 block] 147 (0, 0)) :: blk q (.cells #[.pointer (some ⟨p, 0, none⟩), .int .i64 c.f, .int .i64 c.n, .int .i64 c.cl, .int .i64 c.ba, .int .i64 c.mo, .int .i64 c.bt, .int .i64 c.po, .int .i64 c.wi, .map (some vb), .map (some ob)] 143 (0, 0)) :: votesT vb (aset V (view, block) (addTo L0 who)) :: outsT ob O :: l)) := by
      have h1 := HS8.out.perm (l' := blk nr (.cells #[.int .i64 0, .int .i64 0, .slice none 0 0] 28 (0, 0)) :: own 3 1 (.slice va vk vc) (rising (addTo L0 who)).length ((rising (addTo L0 who)).map (Value.int .i64)) :: mapT intKey b (ones (addTo L0 who)) :: mapGT pairEnc vb mq :: (R ++ (blk ns (.cells #[.int .i64 view, .int .i64 block] 147 (0, 0)) :: blk q (.cells #[.pointer (some ⟨p, 0, none⟩), .int .i64 c.f, .int .i64 c.n, .int .i64 c.cl, .int .i64 c.ba, .int .i64 c.mo, .int .i64 c.bt, .int .i64 c.po, .int .i64 c.wi, .map (some vb), .map (some ob)] 143 (0, 0)) :: outsT ob O :: l))) (perm_rb _ _ _ _ _ _ _ _ _)
      have h2 := (h1.store ((Chg.refl (· = nr) w8).row #[.int .i64 view, .int .i64 block, .slice va vk vc]) hzz).tail
      have h3 := HCL.out _ _ (own 3 1 (.slice va vk vc) (rising (addTo L0 who)).length ((rising (addTo L0 who)).map (Value.int .i64)) :: blk ns (.cells #[.int .i64 view, .int .i64 block] 147 (0, 0)) :: blk q (.cells #[.pointer (some ⟨p, 0, none⟩), .int .i64 c.f, .int .i64 c.n, .int .i64 c.cl, .int .i64 c.ba, .int .i64 c.mo, .int .i64 c.bt, .int .i64 c.po, .int .i64 c.wi, .map (some vb), .map (some ob)] 143 (0, 0)) :: outsT ob O :: l) (addTo L0 who) HWL.out (h2.perm (perm_ow _ _ _ _ _ _ _ _))
      exact h3.perm (perm_fi _ _ _ _ _ _)
    clear HSR HOW hS1
    go_wp2_with fail
    refine bodyPost_ret (results_cell_tmp (cs := #[.int .i64 view, .int .i64 block, .slice va vk vc]) rfl _ _ nr _ _ _ rfl hzz Try.underlying28 rfl size3) rfl ?_
    have h9 : Sys _ (upd m 0 (worldT p d (X.digest (voteB view block)))) (tallyT q p c (aset V (view, block) (addTo L0 who)) O :: own 3 1 (.slice va vk vc) (rising (addTo L0 who)).length ((rising (addTo L0 who)).map (Value.int .i64)) :: blk ns (.cells #[.int .i64 view, .int .i64 block] 147 (0, 0)) :: l) := Sys.close (vb, ob) (HFI.out.perm (perm_out _ _ _ _ _ _))
    exact ⟨_, rfl, by rw [HV0.out]; exact (h9.swap.perm ((List.Perm.cons _ (List.Perm.swap _ _ _)).trans (List.Perm.swap _ _ _))).tail⟩
  | some L0 =>
    have hv0 : voters V (view, block) = L0 := by unfold voters; rw [hk]; rfl
    obtain ⟨b, mq, R, hkm, hwf0, hst, hcl⟩ := votes_focus H4.out hk
    have HK := Lib.hid hkm
    have HCL := Lib.hid hcl
    have HWL : Hid (AllWf (addTo L0 who)) := by
      intro a ha; rcases mem_addTo.1 ha with h | h
      · exact hwf0 a h
      · rw [h]; exact HWW.out
    rw [hv0] at HLV HQ0
    have HV0 := Lib.hid hv0
    have hS1 := hst.drew
    clear hkm hcl hwf0 hst hk hv0
    refine wp_region_stage (fun x : World => Sys x (upd m 0 (worldT p d (X.digest (voteB view block)))) (mapT intKey b (ones L0) :: mapGT pairEnc vb mq :: (R ++ (blk ns (.cells #[.int .i64 view, .int .i64 block] 147 (0, 0)) :: blk q (.cells #[.pointer (some ⟨p, 0, none⟩), .int .i64 c.f, .int .i64 c.n, .int .i64 c.cl, .int .i64 c.ba, .int .i64 c.mo, .int .i64 c.bt, .int .i64 c.po, .int .i64 c.wi, .map (some vb), .map (some ob)] 143 (0, 0)) :: blk nr (.cells #[.int .i64 0, .int .i64 0, .slice none 0 0] 28 (0, 0)) :: outsT ob O :: l)))) [] (by kernel_rfl) ?_
    refine takeW 0 (some 43) (v := ?_) rfl (by rfl) (by kernel_rfl) (by kernel_rfl) (by kernel_rfl) (fun _ _ _ h => h) (by kernel_rfl) (by kernel_rfl) ?_ (Stage.still (by assumption)) ?_
    rotate_left
    · (intro w; go_simp; try (with_reducible rfl))
    try simp only [Act.put, List.setIfInBounds_toArray, List.set_cons_zero, List.set_cons_succ]
    refine takeW 1 (some 44) (v := ?_) rfl (by rfl) (by kernel_rfl) (by kernel_rfl) (by kernel_rfl) (fun _ _ _ h => h) (by kernel_rfl) (by kernel_rfl) ?_ (Stage.still (by assumption)) ?_
    rotate_left
    · (intro w; go_simp; try (with_reducible rfl))
    try simp only [Act.put, List.setIfInBounds_toArray, List.set_cons_zero, List.set_cons_succ]
    refine takeW 2 (some 45) (v := ?_) rfl (by rfl) (by kernel_rfl) (by kernel_rfl) (by kernel_rfl) (fun _ _ _ h => h) (by kernel_rfl) (by kernel_rfl) ?_ (Stage.still (by assumption)) ?_
    rotate_left
    · (intro w; go_simp; try (with_reducible rfl))
    try simp only [Act.put, List.setIfInBounds_toArray, List.set_cons_zero, List.set_cons_succ]
    refine takeS 3 (some 46) (v := ?_) rfl (by rfl) (by kernel_rfl) (by kernel_rfl) (by kernel_rfl) (fun _ _ _ h => h) (by kernel_rfl) (by kernel_rfl) (by kernel_rfl) ?_ (by assumption) ?_
    rotate_left
    · (intro w hSw; have c : w.cell? ⟨q, 9, none⟩ = some (.map (some vb)) := cell_of_blk (Sys.memBlk (n := q) (o := .cells #[.pointer (some ⟨p, 0, none⟩), .int .i64 c.f, .int .i64 c.n, .int .i64 c.cl, .int .i64 c.ba, .int .i64 c.mo, .int .i64 c.bt, .int .i64 c.po, .int .i64 c.wi, .map (some vb), .map (some ob)] 143 (0, 0)) hSw (by simp)) 9; clear hSw; go_simp; try (with_reducible rfl))
    try simp only [Act.put, List.setIfInBounds_toArray, List.set_cons_zero, List.set_cons_succ]
    refine takeS 4 (some 47) (v := ?_) rfl (by rfl) (by kernel_rfl) (by kernel_rfl) (by kernel_rfl) (fun _ _ _ h => h) (by kernel_rfl) (by kernel_rfl) (by kernel_rfl) ?_ (by assumption) ?_
    rotate_left
    · (intro w hSw; have hb := (Sys.memBlk (n := ns) (o := .cells #[.int .i64 view, .int .i64 block] 147 (0, 0)) hSw (by simp)); have c0 : w.cell? ⟨ns, 0, none⟩ = some (.int .i64 view) := cell_of_blk hb 0; have c1 : w.cell? ⟨ns, 1, none⟩ = some (.int .i64 block) := cell_of_blk hb 1; clear hSw hb; go_simp; try (with_reducible rfl))
    try simp only [Act.put, List.setIfInBounds_toArray, List.set_cons_zero, List.set_cons_succ]
    refine takeS 5 (some 48) (v := ?_) rfl (by rfl) (by kernel_rfl) (by kernel_rfl) (by kernel_rfl) (fun _ _ _ h => h) (by kernel_rfl) (by kernel_rfl) (by kernel_rfl) ?_ (by assumption) ?_
    rotate_left
    · (intro w hSw; have e := MapG.lookup spot_run (hSw.swap).getMapG Try.underlying140 (zeroMap w) (view, block) false; rw [HK.out] at e; simp only [Bool.false_eq_true, if_false, pairEnc, Option.getD] at e; clear hSw; go_simp; try (with_reducible rfl))
    try simp only [Act.put, List.setIfInBounds_toArray, List.set_cons_zero, List.set_cons_succ]
    refine takeS 6 (some 49) (v := ?_) rfl (by rfl) (by kernel_rfl) (by kernel_rfl) (by kernel_rfl) (fun _ _ _ h => h) (by kernel_rfl) (by kernel_rfl) (by kernel_rfl) ?_ (by assumption) ?_
    rotate_left
    · (intro w hSw; clear hSw; have e := fun v => run_eql_map_nil (P := Try.prog) w 75 3 3 v Try.underlying75; go_simp; try (with_reducible rfl))
    try simp only [Act.put, List.setIfInBounds_toArray, List.set_cons_zero, List.set_cons_succ]
    refine doneT (by kernel_rfl) ?_ _
    have HST := Lib.hid hS1
    clear hS1
    go_wp2_with fail
    have HWF : Hid (∀ pr ∈ ones (addTo L0 who), (Lit.int .i64 pr.1).wf = true) := by
      intro pr hp
      obtain ⟨a, ha, rfl⟩ := List.mem_map.1 hp
      exact HWL.out a ha
    have HLB : Hid ((ones (addTo L0 who)).length * 8 ≤ 140737488355328) := by
      show _ ≤ _
      rw [show (ones (addTo L0 who)).length = (addTo L0 who).length by simp [ones]]
      have h1 := addTo_len L0 who
      have h2 := HLV.out
      omega
    have hq7 : decide (((addTo L0 who).length : Int) < 2 * c.f + 1) = false := by have := HQ0.out; simp; omega
    have hS1 := HST.out.drew
    refine wp_region_stage (fun x : World => Sys x (upd m 0 (worldT p d (X.digest (voteB view block)))) (mapT intKey b (ones L0) :: mapGT pairEnc vb mq :: (R ++ (blk ns (.cells #[.int .i64 view, .int .i64 block] 147 (0, 0)) :: blk q (.cells #[.pointer (some ⟨p, 0, none⟩), .int .i64 c.f, .int .i64 c.n, .int .i64 c.cl, .int .i64 c.ba, .int .i64 c.mo, .int .i64 c.bt, .int .i64 c.po, .int .i64 c.wi, .map (some vb), .map (some ob)] 143 (0, 0)) :: blk nr (.cells #[.int .i64 0, .int .i64 0, .slice none 0 0] 28 (0, 0)) :: outsT ob O :: l)))) [7] (by kernel_rfl) ?_
    refine takeW 0 (some 56) (v := ?_) rfl (by rfl) (by kernel_rfl) (by kernel_rfl) (by kernel_rfl) (fun _ _ _ h => h) (by kernel_rfl) (by kernel_rfl) ?_ (Stage.still (by assumption)) ?_
    rotate_left
    · (intro w; go_simp; try (with_reducible rfl))
    try simp only [Act.put, List.setIfInBounds_toArray, List.set_cons_zero, List.set_cons_succ]
    refine takeW 1 (some 57) (v := ?_) rfl (by rfl) (by kernel_rfl) (by kernel_rfl) (by kernel_rfl) (fun _ _ _ h => h) (by kernel_rfl) (by kernel_rfl) ?_ (Stage.still (by assumption)) ?_
    rotate_left
    · (intro w; go_simp; try (with_reducible rfl))
    try simp only [Act.put, List.setIfInBounds_toArray, List.set_cons_zero, List.set_cons_succ]
    refine takeW 2 (some 58) (v := ?_) rfl (by rfl) (by kernel_rfl) (by kernel_rfl) (by kernel_rfl) (fun _ _ _ h => h) (by kernel_rfl) (by kernel_rfl) ?_ (Stage.still (by assumption)) ?_
    rotate_left
    · (intro w; go_simp; try (with_reducible rfl))
    try simp only [Act.put, List.setIfInBounds_toArray, List.set_cons_zero, List.set_cons_succ]
    refine takeS 3 (some 59) (v := ?_) rfl (by rfl) (by kernel_rfl) (by kernel_rfl) (by kernel_rfl) (fun _ _ _ h => h) (by kernel_rfl) (by kernel_rfl) (by kernel_rfl) ?_ (by assumption) ?_
    rotate_left
    · (intro w hSw; have c : w.cell? ⟨q, 9, none⟩ = some (.map (some vb)) := cell_of_blk (Sys.memBlk (n := q) (o := .cells #[.pointer (some ⟨p, 0, none⟩), .int .i64 c.f, .int .i64 c.n, .int .i64 c.cl, .int .i64 c.ba, .int .i64 c.mo, .int .i64 c.bt, .int .i64 c.po, .int .i64 c.wi, .map (some vb), .map (some ob)] 143 (0, 0)) hSw (by simp)) 9; clear hSw; go_simp; try (with_reducible rfl))
    try simp only [Act.put, List.setIfInBounds_toArray, List.set_cons_zero, List.set_cons_succ]
    refine takeS 4 (some 60) (v := ?_) rfl (by rfl) (by kernel_rfl) (by kernel_rfl) (by kernel_rfl) (fun _ _ _ h => h) (by kernel_rfl) (by kernel_rfl) (by kernel_rfl) ?_ (by assumption) ?_
    rotate_left
    · (intro w hSw; have hb := (Sys.memBlk (n := ns) (o := .cells #[.int .i64 view, .int .i64 block] 147 (0, 0)) hSw (by simp)); have c0 : w.cell? ⟨ns, 0, none⟩ = some (.int .i64 view) := cell_of_blk hb 0; have c1 : w.cell? ⟨ns, 1, none⟩ = some (.int .i64 block) := cell_of_blk hb 1; clear hSw hb; go_simp; try (with_reducible rfl))
    try simp only [Act.put, List.setIfInBounds_toArray, List.set_cons_zero, List.set_cons_succ]
    refine takeS 5 (some 61) (v := ?_) rfl (by rfl) (by kernel_rfl) (by kernel_rfl) (by kernel_rfl) (fun _ _ _ h => h) (by kernel_rfl) (by kernel_rfl) (by kernel_rfl) ?_ (by assumption) ?_
    rotate_left
    · (intro w hSw; have e := MapG.lookup spot_run (hSw.swap).getMapG Try.underlying140 (zeroMap w) (view, block) false; rw [HK.out] at e; simp only [Bool.false_eq_true, if_false, pairEnc, Option.getD] at e; clear hSw; go_simp; try (with_reducible rfl))
    try simp only [Act.put, List.setIfInBounds_toArray, List.set_cons_zero, List.set_cons_succ]
    refine takeW 6 (some 62) (v := ?_) rfl (by rfl) (by kernel_rfl) (by kernel_rfl) (by kernel_rfl) (fun _ _ _ h => h) (by kernel_rfl) (by kernel_rfl) ?_ (Stage.still (by assumption)) ?_
    rotate_left
    · (intro w; go_simp; try (with_reducible rfl))
    try simp only [Act.put, List.setIfInBounds_toArray, List.set_cons_zero, List.set_cons_succ]
    refine oneT 7 (by kernel_rfl) rfl (fun K hK => ?_)
    obtain ⟨wv, hv, hmv, hcv, _⟩ := hS1.getMap.update (P := Try.prog) Try.underlying75 Try.underlying3 who (.int .i64 1)
    simp only [intKey] at hv
    rw [show aset (ones L0) who (Value.int .i64 1) = ones (addTo L0 who) from aset_ones L0 who] at hmv
    have HSV := Lib.hid (hS1.mapTo hmv hcv)
    clear hmv hcv
    go_simp
    refine hK.out _ _ (Stage.past (by kernel_rfl)) (fun hSt => ?_)
    clear hK K hSt
    try simp only [Act.put, List.setIfInBounds_toArray, List.set_cons_zero, List.set_cons_succ]
    refine doneT (by kernel_rfl) ?_ _
    clear hS1 HST
    go_wp2_with fail
    have hS1 := HSV.out.drew
    refine wp_region_stage (fun x : World => Sys x (upd m 0 (worldT p d (X.digest (voteB view block)))) (mapT intKey b (ones (addTo L0 who)) :: mapGT pairEnc vb mq :: (R ++ (blk ns (.cells #[.int .i64 view, .int .i64 block] 147 (0, 0)) :: blk q (.cells #[.pointer (some ⟨p, 0, none⟩), .int .i64 c.f, .int .i64 c.n, .int .i64 c.cl, .int .i64 c.ba, .int .i64 c.mo, .int .i64 c.bt, .int .i64 c.po, .int .i64 c.wi, .map (some vb), .map (some ob)] 143 (0, 0)) :: blk nr (.cells #[.int .i64 0, .int .i64 0, .slice none 0 0] 28 (0, 0)) :: outsT ob O :: l)))) [] (by kernel_rfl) ?_
    refine takeW 0 (some 63) (v := ?_) rfl (by rfl) (by kernel_rfl) (by kernel_rfl) (by kernel_rfl) (fun _ _ _ h => h) (by kernel_rfl) (by kernel_rfl) ?_ (Stage.still (by assumption)) ?_
    rotate_left
    · (intro w; go_simp; try (with_reducible rfl))
    try simp only [Act.put, List.setIfInBounds_toArray, List.set_cons_zero, List.set_cons_succ]
    refine takeW 1 (some 64) (v := ?_) rfl (by rfl) (by kernel_rfl) (by kernel_rfl) (by kernel_rfl) (fun _ _ _ h => h) (by kernel_rfl) (by kernel_rfl) ?_ (Stage.still (by assumption)) ?_
    rotate_left
    · (intro w; go_simp; try (with_reducible rfl))
    try simp only [Act.put, List.setIfInBounds_toArray, List.set_cons_zero, List.set_cons_succ]
    refine takeW 2 (some 65) (v := ?_) rfl (by rfl) (by kernel_rfl) (by kernel_rfl) (by kernel_rfl) (fun _ _ _ h => h) (by kernel_rfl) (by kernel_rfl) ?_ (Stage.still (by assumption)) ?_
    rotate_left
    · (intro w; go_simp; try (with_reducible rfl))
    try simp only [Act.put, List.setIfInBounds_toArray, List.set_cons_zero, List.set_cons_succ]
    refine takeS 3 (some 66) (v := ?_) rfl (by rfl) (by kernel_rfl) (by kernel_rfl) (by kernel_rfl) (fun _ _ _ h => h) (by kernel_rfl) (by kernel_rfl) (by kernel_rfl) ?_ (by assumption) ?_
    rotate_left
    · (intro w hSw; have c : w.cell? ⟨q, 9, none⟩ = some (.map (some vb)) := cell_of_blk (Sys.memBlk (n := q) (o := .cells #[.pointer (some ⟨p, 0, none⟩), .int .i64 c.f, .int .i64 c.n, .int .i64 c.cl, .int .i64 c.ba, .int .i64 c.mo, .int .i64 c.bt, .int .i64 c.po, .int .i64 c.wi, .map (some vb), .map (some ob)] 143 (0, 0)) hSw (by simp)) 9; clear hSw; go_simp; try (with_reducible rfl))
    try simp only [Act.put, List.setIfInBounds_toArray, List.set_cons_zero, List.set_cons_succ]
    refine takeS 4 (some 67) (v := ?_) rfl (by rfl) (by kernel_rfl) (by kernel_rfl) (by kernel_rfl) (fun _ _ _ h => h) (by kernel_rfl) (by kernel_rfl) (by kernel_rfl) ?_ (by assumption) ?_
    rotate_left
    · (intro w hSw; have hb := (Sys.memBlk (n := ns) (o := .cells #[.int .i64 view, .int .i64 block] 147 (0, 0)) hSw (by simp)); have c0 : w.cell? ⟨ns, 0, none⟩ = some (.int .i64 view) := cell_of_blk hb 0; have c1 : w.cell? ⟨ns, 1, none⟩ = some (.int .i64 block) := cell_of_blk hb 1; clear hSw hb; go_simp; try (with_reducible rfl))
    try simp only [Act.put, List.setIfInBounds_toArray, List.set_cons_zero, List.set_cons_succ]
    refine takeS 5 (some 68) (v := ?_) rfl (by rfl) (by kernel_rfl) (by kernel_rfl) (by kernel_rfl) (fun _ _ _ h => h) (by kernel_rfl) (by kernel_rfl) (by kernel_rfl) ?_ (by assumption) ?_
    rotate_left
    · (intro w hSw; have e := MapG.lookup spot_run (hSw.swap).getMapG Try.underlying140 (zeroMap w) (view, block) false; rw [HK.out] at e; simp only [Bool.false_eq_true, if_false, pairEnc, Option.getD] at e; clear hSw; go_simp; try (with_reducible rfl))
    try simp only [Act.put, List.setIfInBounds_toArray, List.set_cons_zero, List.set_cons_succ]
    refine takeS 6 (some 69) (v := ?_) rfl (by rfl) (by kernel_rfl) (by kernel_rfl) (by kernel_rfl) (fun _ _ _ h => h) (by kernel_rfl) (by kernel_rfl) (by kernel_rfl) ?_ (by assumption) ?_
    rotate_left
    · (intro w hSw; have e := hSw.getMap.len (P := Try.prog) (ty := 3) Try.underlying75; rw [show (ones (addTo L0 who)).length = (addTo L0 who).length by simp [ones]] at e; clear hSw; go_simp; try (with_reducible rfl))
    try simp only [Act.put, List.setIfInBounds_toArray, List.set_cons_zero, List.set_cons_succ]
    refine takeW 7 (some 70) (v := ?_) rfl (by rfl) (by kernel_rfl) (by kernel_rfl) (by kernel_rfl) (fun _ _ _ h => h) (by kernel_rfl) (by kernel_rfl) ?_ (Stage.still (by assumption)) ?_
    rotate_left
    · (intro w; go_simp; try (with_reducible rfl))
    try simp only [Act.put, List.setIfInBounds_toArray, List.set_cons_zero, List.set_cons_succ]
    refine takeW 8 (some 71) (v := ?_) rfl (by rfl) (by kernel_rfl) (by kernel_rfl) (by kernel_rfl) (fun _ _ _ h => h) (by kernel_rfl) (by kernel_rfl) ?_ (Stage.still (by assumption)) ?_
    rotate_left
    · (intro w; go_simp; try (with_reducible rfl))
    try simp only [Act.put, List.setIfInBounds_toArray, List.set_cons_zero, List.set_cons_succ]
    refine takeW 9 (some 72) (v := ?_) rfl (by rfl) (by kernel_rfl) (by kernel_rfl) (by kernel_rfl) (fun _ _ _ h => h) (by kernel_rfl) (by kernel_rfl) ?_ (Stage.still (by assumption)) ?_
    rotate_left
    · (intro w; go_simp; try (with_reducible rfl))
    try simp only [Act.put, List.setIfInBounds_toArray, List.set_cons_zero, List.set_cons_succ]
    refine takeS 10 (some 73) (v := ?_) rfl (by rfl) (by kernel_rfl) (by kernel_rfl) (by kernel_rfl) (fun _ _ _ h => h) (by kernel_rfl) (by kernel_rfl) (by kernel_rfl) ?_ (by assumption) ?_
    rotate_left
    · (intro w hSw; have hb := (Sys.memBlk (n := q) (o := .cells #[.pointer (some ⟨p, 0, none⟩), .int .i64 c.f, .int .i64 c.n, .int .i64 c.cl, .int .i64 c.ba, .int .i64 c.mo, .int .i64 c.bt, .int .i64 c.po, .int .i64 c.wi, .map (some vb), .map (some ob)] 143 (0, 0)) hSw (by simp)); have c0 : w.cell? ⟨q, 1, none⟩ = some (.int .i64 c.f) := cell_of_blk hb 1; have c1 : w.cell? ⟨q, 2, none⟩ = some (.int .i64 c.n) := cell_of_blk hb 2; have c2 : w.cell? ⟨q, 3, none⟩ = some (.int .i64 c.cl) := cell_of_blk hb 3; have c3 : w.cell? ⟨q, 4, none⟩ = some (.int .i64 c.ba) := cell_of_blk hb 4; have c4 : w.cell? ⟨q, 5, none⟩ = some (.int .i64 c.mo) := cell_of_blk hb 5; have c5 : w.cell? ⟨q, 6, none⟩ = some (.int .i64 c.bt) := cell_of_blk hb 6; have c6 : w.cell? ⟨q, 7, none⟩ = some (.int .i64 c.po) := cell_of_blk hb 7; have c7 : w.cell? ⟨q, 8, none⟩ = some (.int .i64 c.wi) := cell_of_blk hb 8; clear hSw hb; go_simp; try (with_reducible rfl))
    try simp only [Act.put, List.setIfInBounds_toArray, List.set_cons_zero, List.set_cons_succ]
    refine oneT 11 (by kernel_rfl) rfl (fun K hK => ?_)
    go_simp
    go_at_call 48
    refine (cert_quorum c HG.out hS1).mono ?_
    rintro e w7 ⟨rfl, h7⟩
    have hS1 := h7
    clear h7
    go_wp2_with fail
    refine hK.out _ _ (Stage.still ?_) (fun hSt => ?_)
    · (try dsimp only); exact hS1
    clear hK K hSt
    try simp only [Act.put, List.setIfInBounds_toArray, List.set_cons_zero, List.set_cons_succ]
    refine takeW 12 (some 75) (v := ?_) rfl (by rfl) (by kernel_rfl) (by kernel_rfl) (by kernel_rfl) (fun _ _ _ h => h) (by kernel_rfl) (by kernel_rfl) ?_ (Stage.still (by assumption)) ?_
    rotate_left
    · (intro w; go_simp; try (with_reducible rfl))
    try simp only [Act.put, List.setIfInBounds_toArray, List.set_cons_zero, List.set_cons_succ]
    refine doneT (by kernel_rfl) ?_ _
    clear HSV
    go_upto_region 9 with fail
    have hS1 := hS1.drew
    refine wp_region_stage (fun x : World => Sys x (upd m 0 (worldT p d (X.digest (voteB view block)))) (mapT intKey b (ones (addTo L0 who)) :: mapGT pairEnc vb mq :: (R ++ (blk ns (.cells #[.int .i64 view, .int .i64 block] 147 (0, 0)) :: blk q (.cells #[.pointer (some ⟨p, 0, none⟩), .int .i64 c.f, .int .i64 c.n, .int .i64 c.cl, .int .i64 c.ba, .int .i64 c.mo, .int .i64 c.bt, .int .i64 c.po, .int .i64 c.wi, .map (some vb), .map (some ob)] 143 (0, 0)) :: blk nr (.cells #[.int .i64 0, .int .i64 0, .slice none 0 0] 28 (0, 0)) :: outsT ob O :: l)))) [11] (by kernel_rfl) ?_
    refine takeW 0 (some 77) (v := ?_) rfl (by rfl) (by kernel_rfl) (by kernel_rfl) (by kernel_rfl) (fun _ _ _ h => h) (by kernel_rfl) (by kernel_rfl) ?_ (Stage.still (by assumption)) ?_
    rotate_left
    · (intro w; go_simp; try (with_reducible rfl))
    try simp only [Act.put, List.setIfInBounds_toArray, List.set_cons_zero, List.set_cons_succ]
    refine takeW 1 (some 78) (v := ?_) rfl (by rfl) (by kernel_rfl) (by kernel_rfl) (by kernel_rfl) (fun _ _ _ h => h) (by kernel_rfl) (by kernel_rfl) ?_ (Stage.still (by assumption)) ?_
    rotate_left
    · (intro w; go_simp; try (with_reducible rfl))
    try simp only [Act.put, List.setIfInBounds_toArray, List.set_cons_zero, List.set_cons_succ]
    refine takeW 2 (some 79) (v := ?_) rfl (by rfl) (by kernel_rfl) (by kernel_rfl) (by kernel_rfl) (fun _ _ _ h => h) (by kernel_rfl) (by kernel_rfl) ?_ (Stage.still (by assumption)) ?_
    rotate_left
    · (intro w; go_simp; try (with_reducible rfl))
    try simp only [Act.put, List.setIfInBounds_toArray, List.set_cons_zero, List.set_cons_succ]
    refine takeW 3 (some 80) (v := ?_) rfl (by rfl) (by kernel_rfl) (by kernel_rfl) (by kernel_rfl) (fun _ _ _ h => h) (by kernel_rfl) (by kernel_rfl) ?_ (Stage.still (by assumption)) ?_
    rotate_left
    · (intro w; go_simp; try (with_reducible rfl))
    try simp only [Act.put, List.setIfInBounds_toArray, List.set_cons_zero, List.set_cons_succ]
    refine takeW 4 (some 81) (v := ?_) rfl (by rfl) (by kernel_rfl) (by kernel_rfl) (by kernel_rfl) (fun _ _ _ h => h) (by kernel_rfl) (by kernel_rfl) ?_ (Stage.still (by assumption)) ?_
    rotate_left
    · (intro w; go_simp; try (with_reducible rfl))
    try simp only [Act.put, List.setIfInBounds_toArray, List.set_cons_zero, List.set_cons_succ]
    refine takeS 5 (some 82) (v := ?_) rfl (by rfl) (by kernel_rfl) (by kernel_rfl) (by kernel_rfl) (fun _ _ _ h => h) (by kernel_rfl) (by kernel_rfl) (by kernel_rfl) ?_ (by assumption) ?_
    rotate_left
    · (intro w hSw; have c : w.cell? ⟨q, 9, none⟩ = some (.map (some vb)) := cell_of_blk (Sys.memBlk (n := q) (o := .cells #[.pointer (some ⟨p, 0, none⟩), .int .i64 c.f, .int .i64 c.n, .int .i64 c.cl, .int .i64 c.ba, .int .i64 c.mo, .int .i64 c.bt, .int .i64 c.po, .int .i64 c.wi, .map (some vb), .map (some ob)] 143 (0, 0)) hSw (by simp)) 9; clear hSw; go_simp; try (with_reducible rfl))
    try simp only [Act.put, List.setIfInBounds_toArray, List.set_cons_zero, List.set_cons_succ]
    refine takeS 6 (some 83) (v := ?_) rfl (by rfl) (by kernel_rfl) (by kernel_rfl) (by kernel_rfl) (fun _ _ _ h => h) (by kernel_rfl) (by kernel_rfl) (by kernel_rfl) ?_ (by assumption) ?_
    rotate_left
    · (intro w hSw; have hb := (Sys.memBlk (n := ns) (o := .cells #[.int .i64 view, .int .i64 block] 147 (0, 0)) hSw (by simp)); have c0 : w.cell? ⟨ns, 0, none⟩ = some (.int .i64 view) := cell_of_blk hb 0; have c1 : w.cell? ⟨ns, 1, none⟩ = some (.int .i64 block) := cell_of_blk hb 1; clear hSw hb; go_simp; try (with_reducible rfl))
    try simp only [Act.put, List.setIfInBounds_toArray, List.set_cons_zero, List.set_cons_succ]
    refine takeS 7 (some 84) (v := ?_) rfl (by rfl) (by kernel_rfl) (by kernel_rfl) (by kernel_rfl) (fun _ _ _ h => h) (by kernel_rfl) (by kernel_rfl) (by kernel_rfl) ?_ (by assumption) ?_
    rotate_left
    · (intro w hSw; have e := MapG.lookup spot_run (hSw.swap).getMapG Try.underlying140 (zeroMap w) (view, block) false; rw [HK.out] at e; simp only [Bool.false_eq_true, if_false, pairEnc, Option.getD] at e; clear hSw; go_simp; try (with_reducible rfl))
    try simp only [Act.put, List.setIfInBounds_toArray, List.set_cons_zero, List.set_cons_succ]
    refine oneT 8 (by kernel_rfl) rfl (fun K hK => ?_)
    go_simp
    go_at_call 82
    refine (keys_TryA (some b) _).mono ?_
    rintro e _ ⟨rfl, rfl⟩
    have HB8 := Lib.hid hS1
    have hS1 := hS1.alloc0 (.cells #[.map (some b)] 75)
    go_wp2_with fail
    refine hK.out _ _ (Stage.still ?_) (fun hSt => ?_)
    · (try dsimp only); exact hS1
    clear hK K hSt
    try simp only [Act.put, List.setIfInBounds_toArray, List.set_cons_zero, List.set_cons_succ]
    refine oneT 9 (by kernel_rfl) rfl (fun K hK => ?_)
    go_simp
    go_at_call 81
    have CS := sorted_TryA b _ _ HB8.out.getMap HWF.out HLB.out
    rw [show (ones (addTo L0 who)).map (·.1) = addTo L0 who by simp [ones, List.map_map, Function.comp_def]] at CS
    refine CS.mono ?_
    rintro e w8 ⟨v, rfl, hN, hB8⟩
    obtain ⟨ho, hnew⟩ := hN.own
    have HS8 := Lib.hid ((HB8.out.alloc0 (.cells #[.map (some b)] 75)).pushOwn (by simpa using hB8) ho (fun k hk => by have h9 := hnew k hk; have h8 : w7.drew.heap.size = w7.heap.size := rfl; simp; omega))
    obtain ⟨va, vk, vc, rfl, HVK⟩ := ho.slice
    have hS1 := HS8.out.tail
    clear CS hN hB8 ho hnew
    go_wp2_with fail
    refine hK.out _ _ (Stage.still ?_) (fun hSt => ?_)
    · (try dsimp only); exact hS1
    clear hK K hSt
    try simp only [Act.put, List.setIfInBounds_toArray, List.set_cons_zero, List.set_cons_succ]
    refine takeW 10 (some 87) (v := ?_) rfl (by rfl) (by kernel_rfl) (by kernel_rfl) (by kernel_rfl) (fun _ _ _ h => h) (by kernel_rfl) (by kernel_rfl) ?_ (Stage.still (by assumption)) ?_
    rotate_left
    · (intro w; go_simp; try (with_reducible rfl))
    try simp only [Act.put, List.setIfInBounds_toArray, List.set_cons_zero, List.set_cons_succ]
    refine oneT 11 (by kernel_rfl) rfl (fun K hK => ?_)
    have hbr := Sys.memBlk (n := nr) (o := .cells #[.int .i64 0, .int .i64 0, .slice none 0 0] 28 (0, 0)) HS8.out (by simp)
    have hzz := setRow_heap w8 nr _ #[.int .i64 view, .int .i64 block, .slice va vk vc] _ _ hbr
    refine if_wanted rfl (wp_store_row 28 _ _ rfl nr #[.int .i64 view, .int .i64 block, .slice va vk vc] rfl rfl _ _ hbr size3 rfl (by simp [Value.oneCell']) ?_)
    refine hK.out _ _ (Stage.past (by kernel_rfl)) (fun hSt => ?_)
    clear hK K hSt
    try simp only [Act.put, List.setIfInBounds_toArray, List.set_cons_zero, List.set_cons_succ]
    refine takeW 12 (some 9) (v := ?_) rfl (by rfl) (by kernel_rfl) (by kernel_rfl) (by kernel_rfl) (fun _ _ _ h => h) (by kernel_rfl) (by kernel_rfl) ?_ (Stage.past (by kernel_rfl)) ?_
    rotate_left
    · (intro w; go_simp; try (with_reducible rfl))
    try simp only [Act.put, List.setIfInBounds_toArray, List.set_cons_zero, List.set_cons_succ]
    refine doneT (by kernel_rfl) ?_ _
    have HSR := Lib.hid ((HCL.out w8 _ (blk ns (.cells #[.int .i64 view, .int .i64 block] 147 (0, 0)) :: blk q (.cells #[.pointer (some ⟨p, 0, none⟩), .int .i64 c.f, .int .i64 c.n, .int .i64 c.cl, .int .i64 c.ba, .int .i64 c.mo, .int .i64 c.bt, .int .i64 c.po, .int .i64 c.wi, .map (some vb), .map (some ob)] 143 (0, 0)) :: blk nr (.cells #[.int .i64 0, .int .i64 0, .slice none 0 0] 28 (0, 0)) :: outsT ob O :: l) (addTo L0 who) HWL.out HS8.out.tail).perm (rot4 _ _ _ _ _ _))
    have HOW := Lib.hid HS8.out.getOwn
    have HFI : Hid (Sys (w8.setRow nr #[.int .i64 view, .int .i64 block, .slice va vk vc]) (upd m 0 (worldT p d (X.digest (voteB view block)))) (own 3 1 (.slice va vk vc) (rising (addTo L0 who)).length ((rising (addTo L0 who)).map (Value.int .i64)) :: blk ns (.cells #[.int .i64 view, .int .i64 block] 147 (0, 0)) :: blk q (.cells #[.pointer (some ⟨p, 0, none⟩), .int .i64 c.f, .int .i64 c.n, .int .i64 c.cl, .int .i64 c.ba, .int .i64 c.mo, .int .i64 c.bt, .int .i64 c.po, .int .i64 c.wi, .map (some vb), .map (some ob)] 143 (0, 0)) :: votesT vb (aset V (view, block) (addTo L0 who)) :: outsT ob O :: l)) := by
      have h1 := HS8.out.perm (l' := blk nr (.cells #[.int .i64 0, .int .i64 0, .slice none 0 0] 28 (0, 0)) :: own 3 1 (.slice va vk vc) (rising (addTo L0 who)).length ((rising (addTo L0 who)).map (Value.int .i64)) :: mapT intKey b (ones (addTo L0 who)) :: mapGT pairEnc vb mq :: (R ++ (blk ns (.cells #[.int .i64 view, .int .i64 block] 147 (0, 0)) :: blk q (.cells #[.pointer (some ⟨p, 0, none⟩), .int .i64 c.f, .int .i64 c.n, .int .i64 c.cl, .int .i64 c.ba, .int .i64 c.mo, .int .i64 c.bt, .int .i64 c.po, .int .i64 c.wi, .map (some vb), .map (some ob)] 143 (0, 0)) :: outsT ob O :: l))) (perm_rb _ _ _ _ _ _ _ _ _)
      have h2 := (h1.store ((Chg.refl (· = nr) w8).row #[.int .i64 view, .int .i64 block, .slice va vk vc]) hzz).tail
      have h3 := HCL.out _ _ (own 3 1 (.slice va vk vc) (rising (addTo L0 who)).length ((rising (addTo L0 who)).map (Value.int .i64)) :: blk ns (.cells #[.int .i64 view, .int .i64 block] 147 (0, 0)) :: blk q (.cells #[.pointer (some ⟨p, 0, none⟩), .int .i64 c.f, .int .i64 c.n, .int .i64 c.cl, .int .i64 c.ba, .int .i64 c.mo, .int .i64 c.bt, .int .i64 c.po, .int .i64 c.wi, .map (some vb), .map (some ob)] 143 (0, 0)) :: outsT ob O :: l) (addTo L0 who) HWL.out (h2.perm (perm_ow _ _ _ _ _ _ _ _))
      exact h3.perm (perm_fi _ _ _ _ _ _)
    clear HSR HOW hS1
    go_wp2_with fail
    refine bodyPost_ret (results_cell_tmp (cs := #[.int .i64 view, .int .i64 block, .slice va vk vc]) rfl _ _ nr _ _ _ rfl hzz Try.underlying28 rfl size3) rfl ?_
    have h9 : Sys _ (upd m 0 (worldT p d (X.digest (voteB view block)))) (tallyT q p c (aset V (view, block) (addTo L0 who)) O :: own 3 1 (.slice va vk vc) (rising (addTo L0 who)).length ((rising (addTo L0 who)).map (Value.int .i64)) :: blk ns (.cells #[.int .i64 view, .int .i64 block] 147 (0, 0)) :: l) := Sys.close (vb, ob) (HFI.out.perm (perm_out _ _ _ _ _ _))
    exact ⟨_, rfl, by rw [HV0.out]; exact (h9.swap.perm ((List.Perm.cons _ (List.Perm.swap _ _ _)).trans (List.Perm.swap _ _ _))).tail⟩
end
end Go.Proofs.Ytcfhkpjheemkgaa
