/-
  The document's play of the counted votes: tolseylaw20.awake.
-/
import Derived.Test.YtcfhkpjheemkgaaTell
namespace Go.Proofs.Ytcfhkpjheemkgaa
set_option linter.unusedSectionVars false
set_option linter.unnecessarySimpa false
set_option linter.unusedSimpArgs false
set_option linter.unusedVariables false
open Go.RowKit Go.MapKept

theorem Sys.memBase {w W : World} {m : Nat → Thing} {l : List Thing} (h : Sys w m l) (ht : base W ∈ l) : Below W.heap.size W w := by obtain ⟨F, hF⟩ := h.mem ht; exact hF.1
def upto (j : Nat) : List Int := (List.range j).map Int.ofNat
theorem upto_add (j : Nat) : addTo (upto j) (j : Int) = upto (j + 1) := by
  unfold addTo upto
  rw [if_neg (by simp; omega), List.range_succ, List.map_append]
  rfl
def cfg4 : CfgX := ⟨1, 4, 0, 0, 0, 0, 0, 0⟩
theorem cfg4_good : cfg4.Good := by show (0 : Int) ≤ 1 ∧ (1 : Int) ≤ 1000 ∧ (4 : Int) = 3 * 1 + 1; omega
/-- What the play's world tells: who signed the vote, and gave the view up. -/
def Aw (R : Int) (X : WX) (A B : List Int) (k : Nat) : Prop := X.Ok ∧ rootB ∈ X.T ∧ dg X.T rootB = R ∧ X.T.length ≤ k ∧ sg X (voteB 2 5) = A ∧ sg X (outB 2 0) = B ∧ sg X (voteB 2 6) = []
theorem Aw.vote {R : Int} {X : WX} {A B : List Int} {k : Nat} (h : Aw R X A B k) (who : Int) : Aw R (X.signB who (voteB 2 5)) (addTo A who) B (k + 1) := by
  obtain ⟨h1, h2, h3, h4, h5, h6, h7⟩ := h
  refine ⟨signB_ok h1 _ _, mem_signB (.inl h2), (dg_signB (.inl h2)).trans h3, Nat.le_trans (signB_len _ _ _).1 (by omega), ?_, ?_, ?_⟩
  · rw [sg_signB h1, if_pos rfl, h5]
  · rw [sg_signB h1, if_neg (by decide), h6]
  · rw [sg_signB h1, if_neg (by decide), h7]
theorem Aw.out {R : Int} {X : WX} {A B : List Int} {k : Nat} (h : Aw R X A B k) (who : Int) : Aw R (X.signB who (outB 2 0)) A (addTo B who) (k + 1) := by
  obtain ⟨h1, h2, h3, h4, h5, h6, h7⟩ := h
  refine ⟨signB_ok h1 _ _, mem_signB (.inl h2), (dg_signB (.inl h2)).trans h3, Nat.le_trans (signB_len _ _ _).1 (by omega), ?_, ?_, ?_⟩
  · rw [sg_signB h1, if_neg (by decide), h5]
  · rw [sg_signB h1, if_pos rfl, h6]
  · rw [sg_signB h1, if_neg (by decide), h7]
theorem Aw.ext {R : Int} {X Y : WX} {A B : List Int} {k n : Nat} (h : Aw R X A B k) (he : X.Ext n Y) : Aw R Y A B (k + n) := by
  obtain ⟨h1, h2, h3, h4, h5, h6, h7⟩ := h
  exact ⟨he.ok h1, he.mem h2, (he.dg h2).trans h3, by have := he.len.2; omega, by rw [sg_ext h1 he, h5], by rw [sg_ext h1 he, h6], by rw [sg_ext h1 he, h7]⟩
theorem Aw.ok5 {R : Int} {X : WX} {B : List Int} {k : Nat} (h : Aw R X (upto 4) B k) (who : Int) (h0 : who ∈ upto 4) : voteOk X cfg4 who 2 5 = true := by
  obtain ⟨h1, h2, h3, h4, h5, h6, h7⟩ := h
  unfold voteOk
  rw [h5]
  have h8 : 0 ≤ who ∧ who < 4 := by
    simp [upto] at h0
    obtain ⟨a, h9, rfl⟩ := h0
    omega
  have : repB cfg4 who = true := by unfold repB cfg4; simpa using h8
  simp [this, h0]
theorem Aw.ok6 {R : Int} {X : WX} {A B : List Int} {k : Nat} (h : Aw R X A B k) (who : Int) : voteOk X cfg4 who 2 6 = false := by
  obtain ⟨h1, h2, h3, h4, h5, h6, h7⟩ := h
  unfold voteOk
  rw [h7]
  simp
theorem Aw.counts {R : Int} {X : WX} {A : List Int} {k : Nat} (h : Aw R X A (upto 4) k) (who : Int) (h0 : who ∈ upto 4) : countsB X cfg4 who 2 ⟨0, R, []⟩ = true := by
  obtain ⟨h1, h2, h3, h4, h5, h6, h7⟩ := h
  unfold countsB
  dsimp only
  rw [h6]
  have h8 : 0 ≤ who ∧ who < 4 := by
    simp [upto] at h0
    obtain ⟨a, h9, rfl⟩ := h0
    omega
  have : repB cfg4 who = true := by unfold repB cfg4; simpa using h8
  unfold qcB
  simp [this, h0, h3]
theorem Aw.tc {R : Int} {X : WX} {A : List Int} {k : Nat} (h : Aw R X A (upto 4) k) : tcB X cfg4 ⟨2, [0, 1, 2], [0, 0, 0], 0, R, []⟩ = true := by
  obtain ⟨h1, h2, h3, h4, h5, h6, h7⟩ := h
  have e1 : manyB cfg4 [0, 1, 2] = true := by decide
  have e2 : ∀ i, i < 3 → tcAt X ⟨2, [0, 1, 2], [0, 0, 0], 0, R, []⟩ i = true := by
    intro i hi
    unfold tcAt
    dsimp only
    rcases i with _ | _ | _ | i
    · simp [h6, upto]
    · simp only [h6, List.getD_cons_succ, List.getD_cons_zero]; decide
    · simp only [h6, List.getD_cons_succ, List.getD_cons_zero]; decide
    · omega
  unfold tcB
  have e3 : qcB X cfg4 0 R [] = true := by unfold qcB; simp [h3]
  dsimp only
  rw [e1, e3]
  simp only [Bool.and_true, Bool.and_eq_true, decide_eq_true_eq]
  exact ⟨⟨⟨by omega, rfl⟩, e2⟩, rfl⟩
theorem Aw.qc {R : Int} {X : WX} {B : List Int} {k : Nat} (h : Aw R X (upto 4) B k) : qcB X cfg4 2 5 [0, 1, 3] = true := by
  obtain ⟨h1, h2, h3, h4, h5, h6, h7⟩ := h
  have e1 : manyB cfg4 [0, 1, 3] = true := by decide
  unfold qcB
  unfold sg at h5
  rw [if_neg (by decide), e1, h5]
  decide
set_option maxRecDepth 100000 in
set_option maxHeartbeats 4000000 in
theorem tall_awake (w : World) : Calls Try.prog 42 #[] w fun e w' => e = .returned (.bool true) ∧ Below w.heap.size w w' := by
  go_enter Try.func42, Try.ntmps42
  go_wp2_with fail
  refine (world_new 1 (Sys.start w)).mono ?_
  rintro e w1 ⟨p, d, rfl, h1⟩
  obtain ⟨X0, hX0⟩ : ∃ X : WX, X = ⟨[], fun _ => [], min (max 1 0) 100 + 1, []⟩ := ⟨_, rfl⟩
  rw [← hX0] at h1
  have hs1 := h1.putN 0 rfl
  obtain ⟨nc, hnc⟩ : ∃ n, n = w1.heap.size := ⟨_, rfl⟩
  obtain ⟨w2, hw2⟩ : ∃ y, y = w1.alloc (.cells #[.int .i64 1, .int .i64 4, .int .i64 0, .int .i64 0, .int .i64 0, .int .i64 0, .int .i64 0, .int .i64 0] 49 (0, 0)) := ⟨_, rfl⟩
  have h2 := hs1.alloc (.cells #[.int .i64 1, .int .i64 4, .int .i64 0, .int .i64 0, .int .i64 0, .int .i64 0, .int .i64 0, .int .i64 0] 49 (0, 0)) hnc
  rw [← hw2] at h2
  have H2 := Lib.hid h2
  have HW2 := Lib.hid hw2
  have HNC := Lib.hid hnc
  have hbc := h2.getBlk
  clear h1 hs1 hnc hw2 h2
  go_upto_region 5 with fail
  rw [← HW2.out, ← HNC.out]
  go_wp2_with (refine wpList_load_row rfl 49 _ rfl nc rfl _ _ _ _ hbc Try.underlying49 rfl size8 ?_)
  refine (tally_new cfg4 H2.out).mono ?_
  rintro e w3 ⟨q, rfl, h3⟩
  have hT0 : X0.T.length = 0 := by rw [hX0]; rfl
  have H3 := Lib.hid h3
  clear h3 hbc
  go_wp2_with fail
  refine (cert_root H3.out (upd_same _ _ _) (by omega)).mono ?_
  rintro e w4 ⟨rfl, h4⟩
  rw [upd_upd] at h4
  obtain ⟨R, hR⟩ : ∃ R, R = dg X0.T rootB := ⟨_, rfl⟩
  rw [← hR]
  have hA : Aw R (X0.digest rootB) [] [] 1 := by
    have hf : ∀ x, (X0.digest rootB).f x = [] := fun x => by rw [hX0]; rfl
    exact ⟨fun x _ => hf x, mem_digest _ _, (dg_digest _ _).trans hR.symm, by have := (X0.ext_digest rootB).len.2; omega, hf _, hf _, hf _⟩
  obtain ⟨X1, hX1⟩ : ∃ X, X = X0.digest rootB := ⟨_, rfl⟩
  rw [← hX1] at h4 hA
  obtain ⟨nr, hnr⟩ : ∃ n, n = w4.heap.size := ⟨_, rfl⟩
  obtain ⟨w5, hw5⟩ : ∃ y, y = w4.alloc (.cells #[.int .i64 0, .int .i64 R, .slice none 0 0] 28 (0, 0)) := ⟨_, rfl⟩
  have h5 := h4.alloc (.cells #[.int .i64 0, .int .i64 R, .slice none 0 0] 28 (0, 0)) hnr
  rw [← hw5] at h5
  have H5 := Lib.hid h5
  have HW5 := Lib.hid hw5
  have HNR := Lib.hid hnr
  have HA := Lib.hid hA
  clear h4 hnr hw5 h5 hR hX1 hX0 hA hT0
  go_upto_region 9 with fail
  rw [← HW5.out, ← HNR.out]
  go_wp2_with fail
  go_loopw [5] (fun i wr => ∃ j : Nat, j ≤ 4 ∧ i = .int .i64 j ∧ ∃ X, Hid (Aw R X (upto j) (upto j) (1 + 2 * j)) ∧ Sys wr (upd (fun _ => emp) 0 (worldT p d X)) (blk nr (.cells #[.int .i64 0, .int .i64 R, .slice none 0 0] 28 (0, 0)) :: tallyT q p cfg4 [] [] :: blk nc (.cells #[.int .i64 1, .int .i64 4, .int .i64 0, .int .i64 0, .int .i64 0, .int .i64 0, .int .i64 0, .int .i64 0] 49 (0, 0)) :: base w :: [])) (fun i _ => 4 - (intOf i).toNat)
  case atStart => exact ⟨0, by omega, rfl, X1, HA.out, H5.out⟩
  case round =>
    obtain ⟨j, hj, rfl, X, HX, hR⟩ := hrel
    by_cases hlt : j < 4
    · have hjl : (j : Int) < 4 := by omega
      have hwrap : IntKind.i64.wrap ((j : Int) + 1) = (j : Int) + 1 := by rw [IntKind.wrap_i64]; omega
      have hwf : (Lit.int .i64 (j : Int)).wf = true := wf_mk (by omega) (by omega)
      have HR := Lib.hid hR
      clear hR
      go_wp2_with fail
      refine (world_signs HR.out (upd_same _ _ _)).mono ?_
      rintro e wa ⟨rfl, rfl⟩
      go_wp2_with fail
      refine (cert_vote 2 5 HR.out (upd_same _ _ _) (by have := HX.out.2.2.2.1; omega)).mono ?_
      rintro e wb ⟨rfl, hb⟩
      rw [upd_upd] at hb
      have HB := Lib.hid hb
      clear hb
      go_wp2_with fail
      refine (world_sign (j : Int) (dg X.T (voteB 2 5)) hwf HB.out (upd_same _ _ _)).mono ?_
      rintro e wd ⟨rfl, hd⟩
      rw [upd_upd] at hd
      have HD : Hid (Sys wd (upd (fun _ => emp) 0 (worldT p d (X.signB (j : Int) (voteB 2 5)))) (blk nr (.cells #[.int .i64 0, .int .i64 R, .slice none 0 0] 28 (0, 0)) :: tallyT q p cfg4 [] [] :: blk nc (.cells #[.int .i64 1, .int .i64 4, .int .i64 0, .int .i64 0, .int .i64 0, .int .i64 0, .int .i64 0, .int .i64 0] 49 (0, 0)) :: base w :: [])) := hd
      have HX1 := Lib.hid (HX.out.vote (j : Int))
      rw [upto_add] at HX1
      clear hd HB HR
      obtain ⟨X2, hX2⟩ : ∃ Y, Y = X.signB (j : Int) (voteB 2 5) := ⟨_, rfl⟩
      rw [← hX2] at HD HX1
      clear hX2 HX
      go_wp2_with fail
      refine (world_signs HD.out (upd_same _ _ _)).mono ?_
      rintro e we ⟨rfl, rfl⟩
      go_wp2_with fail
      refine (cert_out 2 0 HD.out (upd_same _ _ _) (by have := HX1.out.2.2.2.1; omega)).mono ?_
      rintro e wf ⟨rfl, hf⟩
      rw [upd_upd] at hf
      have HF := Lib.hid hf
      clear hf
      go_wp2_with fail
      refine (world_sign (j : Int) (dg X2.T (outB 2 0)) hwf HF.out (upd_same _ _ _)).mono ?_
      rintro e wg ⟨rfl, hg⟩
      rw [upd_upd] at hg
      have HG : Hid (Sys wg (upd (fun _ => emp) 0 (worldT p d (X2.signB (j : Int) (outB 2 0)))) (blk nr (.cells #[.int .i64 0, .int .i64 R, .slice none 0 0] 28 (0, 0)) :: tallyT q p cfg4 [] [] :: blk nc (.cells #[.int .i64 1, .int .i64 4, .int .i64 0, .int .i64 0, .int .i64 0, .int .i64 0, .int .i64 0, .int .i64 0] 49 (0, 0)) :: base w :: [])) := hg
      have HX3 := Lib.hid (HX1.out.out (j : Int))
      rw [upto_add] at HX3
      clear hg HF HD
      go_wp2_with fail
      go_roundw
      case rel => exact ⟨j + 1, by omega, by go_num, _, (by have h := HX3.out; rwa [show 1 + 2 * j + 1 + 1 = 1 + 2 * (j + 1) by omega] at h), HG.out⟩
      case measure => simp [intOf]; omega
    · obtain rfl : j = 4 := by omega
      have HR := Lib.hid hR
      clear hR
      go_wp2_with fail
      have H3 : Hid (Sys wr (upd (fun _ => emp) 0 (worldT p d X)) (tallyT q p cfg4 [] [] :: blk nr (.cells #[.int .i64 0, .int .i64 R, .slice none 0 0] 28 (0, 0)) :: blk nc (.cells #[.int .i64 1, .int .i64 4, .int .i64 0, .int .i64 0, .int .i64 0, .int .i64 0, .int .i64 0, .int .i64 0] 49 (0, 0)) :: base w :: [])) := Lib.hid HR.out.swap
      clear HR HA H5
      have HW := HX
      go_wp2_with fail
      refine (tally_vote cfg4 cfg4_good 3 2 5 H3.out (upd_same _ _ _) (by have := HX.out.2.2.2.1; omega) (by decide)).mono ?_
      rintro e wv0 ⟨v0, L0, yes, hy, hL, he, XV0, hE, h'⟩
      have e1 : voteYes X cfg4 [] 3 2 5 = false := by unfold voteYes; rw [HX.out.ok5 3 (by decide)]; decide
      rw [HX.out.ok5 3 (by decide)] at h'
      rw [e1] at hy
      subst hy
      have hL' : L0 = [] := by rw [hL]; simp
      subst hL'
      clear hL
      simp only [Bool.false_eq_true, if_false, if_true] at he
      subst he
      rw [upd_upd] at h'
      have h9 : Sys wv0 (upd (fun _ => emp) 0 (worldT p d XV0)) (own 3 1 v0 0 (([] : List Int).map (Value.int .i64)) :: tallyT q p cfg4 [((2, 5), [3])] [] :: blk nr (.cells #[.int .i64 0, .int .i64 R, .slice none 0 0] 28 (0, 0)) :: blk nc (.cells #[.int .i64 1, .int .i64 4, .int .i64 0, .int .i64 0, .int .i64 0, .int .i64 0, .int .i64 0, .int .i64 0] 49 (0, 0)) :: base w :: []) := h'
      have HX0 := Lib.hid (HX.out.ext hE)
      obtain ⟨va0, vk0, vc0, hv, hvk⟩ := h9.getOwn.slice
      have hvk' := hvk.out
      subst hvk'
      subst hv
      clear hvk
      obtain ⟨wq0, hwq0⟩ : ∃ y, y = wv0.alloc (.cells #[.int .i64 0, .int .i64 0, (.slice va0 0 vc0)] 28 (0, 0)) := ⟨_, rfl⟩
      have h8 := h9.tail.alloc0 (.cells #[.int .i64 0, .int .i64 0, (.slice va0 0 vc0)] 28 (0, 0))
      rw [← hwq0] at h8
      have HQ0 := Lib.hid hwq0
      have HV0 : Hid (Sys wq0 (upd (fun _ => emp) 0 (worldT p d XV0)) (tallyT q p cfg4 [((2, 5), [3])] [] :: blk nr (.cells #[.int .i64 0, .int .i64 R, .slice none 0 0] 28 (0, 0)) :: blk nc (.cells #[.int .i64 1, .int .i64 4, .int .i64 0, .int .i64 0, .int .i64 0, .int .i64 0, .int .i64 0, .int .i64 0] 49 (0, 0)) :: base w :: [])) := h8
      clear h' h9 h8 hwq0 hE e1 H3
      go_upto_region 15 with fail
      rw [← HQ0.out]
      go_wp2_with fail
      refine (tally_vote cfg4 cfg4_good 1 2 5 HV0.out (upd_same _ _ _) (by have := HX0.out.2.2.2.1; omega) (by decide)).mono ?_
      rintro e wv1 ⟨v1, L1, yes, hy, hL, he, XV1, hE, h'⟩
      have e1 : voteYes XV0 cfg4 [((2, 5), [3])] 1 2 5 = false := by unfold voteYes; rw [HX0.out.ok5 1 (by decide)]; decide
      rw [HX0.out.ok5 1 (by decide)] at h'
      rw [e1] at hy
      subst hy
      have hL' : L1 = [] := by rw [hL]; simp
      subst hL'
      clear hL
      simp only [Bool.false_eq_true, if_false, if_true] at he
      subst he
      rw [upd_upd] at h'
      have h9 : Sys wv1 (upd (fun _ => emp) 0 (worldT p d XV1)) (own 3 1 v1 0 (([] : List Int).map (Value.int .i64)) :: tallyT q p cfg4 [((2, 5), [3, 1])] [] :: blk nr (.cells #[.int .i64 0, .int .i64 R, .slice none 0 0] 28 (0, 0)) :: blk nc (.cells #[.int .i64 1, .int .i64 4, .int .i64 0, .int .i64 0, .int .i64 0, .int .i64 0, .int .i64 0, .int .i64 0] 49 (0, 0)) :: base w :: []) := h'
      have HX1 := Lib.hid (HX0.out.ext hE)
      obtain ⟨va1, vk1, vc1, hv, hvk⟩ := h9.getOwn.slice
      have hvk' := hvk.out
      subst hvk'
      subst hv
      clear hvk
      obtain ⟨wq1, hwq1⟩ : ∃ y, y = wv1.alloc (.cells #[.int .i64 0, .int .i64 0, (.slice va1 0 vc1)] 28 (0, 0)) := ⟨_, rfl⟩
      have h8 := h9.tail.alloc0 (.cells #[.int .i64 0, .int .i64 0, (.slice va1 0 vc1)] 28 (0, 0))
      rw [← hwq1] at h8
      have HQ1 := Lib.hid hwq1
      have HV1 : Hid (Sys wq1 (upd (fun _ => emp) 0 (worldT p d XV1)) (tallyT q p cfg4 [((2, 5), [3, 1])] [] :: blk nr (.cells #[.int .i64 0, .int .i64 R, .slice none 0 0] 28 (0, 0)) :: blk nc (.cells #[.int .i64 1, .int .i64 4, .int .i64 0, .int .i64 0, .int .i64 0, .int .i64 0, .int .i64 0, .int .i64 0] 49 (0, 0)) :: base w :: [])) := h8
      clear h' h9 h8 hwq1 hE e1 HV0
      go_upto_region 16 with fail
      rw [← HQ1.out]
      go_wp2_with fail
      refine (tally_vote cfg4 cfg4_good 1 2 6 HV1.out (upd_same _ _ _) (by have := HX1.out.2.2.2.1; omega) (by decide)).mono ?_
      rintro e wv2 ⟨v2, L2, yes, hy, hL, he, XV2, hE, h'⟩
      have e1 : voteYes XV1 cfg4 [((2, 5), [3, 1])] 1 2 6 = false := by unfold voteYes; rw [HX1.out.ok6 1]; rfl
      rw [HX1.out.ok6 1] at h'
      rw [e1] at hy
      subst hy
      have hL' : L2 = [] := by rw [hL]; simp
      subst hL'
      clear hL
      simp only [Bool.false_eq_true, if_false, if_true] at he
      subst he
      rw [upd_upd] at h'
      have h9 : Sys wv2 (upd (fun _ => emp) 0 (worldT p d XV2)) (own 3 1 v2 0 (([] : List Int).map (Value.int .i64)) :: tallyT q p cfg4 [((2, 5), [3, 1])] [] :: blk nr (.cells #[.int .i64 0, .int .i64 R, .slice none 0 0] 28 (0, 0)) :: blk nc (.cells #[.int .i64 1, .int .i64 4, .int .i64 0, .int .i64 0, .int .i64 0, .int .i64 0, .int .i64 0, .int .i64 0] 49 (0, 0)) :: base w :: []) := h'
      have HX2 := Lib.hid (HX1.out.ext hE)
      obtain ⟨va2, vk2, vc2, hv, hvk⟩ := h9.getOwn.slice
      have hvk' := hvk.out
      subst hvk'
      subst hv
      clear hvk
      obtain ⟨wq2, hwq2⟩ : ∃ y, y = wv2.alloc (.cells #[.int .i64 0, .int .i64 0, (.slice va2 0 vc2)] 28 (0, 0)) := ⟨_, rfl⟩
      have h8 := h9.tail.alloc0 (.cells #[.int .i64 0, .int .i64 0, (.slice va2 0 vc2)] 28 (0, 0))
      rw [← hwq2] at h8
      have HQ2 := Lib.hid hwq2
      have HV2 : Hid (Sys wq2 (upd (fun _ => emp) 0 (worldT p d XV2)) (tallyT q p cfg4 [((2, 5), [3, 1])] [] :: blk nr (.cells #[.int .i64 0, .int .i64 R, .slice none 0 0] 28 (0, 0)) :: blk nc (.cells #[.int .i64 1, .int .i64 4, .int .i64 0, .int .i64 0, .int .i64 0, .int .i64 0, .int .i64 0, .int .i64 0] 49 (0, 0)) :: base w :: [])) := h8
      clear h' h9 h8 hwq2 hE e1 HV1
      go_upto_region 17 with fail
      rw [← HQ2.out]
      go_wp2_with fail
      refine (tally_vote cfg4 cfg4_good 0 2 5 HV2.out (upd_same _ _ _) (by have := HX2.out.2.2.2.1; omega) (by decide)).mono ?_
      rintro e wv3 ⟨v3, L3, yes, hy, hL, he, XV3, hE, h'⟩
      have e1 : voteYes XV2 cfg4 [((2, 5), [3, 1])] 0 2 5 = true := by unfold voteYes; rw [HX2.out.ok5 0 (by decide)]; decide
      rw [HX2.out.ok5 0 (by decide)] at h'
      rw [e1] at hy
      subst hy
      have hL' : L3 = [0, 1, 3] := by rw [hL, if_pos rfl]; exact rising_eq (by decide) (by decide)
      subst hL'
      clear hL
      simp only [Bool.false_eq_true, if_false, if_true] at he
      subst he
      rw [upd_upd] at h'
      have h9 : Sys wv3 (upd (fun _ => emp) 0 (worldT p d XV3)) (own 3 1 v3 3 (([0, 1, 3] : List Int).map (Value.int .i64)) :: tallyT q p cfg4 [((2, 5), [3, 1, 0])] [] :: blk nr (.cells #[.int .i64 0, .int .i64 R, .slice none 0 0] 28 (0, 0)) :: blk nc (.cells #[.int .i64 1, .int .i64 4, .int .i64 0, .int .i64 0, .int .i64 0, .int .i64 0, .int .i64 0, .int .i64 0] 49 (0, 0)) :: base w :: []) := h'
      have HX3 := Lib.hid (HX2.out.ext hE)
      obtain ⟨va3, vk3, vc3, hv, hvk⟩ := h9.getOwn.slice
      have hvk' := hvk.out
      subst hvk'
      subst hv
      clear hvk
      obtain ⟨wq3, hwq3⟩ : ∃ y, y = wv3.alloc (.cells #[.int .i64 2, .int .i64 5, (.slice va3 3 vc3)] 28 (0, 0)) := ⟨_, rfl⟩
      obtain ⟨nq, hnq⟩ : ∃ n, n = wv3.heap.size := ⟨_, rfl⟩
      have HNQ := Lib.hid hnq
      have h8 := (h9.swap.alloc (.cells #[.int .i64 2, .int .i64 5, (.slice va3 3 vc3)] 28 (0, 0)) hnq).swap
      rw [← hwq3] at h8
      have HQ3 := Lib.hid hwq3
      have HV3 : Hid (Sys wq3 (upd (fun _ => emp) 0 (worldT p d XV3)) (tallyT q p cfg4 [((2, 5), [3, 1, 0])] [] :: blk nq (.cells #[.int .i64 2, .int .i64 5, (.slice va3 3 vc3)] 28 (0, 0)) :: own 3 1 (.slice va3 3 vc3) 3 (([0, 1, 3] : List Int).map (Value.int .i64)) :: blk nr (.cells #[.int .i64 0, .int .i64 R, .slice none 0 0] 28 (0, 0)) :: blk nc (.cells #[.int .i64 1, .int .i64 4, .int .i64 0, .int .i64 0, .int .i64 0, .int .i64 0, .int .i64 0, .int .i64 0] 49 (0, 0)) :: base w :: [])) := h8
      clear h' h9 h8 hwq3 hE e1 HV2 hnq
      go_upto_region 18 with fail
      rw [← HQ3.out, ← HNQ.out]
      have hbr := Sys.memBlk (n := nr) (o := .cells #[.int .i64 0, .int .i64 R, .slice none 0 0] 28 (0, 0)) HV3.out (by simp)
      go_wp2_with (refine wpList_load_row rfl 28 _ rfl nr rfl _ _ _ _ hbr Try.underlying28 rfl size3 ?_)
      refine (tally_out cfg4 cfg4_good 0 2 ⟨0, R, []⟩ none 0 0 rfl (by decide) (fun _ => rfl) (fun _ _ _ => .inl rfl) HV3.out (upd_same _ _ _) HX3.out.1 HX3.out.2.1 (by have := HX3.out.2.2.2.1; omega) (by intro x hx; cases hx) (by simp [alook])).mono ?_
      rintro e wo0 ⟨ra0, rh0, rc0, t0, yes, hy, ht, he, XO0, hE, h'⟩
      rw [HX3.out.counts 0 (by decide)] at h'
      have e1 : outYes XV3 cfg4 [] 0 2 ⟨0, R, []⟩ = false := by unfold outYes; rw [HX3.out.counts 0 (by decide)]; rfl
      rw [e1] at hy
      subst hy
      have HX10 := Lib.hid (HX3.out.ext hE)
      rw [upd_upd] at h'
      have ht' : t0 = ⟨0, [], [], 0, 0, []⟩ := by simpa [TcSpec] using ht
      subst ht'
      subst he
      clear ht
      have HO0 : Hid (Sys wo0 (upd (fun _ => emp) 0 (worldT p d XO0)) (tallyT q p cfg4 [((2, 5), [3, 1, 0])] [(2, [(0, ⟨0, R, []⟩)])] :: blk nq (.cells #[.int .i64 2, .int .i64 5, (.slice va3 3 vc3)] 28 (0, 0)) :: own 3 1 (.slice va3 3 vc3) 3 (([0, 1, 3] : List Int).map (Value.int .i64)) :: blk nr (.cells #[.int .i64 0, .int .i64 R, .slice none 0 0] 28 (0, 0)) :: blk nc (.cells #[.int .i64 1, .int .i64 4, .int .i64 0, .int .i64 0, .int .i64 0, .int .i64 0, .int .i64 0, .int .i64 0] 49 (0, 0)) :: base w :: [])) := h'.tail.tail.tail
      clear h' hE e1 hbr HV3
      go_upto_region 19 with fail
      have hbr := Sys.memBlk (n := nr) (o := .cells #[.int .i64 0, .int .i64 R, .slice none 0 0] 28 (0, 0)) HO0.out (by simp)
      go_wp2_with (refine wpList_load_row rfl 28 _ rfl nr rfl _ _ _ _ hbr Try.underlying28 rfl size3 ?_)
      refine (tally_out cfg4 cfg4_good 1 2 ⟨0, R, []⟩ none 0 0 rfl (by decide) (fun _ => rfl) (fun _ _ _ => .inl rfl) HO0.out (upd_same _ _ _) HX10.out.1 HX10.out.2.1 (by have := HX10.out.2.2.2.1; omega) (by intro x hx; simp [alook] at hx; subst hx; simp) (by simp [alook])).mono ?_
      rintro e wo1 ⟨ra1, rh1, rc1, t1, yes, hy, ht, he, XO1, hE, h'⟩
      rw [HX10.out.counts 1 (by decide)] at h'
      have e1 : outYes XO0 cfg4 [(2, [(0, ⟨0, R, []⟩)])] 1 2 ⟨0, R, []⟩ = false := by unfold outYes; rw [HX10.out.counts 1 (by decide)]; rfl
      rw [e1] at hy
      subst hy
      have HX11 := Lib.hid (HX10.out.ext hE)
      rw [upd_upd] at h'
      have ht' : t1 = ⟨0, [], [], 0, 0, []⟩ := by simpa [TcSpec] using ht
      subst ht'
      subst he
      clear ht
      have HO1 : Hid (Sys wo1 (upd (fun _ => emp) 0 (worldT p d XO1)) (tallyT q p cfg4 [((2, 5), [3, 1, 0])] [(2, [(0, ⟨0, R, []⟩), (1, ⟨0, R, []⟩)])] :: blk nq (.cells #[.int .i64 2, .int .i64 5, (.slice va3 3 vc3)] 28 (0, 0)) :: own 3 1 (.slice va3 3 vc3) 3 (([0, 1, 3] : List Int).map (Value.int .i64)) :: blk nr (.cells #[.int .i64 0, .int .i64 R, .slice none 0 0] 28 (0, 0)) :: blk nc (.cells #[.int .i64 1, .int .i64 4, .int .i64 0, .int .i64 0, .int .i64 0, .int .i64 0, .int .i64 0, .int .i64 0] 49 (0, 0)) :: base w :: [])) := h'.tail.tail.tail
      clear h' hE e1 hbr HO0
      go_upto_region 20 with fail
      have hbr := Sys.memBlk (n := nr) (o := .cells #[.int .i64 0, .int .i64 R, .slice none 0 0] 28 (0, 0)) HO1.out (by simp)
      go_wp2_with (refine wpList_load_row rfl 28 _ rfl nr rfl _ _ _ _ hbr Try.underlying28 rfl size3 ?_)
      refine (tally_out cfg4 cfg4_good 2 2 ⟨0, R, []⟩ none 0 0 rfl (by decide) (fun _ => rfl) (fun _ _ _ => .inl rfl) HO1.out (upd_same _ _ _) HX11.out.1 HX11.out.2.1 (by have := HX11.out.2.2.2.1; omega) (by intro x hx; simp [alook] at hx; rcases hx with rfl | rfl <;> simp) (by simp [alook])).mono ?_
      rintro e wo2 ⟨ra2, rh2, rc2, t2, yes, hy, ht, he, XO2, hE, h'⟩
      rw [HX11.out.counts 2 (by decide)] at h'
      have e1 : outYes XO1 cfg4 [(2, [(0, ⟨0, R, []⟩), (1, ⟨0, R, []⟩)])] 2 2 ⟨0, R, []⟩ = true := by unfold outYes; rw [HX11.out.counts 2 (by decide)]; rfl
      rw [e1] at hy
      subst hy
      have HX12 := Lib.hid (HX11.out.ext hE)
      rw [upd_upd] at h'
      unfold TcSpec at ht
      rw [if_pos rfl] at ht
      obtain ⟨g1, g2, g3, g4, x5, g6, g7⟩ := ht
      have e2 : rising ((outL ((alook ([(2, [(0, ⟨0, R, []⟩), (1, ⟨0, R, []⟩)])] : List (Int × List (Int × QcX))) 2).getD []) 2 ⟨0, R, []⟩).map (·.1)) = [0, 1, 2] := rising_eq (by show List.Perm [0, 1, 2] _; exact List.Perm.refl _) (by decide)
      rw [e2] at g2
      rw [g2] at g3 g6
      have e3 : ([0, 1, 2] : List Int).map (viewOf (outL ((alook ([(2, [(0, ⟨0, R, []⟩), (1, ⟨0, R, []⟩)])] : List (Int × List (Int × QcX))) 2).getD []) 2 ⟨0, R, []⟩)) = [0, 0, 0] := rfl
      rw [e3] at g3
      rw [g3] at g4
      have e4 : alook (outL ((alook ([(2, [(0, ⟨0, R, []⟩), (1, ⟨0, R, []⟩)])] : List (Int × List (Int × QcX))) 2).getD []) 2 ⟨0, R, []⟩) x5 = some (⟨0, R, []⟩ : QcX) := by
        simp only [List.mem_cons, List.not_mem_nil, or_false] at g6
        rcases g6 with rfl | rfl | rfl <;> rfl
      rw [e4] at g7
      obtain ⟨y1, y2, y3⟩ := (QcX.mk.injEq _ _ _ _ _ _ ▸ Option.some.inj g7)
      obtain ⟨tv, tb, th, thv, thb, thy⟩ := t2
      dsimp only at g1 g2 g3 g4 y1 y2 y3
      subst g1 g2 g3
      subst y1 y2 y3
      subst he
      clear g4 g6 g7 e2 e3 e4
      have h9 : Sys wo2 (upd (fun _ => emp) 0 (worldT p d XO2)) (own 3 1 rc2 0 (([] : List Int).map (Value.int .i64)) :: own 3 1 ra2 3 (([0, 1, 2] : List Int).map (Value.int .i64)) :: own 3 1 rh2 3 (([0, 0, 0] : List Int).map (Value.int .i64)) :: tallyT q p cfg4 [((2, 5), [3, 1, 0])] [(2, [(0, ⟨0, R, []⟩), (1, ⟨0, R, []⟩), (2, ⟨0, R, []⟩)])] :: blk nq (.cells #[.int .i64 2, .int .i64 5, (.slice va3 3 vc3)] 28 (0, 0)) :: own 3 1 (.slice va3 3 vc3) 3 (([0, 1, 3] : List Int).map (Value.int .i64)) :: blk nr (.cells #[.int .i64 0, .int .i64 R, .slice none 0 0] 28 (0, 0)) :: blk nc (.cells #[.int .i64 1, .int .i64 4, .int .i64 0, .int .i64 0, .int .i64 0, .int .i64 0, .int .i64 0, .int .i64 0] 49 (0, 0)) :: base w :: []) := h'
      obtain ⟨xa, xk, xc, hv, hvk⟩ := h9.getOwn.slice
      have hvk' := hvk.out
      subst hvk'
      subst hv
      obtain ⟨ya, yk, yc, hv, hvk2⟩ := h9.tail.getOwn.slice
      have hvk' := hvk2.out
      subst hvk'
      subst hv
      obtain ⟨za, zk, zc, hv, hvk3⟩ := h9.tail.tail.getOwn.slice
      have hvk' := hvk3.out
      subst hvk'
      subst hv
      obtain ⟨nt, hnt⟩ : ∃ n, n = wo2.heap.size := ⟨_, rfl⟩
      obtain ⟨wt, hwt⟩ : ∃ y, y = wo2.alloc (.cells #[.int .i64 2, .slice ya 3 yc, .slice za 3 zc, .int .i64 0, .int .i64 R, .slice xa 0 xc] 30 (0, 0)) := ⟨_, rfl⟩
      have h8 := h9.alloc (.cells #[.int .i64 2, .slice ya 3 yc, .slice za 3 zc, .int .i64 0, .int .i64 R, .slice xa 0 xc] 30 (0, 0)) hnt
      rw [← hwt] at h8
      have HNT := Lib.hid hnt
      have HWT := Lib.hid hwt
      have HO2 := Lib.hid h8
      clear h9 h8 hnt hwt
      clear h' hE e1 hbr HO1
      go_upto_region 21 with fail
      rw [← HWT.out, ← HNT.out]
      have hbq := Sys.memBlk (n := nq) (o := .cells #[.int .i64 2, .int .i64 5, (.slice va3 3 vc3)] 28 (0, 0)) HO2.out (by simp)
      have cq0 : wt.cell? ⟨nq, 0, none⟩ = some (.int .i64 2) := cell_of_blk hbq 0
      have cq1 : wt.cell? ⟨nq, 1, none⟩ = some (.int .i64 5) := cell_of_blk hbq 1
      have cq2 : wt.cell? ⟨nq, 2, none⟩ = some (.slice va3 3 vc3) := cell_of_blk hbq 2
      clear hbq
      go_wp2_with fail
      have hA := HO2.out.alloc0 (.cells #[.int .i64 0, .int .i64 1, .int .i64 3] 3 (0, 0))
      refine (sameints_any va3 (some ⟨wt.heap.size, 0, none⟩) [0, 1, 3] [0, 1, 3] vc3 3 _ (own_ints_at (Sys.memOwn (E := 3) (size := 1) (v := .slice va3 3 vc3) (n := 3) (xs := ([0, 1, 3] : List Int).map (Value.int .i64)) hA (by simp)) rfl) (ints_const (t := [0, 1, 3]) ((HO2.out.alloc (.cells #[.int .i64 0, .int .i64 1, .int .i64 3] 3 (0, 0)) rfl).getBlk)) (by decide) (by decide)).mono ?_
      rintro e wu ⟨rfl, hcu⟩
      have hU := hA.chg0 hcu
      have HU := Lib.hid hU
      rw [show decide (([0, 1, 3] : List Int) = [0, 1, 3]) = true from rfl]
      have hbc := Sys.memBlk (n := nc) (o := .cells #[.int .i64 1, .int .i64 4, .int .i64 0, .int .i64 0, .int .i64 0, .int .i64 0, .int .i64 0, .int .i64 0] 49 (0, 0)) hU (by simp)
      have c0 : wu.cell? ⟨nc, 0, none⟩ = some (.int .i64 1) := cell_of_blk hbc 0
      have c1 : wu.cell? ⟨nc, 1, none⟩ = some (.int .i64 4) := cell_of_blk hbc 1
      have c2 : wu.cell? ⟨nc, 2, none⟩ = some (.int .i64 0) := cell_of_blk hbc 2
      have c3 : wu.cell? ⟨nc, 3, none⟩ = some (.int .i64 0) := cell_of_blk hbc 3
      have c4 : wu.cell? ⟨nc, 4, none⟩ = some (.int .i64 0) := cell_of_blk hbc 4
      have c5 : wu.cell? ⟨nc, 5, none⟩ = some (.int .i64 0) := cell_of_blk hbc 5
      have c6 : wu.cell? ⟨nc, 6, none⟩ = some (.int .i64 0) := cell_of_blk hbc 6
      have c7 : wu.cell? ⟨nc, 7, none⟩ = some (.int .i64 0) := cell_of_blk hbc 7
      have hbt := Sys.memBlk (n := nt) (o := .cells #[.int .i64 2, .slice ya 3 yc, .slice za 3 zc, .int .i64 0, .int .i64 R, .slice xa 0 xc] 30 (0, 0)) hU (by simp)
      have t0 : wu.cell? ⟨nt, 0, none⟩ = some (.int .i64 2) := cell_of_blk hbt 0
      have t1 : wu.cell? ⟨nt, 1, none⟩ = some (.slice ya 3 yc) := cell_of_blk hbt 1
      have t2 : wu.cell? ⟨nt, 2, none⟩ = some (.slice za 3 zc) := cell_of_blk hbt 2
      have t3 : wu.cell? ⟨nt, 3, none⟩ = some (.int .i64 0) := cell_of_blk hbt 3
      have t4 : wu.cell? ⟨nt, 4, none⟩ = some (.int .i64 R) := cell_of_blk hbt 4
      have t5 : wu.cell? ⟨nt, 5, none⟩ = some (.slice xa 0 xc) := cell_of_blk hbt 5
      clear hbc hbt hcu hA hU
      go_wp2_with fail
      have HT := Lib.hid (cert_tcok cfg4 cfg4_good ⟨2, [0, 1, 2], [0, 0, 0], 0, R, []⟩ ya za xa yc zc xc 3 0 rfl rfl rfl (by decide) (by decide) (fun x m' hs => own_ints_at (Sys.memOwn (E := 3) (size := 1) (v := .slice ya 3 yc) (n := 3) (xs := ([0, 1, 2] : List Int).map (Value.int .i64)) hs (by simp)) rfl) (fun x m' hs => own_ints_at (Sys.memOwn (E := 3) (size := 1) (v := .slice za 3 zc) (n := 3) (xs := ([0, 0, 0] : List Int).map (Value.int .i64)) hs (by simp)) rfl) (fun _ _ _ => .inl rfl) HU.out (upd_same _ _ _) HX12.out.1 HX12.out.2.1 (by have := HX12.out.2.2.2.1; omega))
      rw [HX12.out.tc] at HT
      refine HT.out.mono ?_
      rintro e wy ⟨rfl, XY, hE, hY⟩
      rw [upd_upd] at hY
      have HX13 := Lib.hid (HX12.out.ext hE)
      have HY := Lib.hid hY
      clear t0 t1 t2 t3 t4 t5 c1 c2 c3 c4 c5 c6 c7 c0 cq0 cq1 cq2 HT hE HU HO2
      have hbc := Sys.memBlk (n := nc) (o := .cells #[.int .i64 1, .int .i64 4, .int .i64 0, .int .i64 0, .int .i64 0, .int .i64 0, .int .i64 0, .int .i64 0] 49 (0, 0)) hY (by simp)
      have c0 : wy.cell? ⟨nc, 0, none⟩ = some (.int .i64 1) := cell_of_blk hbc 0
      have c1 : wy.cell? ⟨nc, 1, none⟩ = some (.int .i64 4) := cell_of_blk hbc 1
      have c2 : wy.cell? ⟨nc, 2, none⟩ = some (.int .i64 0) := cell_of_blk hbc 2
      have c3 : wy.cell? ⟨nc, 3, none⟩ = some (.int .i64 0) := cell_of_blk hbc 3
      have c4 : wy.cell? ⟨nc, 4, none⟩ = some (.int .i64 0) := cell_of_blk hbc 4
      have c5 : wy.cell? ⟨nc, 5, none⟩ = some (.int .i64 0) := cell_of_blk hbc 5
      have c6 : wy.cell? ⟨nc, 6, none⟩ = some (.int .i64 0) := cell_of_blk hbc 6
      have c7 : wy.cell? ⟨nc, 7, none⟩ = some (.int .i64 0) := cell_of_blk hbc 7
      have hbq := Sys.memBlk (n := nq) (o := .cells #[.int .i64 2, .int .i64 5, (.slice va3 3 vc3)] 28 (0, 0)) hY (by simp)
      have cq0 : wy.cell? ⟨nq, 0, none⟩ = some (.int .i64 2) := cell_of_blk hbq 0
      have cq1 : wy.cell? ⟨nq, 1, none⟩ = some (.int .i64 5) := cell_of_blk hbq 1
      have cq2 : wy.cell? ⟨nq, 2, none⟩ = some (.slice va3 3 vc3) := cell_of_blk hbq 2
      clear hbc hbq hY
      go_wp2_with fail
      have HQ := Lib.hid (cert_qcok cfg4 cfg4_good 2 5 [0, 1, 3] va3 vc3 (fun x m' hs => own_ints_at (Sys.memOwn (E := 3) (size := 1) (v := .slice va3 3 vc3) (n := 3) (xs := ([0, 1, 3] : List Int).map (Value.int .i64)) hs (by simp)) rfl) (by decide) HY.out (upd_same _ _ _) (by have := HX13.out.2.2.2.1; omega))
      rw [HX13.out.qc] at HQ
      refine HQ.out.mono ?_
      rintro e wz ⟨rfl, hz⟩
      have HZ := Lib.hid hz
      clear hz
      go_wp2_with fail
      go_ret
      exact ⟨rfl, Sys.memBase (W := w) HZ.out (by simp)⟩
end Go.Proofs.Ytcfhkpjheemkgaa
