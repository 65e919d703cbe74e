/-
  The play of a leader's blocks: tolseylaw22.awake.
-/
import Derived.Test.YtcfhkpjheemkgaaGreatAwakeLaw
namespace Go.Proofs.YtcfhkpjheemkgaaGreat
set_option linter.unusedSectionVars false
set_option linter.unnecessarySimpa false
set_option linter.unusedSimpArgs false
set_option linter.unusedVariables false
open Go.RowKit Go.MapKept

set_option maxRecDepth 100000 in
set_option maxHeartbeats 8000000 in
theorem prop_awake (w : World) : Calls Tryz.prog 17 #[] w fun e w' => e = .returned (.bool true) ∧ Below w.heap.size w w' := by
  obtain ⟨l0, l1, l2, l3, l4, l5, l6, l7, l8⟩ := aw_len
  have L0 : Hid (A0.T.length ≤ 100) := l0
  have L1 : Hid (A1.T.length ≤ 100) := l1
  have L2 : Hid (A2.T.length ≤ 100) := l2
  have L3 : Hid (A3.T.length ≤ 100) := l3
  have L4 : Hid (A4.T.length ≤ 100) := l4
  have L5 : Hid (A5.T.length ≤ 100) := l5
  have L6 : Hid (A6.T.length ≤ 100) := l6
  have L7 : Hid (A7.T.length ≤ 100) := l7
  have L8 : Hid (A8.T.length ≤ 100) := l8
  clear l0 l1 l2 l3 l4 l5 l6 l7 l8
  go_enter Tryz.func17, Tryz.ntmps17
  go_wp2_with fail
  refine (world_new 1 (Sys.start w)).mono ?_
  rintro e w1 ⟨p, d, rfl, h⟩
  have h1 := h.putN 0 rfl
  rw [five_] at h1
  change Sys w1 (five (worldT p d A0) emp emp emp emp) [base w] at h1
  have H1 := Lib.hid h1
  clear h h1
  go_wp2_with fail
  refine (ledg_new 2 (by decide) H1.out).mono ?_
  rintro e w2 ⟨pl, rfl, h⟩
  have h1 := h.putN 4 rfl
  rw [five4] at h1
  have H2 := Lib.hid h1
  clear h h1 H1
  go_wp2_with fail
  refine (tree_new H2.out rfl (by have := L0.out; omega)).mono ?_
  rintro e w3 ⟨pt, rfl, h⟩
  rw [five0, aw_root] at h
  have h1 := h.putN 1 rfl
  rw [five1] at h1
  change Sys w3 (five (worldT p d A1) (treeT pt p 1 [(1, zeroBlk)]) emp emp (ledgT pl 2)) [base w] at h1
  have H3 := Lib.hid h1
  clear h h1 H2
  go_wp2_with fail
  refine (clog_new H3.out rfl).mono ?_
  rintro e w4 ⟨pg, rfl, h⟩
  have h1 := h.putN 2 rfl
  rw [five2] at h1
  have H4 := Lib.hid h1
  clear h h1 H3
  go_wp2_with fail
  refine (pool_new 9 H4.out).mono ?_
  rintro e w5 ⟨pp, rfl, h⟩
  have h1 := h.putN 3 rfl
  rw [five3] at h1
  obtain ⟨nc, x5, EN5, EX5, ES5, H5⟩ := Sys.box h1 (.cells #[.int .i64 1, .int .i64 4, .int .i64 0, .int .i64 0, .int .i64 0, .int .i64 2, .int .i64 0, .int .i64 0] 23 (0, 0))
  clear h h1 H4
  go_upto_region 9 with fail
  rw [EX5.out, EN5.out]
  go_wp2_with fail
  refine (world_make 0 0 5 none [] 0 (by decide) (by decide) H5.out rfl (by decide) (by have := L1.out; omega) (.inl rfl) (fun _ => rfl) (by decide)).mono ?_
  rintro e w6 ⟨he, h⟩
  rw [aw_c1] at he
  obtain rfl : e = .returned (.agg #[.int .i64 0, .int .u64 0, .int .u64 5, .int .i64 1]) := he
  rw [aw_c1, five0] at h
  change Sys w6 (five (worldT p d A2) (treeT pt p 1 [(1, zeroBlk)]) (logT pg p pt 1 [] []) (poolT pp p (imin (imax 9 0) 1000) []) (ledgT pl 2)) (blk nc (.cells #[.int .i64 1, .int .i64 4, .int .i64 0, .int .i64 0, .int .i64 0, .int .i64 2, .int .i64 0, .int .i64 0] 23 (0, 0)) :: [base w]) at h
  have H6 := Lib.hid h
  clear h H5
  go_wp2_with fail
  refine (world_make 1 0 5 none [] 0 (by decide) (by decide) H6.out rfl (by decide) (by have := L2.out; omega) (.inl rfl) (fun _ => rfl) (by decide)).mono ?_
  rintro e w7 ⟨he, h⟩
  rw [aw_c2] at he
  obtain rfl : e = .returned (.agg #[.int .i64 1, .int .u64 0, .int .u64 5, .int .i64 2]) := he
  rw [aw_c2, five0] at h
  change Sys w7 (five (worldT p d A3) (treeT pt p 1 [(1, zeroBlk)]) (logT pg p pt 1 [] []) (poolT pp p (imin (imax 9 0) 1000) []) (ledgT pl 2)) (blk nc (.cells #[.int .i64 1, .int .i64 4, .int .i64 0, .int .i64 0, .int .i64 0, .int .i64 2, .int .i64 0, .int .i64 0] 23 (0, 0)) :: [base w]) at h
  obtain ⟨nx, x7, EN7, EX7, ES7, H7⟩ := Sys.box h (.cells #[.int .i64 0, .int .u64 0, .int .u64 5, .int .i64 1] 55 (0, 0))
  obtain ⟨ny, x8, EN8, EX8, ES8, H8⟩ := Sys.box' H7 ES7 (.cells #[.int .i64 1, .int .u64 0, .int .u64 5, .int .i64 2] 55 (0, 0))
  clear h H6
  go_upto_region 10 with fail
  rw [EX7.out, EX8.out, EN8.out, EN7.out]
  have hbx := H8.out.nth 1 rfl
  go_wp2_with (refine wpList_load_row rfl 55 _ rfl nx rfl _ _ _ _ hbx Tryz.underlying55 rfl size4 ?_)
  refine (pool_add (e := eX) (n := 2) (L := []) wf_x (by decide) (by decide) (by decide) (by decide) (by decide) (by decide) H8.out rfl rfl rfl (by have := L3.out; omega)).mono ?_
  rintro e w9 ⟨he, h⟩
  rw [aw_add1] at he
  subst he
  rw [aw_add1, if_pos rfl, five0, five3] at h
  change Sys w9 (five (worldT p d A4) (treeT pt p 1 [(1, zeroBlk)]) (logT pg p pt 1 [] []) (poolT pp p (imin (imax 9 0) 1000) [eX]) (ledgT pl 2)) (blk ny (.cells #[.int .i64 1, .int .u64 0, .int .u64 5, .int .i64 2] 55 (0, 0)) :: blk nx (.cells #[.int .i64 0, .int .u64 0, .int .u64 5, .int .i64 1] 55 (0, 0)) :: blk nc (.cells #[.int .i64 1, .int .i64 4, .int .i64 0, .int .i64 0, .int .i64 0, .int .i64 2, .int .i64 0, .int .i64 0] 23 (0, 0)) :: [base w]) at h
  have H9 := Lib.hid h
  clear h H8 H7 hbx
  have hby := H9.out.nth 0 rfl
  go_upto_region 11 with fail
  go_wp2_with (refine wpList_load_row rfl 55 _ rfl ny rfl _ _ _ _ hby Tryz.underlying55 rfl size4 ?_)
  refine (pool_add (e := eY) (n := 2) (L := [eX]) wf_y (by decide) (by decide) (by decide) (by decide) (by decide) (by decide) H9.out rfl rfl rfl (by have := L4.out; omega)).mono ?_
  rintro e w10 ⟨he, h⟩
  rw [aw_add2] at he
  subst he
  rw [aw_add2, if_pos rfl, five0, five3] at h
  change Sys w10 (five (worldT p d A5) (treeT pt p 1 [(1, zeroBlk)]) (logT pg p pt 1 [] []) (poolT pp p (imin (imax 9 0) 1000) [eX, eY]) (ledgT pl 2)) (blk ny (.cells #[.int .i64 1, .int .u64 0, .int .u64 5, .int .i64 2] 55 (0, 0)) :: blk nx (.cells #[.int .i64 0, .int .u64 0, .int .u64 5, .int .i64 1] 55 (0, 0)) :: blk nc (.cells #[.int .i64 1, .int .i64 4, .int .i64 0, .int .i64 0, .int .i64 0, .int .i64 2, .int .i64 0, .int .i64 0] 23 (0, 0)) :: [base w]) at h
  have H10 := Lib.hid h
  clear h H9 hby
  go_wp2_with fail
  refine (cert_root H10.out rfl (by have := L5.out; omega)).mono ?_
  rintro e w11 ⟨he, h⟩
  rw [aw_root6] at he
  subst he
  rw [five0] at h
  change Sys w11 (five (worldT p d A6) (treeT pt p 1 [(1, zeroBlk)]) (logT pg p pt 1 [] []) (poolT pp p (imin (imax 9 0) 1000) [eX, eY]) (ledgT pl 2)) (blk ny (.cells #[.int .i64 1, .int .u64 0, .int .u64 5, .int .i64 2] 55 (0, 0)) :: blk nx (.cells #[.int .i64 0, .int .u64 0, .int .u64 5, .int .i64 1] 55 (0, 0)) :: blk nc (.cells #[.int .i64 1, .int .i64 4, .int .i64 0, .int .i64 0, .int .i64 0, .int .i64 2, .int .i64 0, .int .i64 0] 23 (0, 0)) :: [base w]) at h
  obtain ⟨nr, x11, EN11, EX11, ES11, H11⟩ := Sys.box h (.cells #[.int .i64 0, .int .i64 1, .slice none 0 0] 34 (0, 0))
  clear h H10
  obtain ⟨ne, x12, EN12, EX12, ES12, H12⟩ := H11.out.box (.cells #[.int .i64 0, .int .u64 0, .int .u64 5, .int .i64 1] 55 (0, 0))
  go_upto_region 13 with fail
  rw [EX11.out, EN11.out]
  have hbr := H11.out.nth 0 rfl
  have hbx := H11.out.nth 2 rfl
  go_wp2_with (first | (refine wpList_load_row rfl 34 _ rfl nr rfl _ _ _ _ hbr Tryz.underlying34 rfl size3 ?_) | (refine wpList_load_row rfl 55 _ rfl nx rfl _ _ _ _ hbx Tryz.underlying55 rfl size4 ?_))
  rw [EX12.out, EN12.out]
  refine (tree_add bA none 0 (some ⟨ne, 0, none⟩) 1 (fun y m' hs => ⟨_, _, rfl, SliceIn.nil _ _, EnvsIn.one (e := eX) hs.getBlk⟩) aw_bA H12.out rfl rfl (by have := L6.out; omega)).mono ?_
  intro e w13 h
  unfold AddTo at h
  rw [if_neg (by rw [aw_t1]; simp), if_neg (by rw [aw_t2]; simp), if_neg (by rw [aw_t3]; simp), aw_blkD, five0, five1] at h
  obtain ⟨rfl, h⟩ := h
  replace h := h.tail
  change Sys w13 (five (worldT p d A7) (treeT pt p 1 TA) (logT pg p pt 1 [] []) (poolT pp p (imin (imax 9 0) 1000) [eX, eY]) (ledgT pl 2)) (blk nr (.cells #[.int .i64 0, .int .i64 1, .slice none 0 0] 34 (0, 0)) :: (blk ny (.cells #[.int .i64 1, .int .u64 0, .int .u64 5, .int .i64 2] 55 (0, 0)) :: blk nx (.cells #[.int .i64 0, .int .u64 0, .int .u64 5, .int .i64 1] 55 (0, 0)) :: blk nc (.cells #[.int .i64 1, .int .i64 4, .int .i64 0, .int .i64 0, .int .i64 0, .int .i64 2, .int .i64 0, .int .i64 0] 23 (0, 0)) :: [base w])) at h
  have H13 := Lib.hid h
  clear h H11 H12 hbr hbx
  have hbc := H13.out.nth 3 rfl
  go_upto_region 14 with fail
  go_wp2_with (refine wpList_load_row rfl 23 _ rfl nc rfl _ _ _ _ hbc Tryz.underlying23 rfl size8 ?_)
  refine (prop_make_yes (c := cA) (who := 2) (view := 6) (hv := 1) (hb := 4) (ha := none) (hc := 0) (HY := []) cA_good (by decide) (by decide) aw_make (fun y m' hs => SliceIn.nil _ _) aw_inv aw_tree (by rw [aw_skip]; decide) (by rw [aw_skip, aw_ds7, aw_one]; decide) (fun e he => (aw_pool e he).2) (fun e he => (aw_pool e he).1) (by decide) (by decide) (by have := L7.out; omega) rfl rfl rfl rfl H13.out).mono ?_
  rintro e w14 ⟨ua, uc, va, vc, he, h⟩
  rw [show cA.bt = 2 from rfl, aw_pack] at he h
  replace he : e = .returned (.tuple #[.agg (#[.int .i64 6, .int .i64 2, .int .i64 1, .int .i64 4, .slice ua 0 uc, .slice va 1 vc]), .bool true]) := he
  subst he
  rw [five0] at h
  change Sys w14 (five (worldT p d A8) (treeT pt p 1 TA) (logT pg p pt 1 [] []) (poolT pp p (imin (imax 9 0) 1000) [eX, eY]) (ledgT pl 2)) (blkT (bval bM ua uc va vc) bM :: blk nr (.cells #[.int .i64 0, .int .i64 1, .slice none 0 0] 34 (0, 0)) :: (blk ny (.cells #[.int .i64 1, .int .u64 0, .int .u64 5, .int .i64 2] 55 (0, 0)) :: blk nx (.cells #[.int .i64 0, .int .u64 0, .int .u64 5, .int .i64 1] 55 (0, 0)) :: blk nc (.cells #[.int .i64 1, .int .i64 4, .int .i64 0, .int .i64 0, .int .i64 0, .int .i64 2, .int .i64 0, .int .i64 0] 23 (0, 0)) :: [base w])) at h
  have hen : EnvsAt w14 va [eY] := (show BlkAt w14 bM ua uc va vc from h.memBlkV (.head _)).envs
  obtain ⟨g, off, rfl⟩ := hen.some_ (i := 0) (by decide)
  clear hen hbc H13
  obtain ⟨nb, x14, EN14, EX14, ES14, H14⟩ := Sys.box h (.cells #[.int .i64 6, .int .i64 2, .int .i64 1, .int .i64 4, .slice ua 0 uc, .slice (some ⟨g, off, none⟩) 1 vc] 41 (0, 0))
  clear h
  go_upto_region 15 with fail
  rw [EX14.out, EN14.out]
  have hbc := H14.out.nth 5 rfl
  go_wp2_with (refine wpList_load_row rfl 23 _ rfl nc rfl _ _ _ _ hbc Tryz.underlying23 rfl size8 ?_)
  refine (prop_make_no (c := cA) (who := 1) (view := 6) (hv := 1) (hb := 4) (ha := none) (hc := 0) (HY := []) cA_good (by decide) aw_make2 rfl H14.out).mono ?_
  rintro e w15 ⟨rfl, h⟩
  obtain ⟨nz, x15, EN15, EX15, ES15, H15⟩ := Sys.box h (.cells #[.int .i64 0, .int .i64 0, .int .i64 0, .int .i64 0, .slice none 0 0, .slice none 0 0] 41 (0, 0))
  clear h H14 hbc
  go_upto_region 16 with fail
  rw [EX15.out, EN15.out]
  have ha0 : EnvsAt x15 (some ⟨g, off, none⟩) [eY] := (show BlkAt x15 bM ua uc (some ⟨g, off, none⟩) vc from H15.out.memBlkV (List.mem_of_getElem? (i := 2) rfl)).envs
  refine wp_region_seq (fun x : World => x.heap[nb]? = some (.cells #[.int .i64 6, .int .i64 2, .int .i64 1, .int .i64 4, .slice ua 0 uc, .slice (some ⟨g, off, none⟩) 1 vc] 41 (0, 0)) ∧ x.heap[ny]? = some (.cells #[.int .i64 1, .int .u64 0, .int .u64 5, .int .i64 2] 55 (0, 0)) ∧ x.heap[nx]? = some (.cells #[.int .i64 0, .int .u64 0, .int .u64 5, .int .i64 1] 55 (0, 0)) ∧ EnvsAt x (some ⟨g, off, none⟩) [eY]) anyW [] [(0, 0, some 88), (1, 0, some 89), (2, 0, some 90), (3, 0, some 91), (4, 0, some 92), (5, 0, some 93), (6, 0, some 94), (7, 1, some 95), (8, 0, some 96), (9, 0, some 97), (10, 0, some 98), (11, 0, some 99), (12, 1, some 100), (13, 0, some 101), (14, 0, some 102), (15, 0, some 103), (16, 0, some 104), (17, 0, some 105), (18, 1, some 106), (19, 0, some 107), (20, 0, some 108), (21, 0, some 109), (22, 0, some 110), (23, 0, some 111), (24, 1, some 112), (25, 0, some 113), (26, 0, some 114), (27, 0, some 115), (28, 0, some 116), (29, 0, some 117), (30, 1, some 118), (31, 0, some 119), (32, 1, some 120), (33, 1, some 121), (34, 0, some 122), (35, 0, some 123), (36, 0, some 124), (37, 0, some 125), (38, 0, some 126), (39, 0, some 127), (40, 0, some 128), (41, 0, some 129), (42, 0, some 130), (43, 0, some 131), (44, 0, some 132), (46, 0, some 134), (47, 1, some 135), (45, 2, some 133), (48, 2, some 136), (49, 2, some 137), (50, 2, some 138), (51, 0, some 139), (52, 0, some 0)] (by kernel_rfl) (by kernel_rfl) (fun _ _ _ d _ h => by cases d <;> exact h) ⟨H15.out.drew.nth 1 rfl, H15.out.drew.nth 4 rfl, H15.out.drew.nth 5 rfl, (show BlkAt _ bM ua uc (some ⟨g, off, none⟩) vc from H15.out.drew.memBlkV (List.mem_of_getElem? (i := 2) rfl)).envs⟩ anyW.i ?_
  repeat (first | (refine seqW (v := ?_) rfl rfl (by kernel_rfl) ?_ ?_; rotate_left; (focus ((intro x; go_simp); try (with_reducible rfl))); try simp only [Act.put, List.setIfInBounds_toArray, List.set_cons_zero, List.set_cons_succ]) | (refine seqS (v := ?_) rfl rfl (by kernel_rfl) ?_ ?_; rotate_left; (focus (intro x hS; first | (obtain ⟨hS1, hS2, hS3, hS4⟩ := hS; obtain ⟨b0, b1, b2, b3, b4, b5⟩ := cells6 hS1; obtain ⟨y0, y1, y2, y3⟩ := cells4 hS2; obtain ⟨x0, x1, x2, x3⟩ := cells4 hS3; have g0 := hS4.get (i := 0) (by decide) 0 _ rfl; have g1 := hS4.get (i := 0) (by decide) 1 _ rfl; have g2 := hS4.get (i := 0) (by decide) 2 _ rfl; have g3 := hS4.get (i := 0) (by decide) 3 _ rfl; simp [eY] at g0 g1 g2 g3; go_simp; try (with_reducible rfl)))); try simp only [Act.put, List.setIfInBounds_toArray, List.set_cons_zero, List.set_cons_succ]) | (refine seqX rfl rfl (by kernel_rfl) ?_; try simp only [Act.put, List.setIfInBounds_toArray, List.set_cons_zero, List.set_cons_succ]))
  refine seqL rfl rfl (fun K hK => ?_)
  go_simp
  go_at_call 29
  refine (prop_skip 4 aw_inv aw_tree8 (by rw [aw_skip]; decide) (by have := L8.out; omega) rfl rfl rfl H15.out.drew).mono ?_
  rintro e w16 ⟨vs, rfl, h⟩
  rw [aw_skip, aw_ds8, aw_one] at h
  obtain ⟨sa, sk, sc, rfl, hsk⟩ := h.getOwn.slice
  obtain rfl := hsk.out
  have H16 := Lib.hid h
  clear h hsk
  refine hK.out _ _ anyW.i ?_ (fun _ hSt => ?_)
  · exact ⟨H16.out.nth 2 rfl, H16.out.nth 5 rfl, H16.out.nth 6 rfl, (show BlkAt _ bM ua uc (some ⟨g, off, none⟩) vc from H16.out.memBlkV (List.mem_of_getElem? (i := 3) rfl)).envs⟩
  clear hSt hK K
  try simp only [Act.put, List.setIfInBounds_toArray, List.set_cons_zero, List.set_cons_succ]
  refine seqL rfl rfl (fun K hK => ?_)
  go_simp
  go_at_call 22
  refine (world_digest eX wf_x H16.out rfl (by have := L8.out; omega)).mono ?_
  rintro e w17 ⟨he, h⟩
  rw [aw_dg] at he
  subst he
  rw [five0] at h
  have H17 := Lib.hid h
  clear h
  refine hK.out _ _ anyW.i ?_ (fun _ hSt => ?_)
  · exact ⟨H17.out.nth 2 rfl, H17.out.nth 5 rfl, H17.out.nth 6 rfl, (show BlkAt _ bM ua uc (some ⟨g, off, none⟩) vc from H17.out.memBlkV (List.mem_of_getElem? (i := 3) rfl)).envs⟩
  clear hSt hK K
  try simp only [Act.put, List.setIfInBounds_toArray, List.set_cons_zero, List.set_cons_succ]
  refine seqL rfl rfl (fun K hK => ?_)
  go_simp
  obtain ⟨n2, x17, EN17, EX17, ES17, H17b⟩ := H17.out.box (.cells #[.int .i64 2] 3 (0, 0))
  rw [EX17.out, EN17.out]
  refine hK.out _ _ anyW.i ?_ (fun _ hSt => ?_)
  · exact ⟨H17b.out.nth 3 rfl, H17b.out.nth 6 rfl, H17b.out.nth 7 rfl, (show BlkAt _ bM ua uc (some ⟨g, off, none⟩) vc from H17b.out.memBlkV (List.mem_of_getElem? (i := 4) rfl)).envs⟩
  clear hSt hK K
  try simp only [Act.put, List.setIfInBounds_toArray, List.set_cons_zero, List.set_cons_succ]
  refine seqL rfl rfl (fun K hK => ?_)
  go_simp
  go_at_call 28
  refine (sameints_any sa (some ⟨n2, 0, none⟩) [2] [2] sc 1 x17 (H17b.out.tail.getOwn.intsAt) (ints_const (t := [2]) H17b.out.getBlk) (by decide) (by decide)).mono ?_
  rintro e w18 ⟨rfl, hc⟩
  have HF := Lib.hid (H17b.out.chg0 hc)
  clear hc
  refine hK.out _ _ anyW.i ?_ (fun _ hSt => ?_)
  · exact ⟨HF.out.nth 3 rfl, HF.out.nth 6 rfl, HF.out.nth 7 rfl, (show BlkAt _ bM ua uc (some ⟨g, off, none⟩) vc from HF.out.memBlkV (List.mem_of_getElem? (i := 4) rfl)).envs⟩
  clear hSt hK K
  try simp only [Act.put, List.setIfInBounds_toArray, List.set_cons_zero, List.set_cons_succ]
  repeat (first | (refine seqW (v := ?_) rfl rfl (by kernel_rfl) ?_ ?_; rotate_left; (focus ((intro x; go_simp); try (with_reducible rfl))); try simp only [Act.put, List.setIfInBounds_toArray, List.set_cons_zero, List.set_cons_succ]) | (refine seqS (v := ?_) rfl rfl (by kernel_rfl) ?_ ?_; rotate_left; (focus (intro x hS; first | (obtain ⟨hS1, hS2, hS3, hS4⟩ := hS; obtain ⟨b0, b1, b2, b3, b4, b5⟩ := cells6 hS1; obtain ⟨y0, y1, y2, y3⟩ := cells4 hS2; obtain ⟨x0, x1, x2, x3⟩ := cells4 hS3; have g0 := hS4.get (i := 0) (by decide) 0 _ rfl; have g1 := hS4.get (i := 0) (by decide) 1 _ rfl; have g2 := hS4.get (i := 0) (by decide) 2 _ rfl; have g3 := hS4.get (i := 0) (by decide) 3 _ rfl; simp [eY] at g0 g1 g2 g3; go_simp; try (with_reducible rfl)))); try simp only [Act.put, List.setIfInBounds_toArray, List.set_cons_zero, List.set_cons_succ]) | (refine seqX rfl rfl (by kernel_rfl) ?_; try simp only [Act.put, List.setIfInBounds_toArray, List.set_cons_zero, List.set_cons_succ]))
  refine seqE ?_
  go_wp2_with fail
  go_ret
  exact ⟨rfl, HF.out.memBase (by simp)⟩
end Go.Proofs.YtcfhkpjheemkgaaGreat
