/-
  TallHighs: who gives a view up is told with what was highest to them when they first did.
-/
import Derived.Test.YtcfhkpjheemkgaaHighsLaw
import Derived.BigQuiet
import Derived.ProofKit
import Derived.OpenShut
import Derived.ChangeOld
namespace Go.Proofs.Ytcfhkpjheemkgaa
set_option linter.unusedSectionVars false
set_option linter.unnecessarySimpa false
set_option linter.unusedSimpArgs false
set_option linter.unusedVariables false
open Go.RowKit Go.MapKept
namespace tallHighs
def Rel2 (p q : Nat) (d : Wd) (R : Int) (W : World) (nh ns nl nc bf len0 : Nat) (i : Value) (wr : World) : Prop := ∃ j : Nat, j ≤ len0 ∧ j ≤ 12 ∧ i = .int .i64 j ∧ ∃ X O OL, Hid (Hw R X (upto 4) (upto 4) (upto 4) (13 + 20 * j)) ∧ Hid (OFit R O OL j) ∧ Sys wr (upd (fun _ => emp) 0 (worldT p d X)) (mapT intKey bf (FM OL) :: tallyT q p cfg4 [] O :: blk nh (.cells #[.int .i64 3, .int .i64 70, .slice (some ⟨ns, 0, none⟩) 3 3] 28 (0, 0)) :: blk ns (.cells #[.int .i64 0, .int .i64 1, .int .i64 2] 3 (0, 0)) :: blk nl (.cells #[.int .i64 0, .int .i64 R, .slice none 0 0] 28 (0, 0)) :: blk nc (.cells #[.int .i64 1, .int .i64 4, .int .i64 0, .int .i64 0, .int .i64 0, .int .i64 0, .int .i64 0, .int .i64 0] 49 (0, 0)) :: base W :: [])
set_option maxRecDepth 100000 in
set_option maxHeartbeats 4000000 in
theorem walk (W : World) (a0 : Option Addr) (len0 cap0 : Nat) (z0 : List Int) (w0 : IsRow .i64 W a0 len0 cap0 z0) (a1 : Int) (_ : (Lit.int .i64 a1).wf = true) :
    Calls Try.prog 7 #[.slice a0 len0 cap0, .int .i64 a1] W fun e w' => e = .returned (.bool true) ∧ Below W.heap.size W w' := by
  obtain ⟨hi0, hlen⟩ := IntsAt.of_row w0
  obtain ⟨ls, hls⟩ : ∃ ls, ls = z0.take len0 := ⟨_, rfl⟩
  rw [← hls] at hi0 hlen
  have HI0 := Lib.hid hi0
  have HLEN := Lib.hid hlen
  have hm1 := i64_and1
  have hm3 := i64_and3
  have hmm := @run_makeMap Try.prog
  clear hi0 hlen hls w0
  go_enter Try.func7, Try.ntmps7
  obtain ⟨nc, hnc⟩ : ∃ n, n = W.heap.size := ⟨_, rfl⟩
  obtain ⟨x0, hx0⟩ : ∃ y, y = W.alloc (.cells #[.int .i64 1, .int .i64 4, .int .i64 0, .int .i64 0, .int .i64 0, .int .i64 0, .int .i64 0, .int .i64 0] 49 (0, 0)) := ⟨_, rfl⟩
  have h0 := (Sys.start W).alloc (.cells #[.int .i64 1, .int .i64 4, .int .i64 0, .int .i64 0, .int .i64 0, .int .i64 0, .int .i64 0, .int .i64 0] 49 (0, 0)) hnc
  rw [← hx0] at h0
  have H0 := Lib.hid h0
  have HX0 := Lib.hid hx0
  have HNC := Lib.hid hnc
  clear hnc hx0 h0
  go_upto_region 2 with fail
  rw [← HX0.out, ← HNC.out]
  go_wp2_with fail
  refine (world_new 1 H0.out).mono ?_
  rintro e x1 ⟨p, d, rfl, h1⟩
  obtain ⟨X0, hX0⟩ : ∃ X : WX, X = ⟨[], fun _ => [], min (max 1 0) 100 + 1, []⟩ := ⟨_, rfl⟩
  rw [← hX0] at h1
  have H1 := Lib.hid (h1.putN 0 rfl)
  have hbc := H1.out.getBlk
  clear h1
  go_upto_region 5 with fail
  go_wp2_with (refine wpList_load_row rfl 49 _ rfl nc rfl _ _ _ _ hbc Try.underlying49 rfl size8 ?_)
  refine (tally_new cfg4 H1.out).mono ?_
  rintro e x2 ⟨q, rfl, h2⟩
  have hT0 : X0.T.length = 0 := by rw [hX0]; rfl
  have H2 := Lib.hid h2
  clear h2 hbc
  go_wp2_with fail
  refine (cert_root H2.out (upd_same _ _ _) (by omega)).mono ?_
  rintro e x3 ⟨rfl, h3⟩
  rw [upd_upd] at h3
  obtain ⟨R, hR⟩ : ∃ R, R = dg X0.T rootB := ⟨_, rfl⟩
  rw [← hR]
  have hA : Hw R (X0.digest rootB) [] [] [] 1 := by
    have hf : ∀ x, (X0.digest rootB).f x = [] := fun x => by rw [hX0]; rfl
    exact ⟨fun x _ => hf x, mem_digest _ _, (dg_digest _ _).trans hR.symm, by have := (X0.ext_digest rootB).len.2; omega, hf _, hf _, hf _⟩
  obtain ⟨X1, hX1⟩ : ∃ X, X = X0.digest rootB := ⟨_, rfl⟩
  rw [← hX1] at h3 hA
  obtain ⟨nl, hnl⟩ : ∃ n, n = x3.heap.size := ⟨_, rfl⟩
  obtain ⟨x4, hx4⟩ : ∃ y, y = x3.alloc (.cells #[.int .i64 0, .int .i64 R, .slice none 0 0] 28 (0, 0)) := ⟨_, rfl⟩
  have h4 := (h3.swap.alloc (.cells #[.int .i64 0, .int .i64 R, .slice none 0 0] 28 (0, 0)) hnl)
  rw [← hx4] at h4
  obtain ⟨ns, hns⟩ : ∃ n, n = x4.heap.size := ⟨_, rfl⟩
  obtain ⟨x5, hx5⟩ : ∃ y, y = x4.alloc (.cells #[.int .i64 0, .int .i64 1, .int .i64 2] 3 (0, 0)) := ⟨_, rfl⟩
  have h5 := h4.alloc (.cells #[.int .i64 0, .int .i64 1, .int .i64 2] 3 (0, 0)) hns
  rw [← hx5] at h5
  obtain ⟨nh, hnh⟩ : ∃ n, n = x5.heap.size := ⟨_, rfl⟩
  obtain ⟨x6, hx6⟩ : ∃ y, y = x5.alloc (.cells #[.int .i64 3, .int .i64 70, .slice (some ⟨ns, 0, none⟩) 3 3] 28 (0, 0)) := ⟨_, rfl⟩
  have h6 := h5.alloc (.cells #[.int .i64 3, .int .i64 70, .slice (some ⟨ns, 0, none⟩) 3 3] 28 (0, 0)) hnh
  rw [← hx6] at h6
  have H6 : Hid (Sys x6 (upd (fun _ => emp) 0 (worldT p d X1)) (tallyT q p cfg4 [] [] :: blk nh (.cells #[.int .i64 3, .int .i64 70, .slice (some ⟨ns, 0, none⟩) 3 3] 28 (0, 0)) :: blk ns (.cells #[.int .i64 0, .int .i64 1, .int .i64 2] 3 (0, 0)) :: blk nl (.cells #[.int .i64 0, .int .i64 R, .slice none 0 0] 28 (0, 0)) :: blk nc (.cells #[.int .i64 1, .int .i64 4, .int .i64 0, .int .i64 0, .int .i64 0, .int .i64 0, .int .i64 0, .int .i64 0] 49 (0, 0)) :: base W :: [])) := h6.front 4 rfl
  have HX4 := Lib.hid hx4
  have HX5 := Lib.hid hx5
  have HX6 := Lib.hid hx6
  have HNL := Lib.hid hnl
  have HNS := Lib.hid hns
  have HNH : Hid (nh = ns + 1) := by show _ = _; rw [hnh, hx5, hns]; simp
  have HA := Lib.hid hA
  clear h3 h4 h5 h6 hx4 hx5 hx6 hnl hns hnh hA hX1 hR hX0 hT0 HX0 HNC H0 H1 H2
  go_upto_region 9 with fail
  rw [← HX4.out, ← HNL.out]
  go_upto_region 10 with fail
  rw [← HNS.out, ← HX5.out, ← HNH.out, ← HX6.out]
  go_wp2_with fail
  go_loopw [10] (fun i wr => ∃ j : Nat, j ≤ 4 ∧ i = .int .i64 j ∧ ∃ X, Hid (Hw R X (upto j) (upto j) (upto j) (1 + 3 * j)) ∧ Sys wr (upd (fun _ => emp) 0 (worldT p d X)) (tallyT q p cfg4 [] [] :: blk nh (.cells #[.int .i64 3, .int .i64 70, .slice (some ⟨ns, 0, none⟩) 3 3] 28 (0, 0)) :: blk ns (.cells #[.int .i64 0, .int .i64 1, .int .i64 2] 3 (0, 0)) :: blk nl (.cells #[.int .i64 0, .int .i64 R, .slice none 0 0] 28 (0, 0)) :: blk nc (.cells #[.int .i64 1, .int .i64 4, .int .i64 0, .int .i64 0, .int .i64 0, .int .i64 0, .int .i64 0, .int .i64 0] 49 (0, 0)) :: base W :: [])) (fun i _ => 4 - (intOf i).toNat)
  case atStart => exact ⟨0, by omega, rfl, X1, HA.out, H6.out⟩
  case round =>
    obtain ⟨j, hj, rfl, X, HX, hR⟩ := hrel
    by_cases hlt : j < 4
    · have hjl : (j : Int) < 4 := by omega
      have hwrap : IntKind.i64.wrap ((j : Int) + 1) = (j : Int) + 1 := by rw [IntKind.wrap_i64]; omega
      have hwf : (Lit.int .i64 (j : Int)).wf = true := wf_mk (by omega) (by omega)
      have HR := Lib.hid hR
      clear hR
      go_wp2_with fail
      refine (world_signs HR.out (upd_same _ _ _)).mono ?_
      rintro e wa1 ⟨rfl, rfl⟩
      go_wp2_with fail
      refine (cert_vote 3 70 HR.out (upd_same _ _ _) (by have := HX.out.2.2.2.1; omega)).mono ?_
      rintro e wb1 ⟨rfl, hb⟩
      rw [upd_upd] at hb
      have HB := Lib.hid hb
      clear hb
      go_wp2_with fail
      refine (world_sign (j : Int) (dg X.T (voteB 3 70)) hwf HB.out (upd_same _ _ _)).mono ?_
      rintro e wd1 ⟨rfl, hd⟩
      rw [upd_upd] at hd
      obtain ⟨Y1, hX2⟩ : ∃ Y, Y = X.signB (j : Int) (voteB 3 70) := ⟨_, rfl⟩
      have HY1 : Hid (Sys wd1 (upd (fun _ => emp) 0 (worldT p d Y1)) (tallyT q p cfg4 [] [] :: blk nh (.cells #[.int .i64 3, .int .i64 70, .slice (some ⟨ns, 0, none⟩) 3 3] 28 (0, 0)) :: blk ns (.cells #[.int .i64 0, .int .i64 1, .int .i64 2] 3 (0, 0)) :: blk nl (.cells #[.int .i64 0, .int .i64 R, .slice none 0 0] 28 (0, 0)) :: blk nc (.cells #[.int .i64 1, .int .i64 4, .int .i64 0, .int .i64 0, .int .i64 0, .int .i64 0, .int .i64 0, .int .i64 0] 49 (0, 0)) :: base W :: [])) := by
        rw [hX2]; exact hd
      have HW1 := Lib.hid (HX.out.a (j : Int))
      rw [upto_add, ← hX2] at HW1
      clear hd HB HR HX hX2
      go_wp2_with fail
      refine (world_signs HY1.out (upd_same _ _ _)).mono ?_
      rintro e wa2 ⟨rfl, rfl⟩
      go_wp2_with fail
      refine (cert_out 5 0 HY1.out (upd_same _ _ _) (by have := HW1.out.2.2.2.1; omega)).mono ?_
      rintro e wb2 ⟨rfl, hb⟩
      rw [upd_upd] at hb
      have HB := Lib.hid hb
      clear hb
      go_wp2_with fail
      refine (world_sign (j : Int) (dg Y1.T (outB 5 0)) hwf HB.out (upd_same _ _ _)).mono ?_
      rintro e wd2 ⟨rfl, hd⟩
      rw [upd_upd] at hd
      obtain ⟨Y2, hX2⟩ : ∃ Y, Y = Y1.signB (j : Int) (outB 5 0) := ⟨_, rfl⟩
      have HY2 : Hid (Sys wd2 (upd (fun _ => emp) 0 (worldT p d Y2)) (tallyT q p cfg4 [] [] :: blk nh (.cells #[.int .i64 3, .int .i64 70, .slice (some ⟨ns, 0, none⟩) 3 3] 28 (0, 0)) :: blk ns (.cells #[.int .i64 0, .int .i64 1, .int .i64 2] 3 (0, 0)) :: blk nl (.cells #[.int .i64 0, .int .i64 R, .slice none 0 0] 28 (0, 0)) :: blk nc (.cells #[.int .i64 1, .int .i64 4, .int .i64 0, .int .i64 0, .int .i64 0, .int .i64 0, .int .i64 0, .int .i64 0] 49 (0, 0)) :: base W :: [])) := by
        rw [hX2]; exact hd
      have HW2 := Lib.hid (HW1.out.b (j : Int))
      rw [upto_add, ← hX2] at HW2
      clear hd HB HY1 HW1 hX2
      go_wp2_with fail
      refine (world_signs HY2.out (upd_same _ _ _)).mono ?_
      rintro e wa3 ⟨rfl, rfl⟩
      go_wp2_with fail
      refine (cert_out 5 3 HY2.out (upd_same _ _ _) (by have := HW2.out.2.2.2.1; omega)).mono ?_
      rintro e wb3 ⟨rfl, hb⟩
      rw [upd_upd] at hb
      have HB := Lib.hid hb
      clear hb
      go_wp2_with fail
      refine (world_sign (j : Int) (dg Y2.T (outB 5 3)) hwf HB.out (upd_same _ _ _)).mono ?_
      rintro e wd3 ⟨rfl, hd⟩
      rw [upd_upd] at hd
      obtain ⟨Y3, hX2⟩ : ∃ Y, Y = Y2.signB (j : Int) (outB 5 3) := ⟨_, rfl⟩
      have HY3 : Hid (Sys wd3 (upd (fun _ => emp) 0 (worldT p d Y3)) (tallyT q p cfg4 [] [] :: blk nh (.cells #[.int .i64 3, .int .i64 70, .slice (some ⟨ns, 0, none⟩) 3 3] 28 (0, 0)) :: blk ns (.cells #[.int .i64 0, .int .i64 1, .int .i64 2] 3 (0, 0)) :: blk nl (.cells #[.int .i64 0, .int .i64 R, .slice none 0 0] 28 (0, 0)) :: blk nc (.cells #[.int .i64 1, .int .i64 4, .int .i64 0, .int .i64 0, .int .i64 0, .int .i64 0, .int .i64 0, .int .i64 0] 49 (0, 0)) :: base W :: [])) := by
        rw [hX2]; exact hd
      have HW3 := Lib.hid (HW2.out.c (j : Int))
      rw [upto_add, ← hX2] at HW3
      clear hd HB HY2 HW2 hX2
      go_wp2_with fail
      go_roundw
      case rel => exact ⟨j + 1, by omega, by go_num, _, (by have h := HW3.out; rwa [show 1 + 3 * j + 1 + 1 + 1 = 1 + 3 * (j + 1) by omega] at h), HY3.out⟩
      case measure => simp [intOf]; omega
    · obtain rfl : j = 4 := by omega
      have HR := Lib.hid hR
      clear hR
      obtain ⟨bf, hbf⟩ : ∃ n, n = wr.heap.size := ⟨_, rfl⟩
      obtain ⟨y0, hy0⟩ : ∃ y, y = wr.alloc (.map #[] 0) := ⟨_, rfl⟩
      have h4 := HR.out.push (t := mapT intKey bf []) ((Chg.refl _ _).alloc (.map #[] 0)) (F := (· = bf)) ⟨MapOf.made _ _ hbf, rfl⟩ (fun k e => by have e : k = _ := e; omega)
      rw [← hy0] at h4
      have H4 := Lib.hid h4
      have HY0 := Lib.hid hy0
      have HBF := Lib.hid hbf
      clear h4 hy0 hbf HR HA H6 HX4 HX5 HX6 HNL HNS HNH
      go_upto_region 17 with fail
      rw [← HY0.out, ← HBF.out]
      clear HY0 HBF
      go_wp2_with fail
      go_loopw [12] (fun i wr => Rel2 p q d R W nh ns nl nc bf len0 i wr) (fun i _ => len0 - (intOf i).toNat)
      case atStart => exact ⟨0, by omega, by omega, rfl, X, [], [], HX.out, ⟨rfl, List.nodup_nil, (by intro x hx; cases hx), Nat.le_refl _⟩, H4.out⟩
      case round =>
        obtain ⟨j, hj, hj6, rfl, X, O, OL, HH, HO, hR⟩ := hrel
        have HR := Lib.hid hR
        by_cases hlt : j < len0
        · have hjl : (j : Int) < (len0 : Int) := by omega
          by_cases h12 : j < 12
          · have hj12 : (j : Int) < 12 := by omega
            have hwrap : IntKind.i64.wrap ((j : Int) + 1) = (j : Int) + 1 := by rw [IntKind.wrap_i64]; omega
            obtain ⟨yb, yo, rfl, hcj⟩ : ∃ b off, a0 = some ⟨b, off, none⟩ ∧ wr.cell? ⟨b, off + j, none⟩ = some (.int .i64 (ls.getD j 0)) := by
              rcases HI0.out.below (Sys.memBase (W := W) hR (by simp)) with h | ⟨b, off, e, h⟩
              · have := HLEN.out; rw [h] at this; simp at this; omega
              · exact ⟨b, off, e, h j (by rw [HLEN.out]; exact hlt)⟩
            obtain ⟨lj, hlj⟩ : ∃ x, x = ls.getD j 0 := ⟨_, rfl⟩
            rw [← hlj] at hcj
            clear hR hlj
            go_upto_region 21 with fail
            obtain ⟨who, hwho⟩ : ∃ x, x = lj % 4 := ⟨_, rfl⟩
            rw [← hwho]
            have HWH : Hid (0 ≤ who ∧ who < 4) := by show _ ∧ _; omega
            clear hwho hcj
            obtain ⟨nq, hnq⟩ : ∃ n, n = wr.heap.size := ⟨_, rfl⟩
            obtain ⟨wq, hwq⟩ : ∃ y, y = wr.alloc (.cells #[.int .i64 0, .int .i64 R, .slice none 0 0] 28 (0, 0)) := ⟨_, rfl⟩
            have h5 := HR.out.alloc (.cells #[.int .i64 0, .int .i64 R, .slice none 0 0] 28 (0, 0)) hnq
            rw [← hwq] at h5
            have H5 := Lib.hid h5
            have HWQ := Lib.hid hwq
            have HNQ := Lib.hid hnq
            have hbl := Sys.memBlk (n := nl) (o := .cells #[.int .i64 0, .int .i64 R, .slice none 0 0] 28 (0, 0)) HR.out (by simp)
            clear h5 hwq hnq HR
            go_upto_region 22 with (refine wpList_load_row rfl 28 _ rfl nl rfl _ _ _ _ hbl Try.underlying28 rfl size3 ?_)
            rw [← HWQ.out, ← HNQ.out]
            clear hbl HWQ HNQ
            go_upto_if 82 with fail
            go_cut [] (fun wx => ∃ (qx : QcX) (va : Option Addr) (vk vc : Nat), Hid (QOk R ns qx va vk vc) ∧ Sys wx (upd (fun _ => emp) 0 (worldT p d X)) (blk nq (.cells #[.int .i64 qx.view, .int .i64 qx.block, .slice va vk vc] 28 (0, 0)) :: mapT intKey bf (FM OL) :: tallyT q p cfg4 [] O :: blk nh (.cells #[.int .i64 3, .int .i64 70, .slice (some ⟨ns, 0, none⟩) 3 3] 28 (0, 0)) :: blk ns (.cells #[.int .i64 0, .int .i64 1, .int .i64 2] 3 (0, 0)) :: blk nl (.cells #[.int .i64 0, .int .i64 R, .slice none 0 0] 28 (0, 0)) :: blk nc (.cells #[.int .i64 1, .int .i64 4, .int .i64 0, .int .i64 0, .int .i64 0, .int .i64 0, .int .i64 0, .int .i64 0] 49 (0, 0)) :: base W :: []))
            case first =>
              have hbh := Sys.memBlk (n := nh) (o := .cells #[.int .i64 3, .int .i64 70, .slice (some ⟨ns, 0, none⟩) 3 3] 28 (0, 0)) H5.out (by simp)
              have hbq := H5.out.getBlk
              have hzz := setRow_heap wq nq _ #[.int .i64 3, .int .i64 70, .slice (some ⟨ns, 0, none⟩) 3 3] _ _ hbq
              have HS := Lib.hid (H5.out.store ((Chg.refl (· = nq) wq).row #[.int .i64 3, .int .i64 70, .slice (some ⟨ns, 0, none⟩) 3 3]) hzz)
              go_wp2_with (first | refine wpList_load_row rfl 28 _ rfl nh rfl _ _ _ _ hbh Try.underlying28 rfl size3 ?_ | refine wpList_store_row rfl 28 _ _ rfl nq #[.int .i64 3, .int .i64 70, .slice (some ⟨ns, 0, none⟩) 3 3] rfl rfl _ _ hbq size3 rfl (by simp [Value.oneCell']) ?_)
              all_goals
                go_meet
                case rel => first | exact ⟨⟨0, R, []⟩, none, 0, 0, .inl ⟨rfl, rfl, rfl, rfl⟩, H5.out⟩ | exact ⟨hiQ, _, _, _, .inr ⟨rfl, rfl, rfl, rfl⟩, HS.out⟩
            case rest =>
            obtain ⟨qx, va, vk, vc, HQ, h6⟩ := hcut
            have H6 := Lib.hid h6
            clear h6 H5
            go_upto_region 24 with fail
            go_cut [16] (fun s16 wx => s16 = .bool (alook OL who).isSome ∧ Sys wx (upd (fun _ => emp) 0 (worldT p d X)) (blk nq (.cells #[.int .i64 qx.view, .int .i64 qx.block, .slice va vk vc] 28 (0, 0)) :: mapT intKey bf (FM OL) :: tallyT q p cfg4 [] O :: blk nh (.cells #[.int .i64 3, .int .i64 70, .slice (some ⟨ns, 0, none⟩) 3 3] 28 (0, 0)) :: blk ns (.cells #[.int .i64 0, .int .i64 1, .int .i64 2] 3 (0, 0)) :: blk nl (.cells #[.int .i64 0, .int .i64 R, .slice none 0 0] 28 (0, 0)) :: blk nc (.cells #[.int .i64 1, .int .i64 4, .int .i64 0, .int .i64 0, .int .i64 0, .int .i64 0, .int .i64 0, .int .i64 0] 49 (0, 0)) :: base W :: []))
            case first =>
              have e24 := (Sys.memMap (K := intKey) (b := bf) (x := FM OL) H6.out (by simp)).lookup (P := Try.prog) Try.underlying75 Try.underlying3 (zeroI wc) who true
              rw [alook_FM] at e24
              cases hk : alook OL who with
              | none =>
                rw [hk] at e24
                simp only [if_true, intKey, Option.getD, Option.isSome, Option.map] at e24
                go_wp2_with fail
                go_meet
                case rel => exact ⟨by first | rfl | (rw [hk]; rfl), H6.out⟩
              | some q0 =>
                rw [hk] at e24
                simp only [if_true, intKey, Option.getD, Option.isSome, Option.map] at e24
                go_wp2_with fail
                go_meet
                case rel => exact ⟨by first | rfl | (rw [hk]; rfl), H6.out⟩
            case rest =>
            obtain ⟨h16, h7⟩ := hcut
            subst h16
            have H7 := Lib.hid h7
            clear h7 H6
            obtain ⟨inn, hin⟩ : ∃ b, b = (alook OL who).isSome := ⟨_, rfl⟩
            rw [← hin]
            have HIN := Lib.hid hin
            clear hin
            go_upto_if 91 with fail
            go_cut [] (fun wx => Sys wx (upd (fun _ => emp) 0 (worldT p d X)) (blk nq (.cells #[.int .i64 qx.view, .int .i64 qx.block, .slice va vk vc] 28 (0, 0)) :: mapT intKey bf (FM (outL OL who qx)) :: tallyT q p cfg4 [] O :: blk nh (.cells #[.int .i64 3, .int .i64 70, .slice (some ⟨ns, 0, none⟩) 3 3] 28 (0, 0)) :: blk ns (.cells #[.int .i64 0, .int .i64 1, .int .i64 2] 3 (0, 0)) :: blk nl (.cells #[.int .i64 0, .int .i64 R, .slice none 0 0] 28 (0, 0)) :: blk nc (.cells #[.int .i64 1, .int .i64 4, .int .i64 0, .int .i64 0, .int .i64 0, .int .i64 0, .int .i64 0, .int .i64 0] 49 (0, 0)) :: base W :: []))
            case first =>
              cases inn
              · have cv : wc.cell? ⟨nq, 0, none⟩ = some (.int .i64 qx.view) := cell_of_blk H7.out.getBlk 0
                have hfr := H7.out.swap
                obtain ⟨wu, hu, hmu, hcu, -⟩ := hfr.getMap.update (P := Try.prog) Try.underlying75 Try.underlying3 who (.int .i64 qx.view)
                rw [FM_new HIN.out.symm] at hmu
                simp only [intKey] at hu
                have HU := Lib.hid (hfr.mapTo hmu hcu).swap
                clear hfr hmu hcu
                go_wp2_with fail
                go_meet
                case rel => exact HU.out
              · go_wp2_with fail
                go_meet
                case rel => rw [FM_old HIN.out.symm]; exact H7.out
            case rest =>
            have H8 := Lib.hid hcut
            clear hcut H7
            have hbq := H8.out.getBlk
            go_upto_region 27 with fail
            go_wp2_with (refine wpList_load_row rfl 28 _ rfl nq rfl _ _ _ _ hbq Try.underlying28 rfl size3 ?_)
            refine (tally_out cfg4 cfg4_good who 5 qx va vc vk HQ.out.len HQ.out.le HQ.out.nil (HQ.out.cap (by simp)) (H8.out.front 2 rfl) (upd_same _ _ _) HH.out.1 HH.out.2.1 (by have := HH.out.2.2.2.1; omega) (by rw [HO.out.1]; intro x hx; rcases (HO.out.2.2.1 x hx).2 with e | e <;> rw [e] <;> simp [hiQ]) (by rw [HO.out.1]; have := HO.out.2.2.2; omega)).mono ?_
            rintro e wo ⟨ra, rh, rc, t, yes, hy, ht, he, X3, hE, hv⟩
            rw [HO.out.1] at ht
            rw [HH.out.counts HWH.out HQ.out, upd_upd] at hv
            obtain ⟨xa, xk, xc, hvs, hvk⟩ := hv.getOwn.slice
            have hvk' := hvk.out
            subst hvk'
            subst hvs
            obtain ⟨ya, yk, yc, hvs, hvk2⟩ := hv.tail.getOwn.slice
            have hvk' := hvk2.out
            subst hvk'
            subst hvs
            obtain ⟨za, zk, zc, hvs, hvk3⟩ := hv.tail.tail.getOwn.slice
            have hvk' := hvk3.out
            subst hvk'
            subst hvs
            subst he
            have hO2 := HO.out.out HWH.out HQ.out
            have hyy : yes = decide (3 ≤ ((outL OL who qx).length : Int)) := by
              rw [hy]
              unfold outYes
              rw [HH.out.counts HWH.out HQ.out, HO.out.1, Bool.true_and]
              rfl
            obtain ⟨OL2, hOL2⟩ : ∃ L, L = outL OL who qx := ⟨_, rfl⟩
            obtain ⟨O2, hOO2⟩ : ∃ L, L = outV O who 5 qx true := ⟨_, rfl⟩
            have h8 : Sys wo (upd (fun _ => emp) 0 (worldT p d X3)) (own 3 1 (.slice xa t.hby.length xc) t.hby.length (t.hby.map (Value.int .i64)) :: own 3 1 (.slice ya t.by_.length yc) t.by_.length (t.by_.map (Value.int .i64)) :: own 3 1 (.slice za t.highs.length zc) t.highs.length (t.highs.map (Value.int .i64)) :: tallyT q p cfg4 [] O2 :: blk nq (.cells #[.int .i64 qx.view, .int .i64 qx.block, .slice va vk vc] 28 (0, 0)) :: mapT intKey bf (FM OL2) :: blk nh (.cells #[.int .i64 3, .int .i64 70, .slice (some ⟨ns, 0, none⟩) 3 3] 28 (0, 0)) :: blk ns (.cells #[.int .i64 0, .int .i64 1, .int .i64 2] 3 (0, 0)) :: blk nl (.cells #[.int .i64 0, .int .i64 R, .slice none 0 0] 28 (0, 0)) :: blk nc (.cells #[.int .i64 1, .int .i64 4, .int .i64 0, .int .i64 0, .int .i64 0, .int .i64 0, .int .i64 0, .int .i64 0] 49 (0, 0)) :: base W :: []) := by rw [hOL2, hOO2]; exact hv
            rw [← hOL2, ← hOO2] at hO2
            rw [← hOL2] at ht hyy
            have HO2 := Lib.hid hO2
            have HT := Lib.hid ht
            have HYY := Lib.hid hyy
            have HH3 := Lib.hid (HH.out.ext hE)
            obtain ⟨nt, hnt⟩ : ∃ n, n = wo.heap.size := ⟨_, rfl⟩
            obtain ⟨wt, hwt⟩ : ∃ y, y = wo.alloc (.cells #[.int .i64 t.view, .slice ya t.by_.length yc, .slice za t.highs.length zc, .int .i64 t.hv, .int .i64 t.hb, .slice xa t.hby.length xc] 30 (0, 0)) := ⟨_, rfl⟩
            have h9 := h8.alloc (.cells #[.int .i64 t.view, .slice ya t.by_.length yc, .slice za t.highs.length zc, .int .i64 t.hv, .int .i64 t.hb, .slice xa t.hby.length xc] 30 (0, 0)) hnt
            rw [← hwt] at h9
            have H10 := Lib.hid h9
            have HWT := Lib.hid hwt
            have HNT := Lib.hid hnt
            have e28 := (Sys.memMap (K := intKey) (b := bf) (x := FM OL2) h9 (by simp)).len (P := Try.prog) (ty := 3) Try.underlying75
            rw [show (FM OL2).length = OL2.length by simp [FM]] at e28
            clear hv hy ht hO2 hOL2 hOO2 hyy h8 h9 hnt hwt hvk hvk2 hvk3 hbq H8
            go_upto_region 28 with fail
            rw [← HWT.out, ← HNT.out]
            clear HWT HNT
            by_cases h3 : 3 ≤ (OL2.length : Int)
            · have hyt : yes = true := by rw [HYY.out]; simpa using h3
              subst hyt
              have hd : decide (3 ≤ (OL2.length : Int)) = true := by simpa using h3
              have H3L : Hid (3 ≤ OL2.length) := by show _ ≤ _; omega
              clear h3
              obtain ⟨es, clock, hst, hme, h11⟩ := (H10.out.front 6 rfl).mapBlk
              obtain ⟨r, hr⟩ : ∃ n, n = wt.heap.size := ⟨_, rfl⟩
              have hrg := run_range_map (P := Try.prog) wt 75 3 3 bf es clock Try.underlying75 h11.getBlk
              obtain ⟨wi, hwi⟩ : ∃ y, y = wt.alloc (.mapIter (some bf) clock #[] clock) := ⟨_, rfl⟩
              have h12 := h11.alloc (.mapIter (some bf) clock #[] clock) hr
              rw [← hr, ← hwi] at hrg
              rw [← hwi] at h12
              have H12 : Hid (Sys wi (upd (fun _ => emp) 0 (worldT p d X3)) (blk r (.mapIter (some bf) clock #[] clock) :: blk bf (.map es clock) :: blk nt (.cells #[.int .i64 t.view, .slice ya t.by_.length yc, .slice za t.highs.length zc, .int .i64 t.hv, .int .i64 t.hb, .slice xa t.hby.length xc] 30 (0, 0)) :: own 3 1 (.slice xa t.hby.length xc) t.hby.length (t.hby.map (Value.int .i64)) :: own 3 1 (.slice ya t.by_.length yc) t.by_.length (t.by_.map (Value.int .i64)) :: own 3 1 (.slice za t.highs.length zc) t.highs.length (t.highs.map (Value.int .i64)) :: tallyT q p cfg4 [] O2 :: blk nq (.cells #[.int .i64 qx.view, .int .i64 qx.block, .slice va vk vc] 28 (0, 0)) :: blk nh (.cells #[.int .i64 3, .int .i64 70, .slice (some ⟨ns, 0, none⟩) 3 3] 28 (0, 0)) :: blk ns (.cells #[.int .i64 0, .int .i64 1, .int .i64 2] 3 (0, 0)) :: blk nl (.cells #[.int .i64 0, .int .i64 R, .slice none 0 0] 28 (0, 0)) :: blk nc (.cells #[.int .i64 1, .int .i64 4, .int .i64 0, .int .i64 0, .int .i64 0, .int .i64 0, .int .i64 0, .int .i64 0] 49 (0, 0)) :: base W :: [])) := h12
              have HST := Lib.hid hst
              have HME := Lib.hid hme
              clear h11 h12 hwi hr hst hme
              go_wp2_with fail
              go_loopw [19] (fun mv wl => ∃ (a : Int) (seen : Array Nat) (c0 : Nat), mv = .int .i64 a ∧ clock ≤ c0 ∧ Hid (Mst es seen a) ∧ Sys wl (upd (fun _ => emp) 0 (worldT p d X3)) (blk r (.mapIter (some bf) clock seen c0) :: blk bf (.map es clock) :: blk nt (.cells #[.int .i64 t.view, .slice ya t.by_.length yc, .slice za t.highs.length zc, .int .i64 t.hv, .int .i64 t.hb, .slice xa t.hby.length xc] 30 (0, 0)) :: own 3 1 (.slice xa t.hby.length xc) t.hby.length (t.hby.map (Value.int .i64)) :: own 3 1 (.slice ya t.by_.length yc) t.by_.length (t.by_.map (Value.int .i64)) :: own 3 1 (.slice za t.highs.length zc) t.highs.length (t.highs.map (Value.int .i64)) :: tallyT q p cfg4 [] O2 :: blk nq (.cells #[.int .i64 qx.view, .int .i64 qx.block, .slice va vk vc] 28 (0, 0)) :: blk nh (.cells #[.int .i64 3, .int .i64 70, .slice (some ⟨ns, 0, none⟩) 3 3] 28 (0, 0)) :: blk ns (.cells #[.int .i64 0, .int .i64 1, .int .i64 2] 3 (0, 0)) :: blk nl (.cells #[.int .i64 0, .int .i64 R, .slice none 0 0] 28 (0, 0)) :: blk nc (.cells #[.int .i64 1, .int .i64 4, .int .i64 0, .int .i64 0, .int .i64 0, .int .i64 0, .int .i64 0, .int .i64 0] 49 (0, 0)) :: base W :: [])) (fun _ wl => (leftOf es (wl.iterSeen r)).size)
              case atStart => exact ⟨0, #[], clock, rfl, Nat.le_refl _, Mst.none es, H12.out⟩
              case round =>
                obtain ⟨a, seen, c0, rfl, hc0, HM, hRL⟩ := hrel
                rcases Sys.next (P := Try.prog) hRL HST.out hc0 with ⟨hall, hnx⟩ | ⟨e, he, hns, w', hnx, hs', hen, hdec⟩
                · have HRL := Lib.hid hRL
                  have HALL := Lib.hid hall
                  clear hRL hall
                  go_upto_region 36 with fail
                  have hf := Sys.blkMap (K := intKey) (x := FM OL2) HRL.out.tail HST.out HME.out
                  obtain ⟨hub, hat⟩ := HM.out.top HALL.out HME.out
                  obtain ⟨hlb, hlh⟩ := OFit.lens HT.out
                  have hav : a = t.hv := HO2.out.most HT.out HM.out.1 hub hat
                  have hk12 : OL2.length ≤ 12 := by have := HO2.out.2.2.2; omega
                  rw [hlb, hlh] at hf
                  have HF : Hid (Sys wr (upd (fun _ => emp) 0 (worldT p d X3)) (mapT intKey bf (FM OL2) :: blk nt (.cells #[.int .i64 t.view, .slice ya OL2.length yc, .slice za OL2.length zc, .int .i64 t.hv, .int .i64 t.hb, .slice xa t.hby.length xc] 30 (0, 0)) :: own 3 1 (.slice xa t.hby.length xc) t.hby.length (t.hby.map (Value.int .i64)) :: own 3 1 (.slice ya OL2.length yc) OL2.length (t.by_.map (Value.int .i64)) :: own 3 1 (.slice za OL2.length zc) OL2.length (t.highs.map (Value.int .i64)) :: tallyT q p cfg4 [] O2 :: blk nq (.cells #[.int .i64 qx.view, .int .i64 qx.block, .slice va vk vc] 28 (0, 0)) :: blk nh (.cells #[.int .i64 3, .int .i64 70, .slice (some ⟨ns, 0, none⟩) 3 3] 28 (0, 0)) :: blk ns (.cells #[.int .i64 0, .int .i64 1, .int .i64 2] 3 (0, 0)) :: blk nl (.cells #[.int .i64 0, .int .i64 R, .slice none 0 0] 28 (0, 0)) :: blk nc (.cells #[.int .i64 1, .int .i64 4, .int .i64 0, .int .i64 0, .int .i64 0, .int .i64 0, .int .i64 0, .int .i64 0] 49 (0, 0)) :: base W :: [])) := hf
                  have HTC := Lib.hid (cert_tcok cfg4 cfg4_good t ya za xa yc zc xc OL2.length t.hby.length hlb hlh rfl (by omega) (HO2.out.hbyLen HT.out) (fun x m' hs => own_ints_at (Sys.memOwn (E := 3) (size := 1) (v := .slice ya OL2.length yc) (n := OL2.length) (xs := t.by_.map (Value.int .i64)) hs (by simp)) rfl) (fun x m' hs => own_ints_at (Sys.memOwn (E := 3) (size := 1) (v := .slice za OL2.length zc) (n := OL2.length) (xs := t.highs.map (Value.int .i64)) hs (by simp)) rfl) (fun x m' hs => own_ints_at (Sys.memOwn (E := 3) (size := 1) (v := .slice xa t.hby.length xc) (n := t.hby.length) (xs := t.hby.map (Value.int .i64)) hs (by simp)) rfl) HF.out (upd_same _ _ _) HH3.out.1 HH3.out.2.1 (by have := HH3.out.2.2.2.1; omega))
                  rw [HO2.out.tc HH3.out HT.out H3L.out] at HTC
                  have HK := Lib.hid hk12
                  subst hav
                  have hbt := Sys.memBlk (n := nt) (o := .cells #[.int .i64 t.view, .slice ya OL2.length yc, .slice za OL2.length zc, .int .i64 t.hv, .int .i64 t.hb, .slice xa t.hby.length xc] 30 (0, 0)) hf (by simp)
                  have t3 : wr.cell? ⟨nt, 3, none⟩ = some (.int .i64 t.hv) := cell_of_blk hbt 3
                  have t0 : wr.cell? ⟨nt, 0, none⟩ = some (.int .i64 t.view) := cell_of_blk hbt 0
                  have t1 : wr.cell? ⟨nt, 1, none⟩ = some (.slice ya OL2.length yc) := cell_of_blk hbt 1
                  have t2 : wr.cell? ⟨nt, 2, none⟩ = some (.slice za OL2.length zc) := cell_of_blk hbt 2
                  have t4 : wr.cell? ⟨nt, 4, none⟩ = some (.int .i64 t.hb) := cell_of_blk hbt 4
                  have t5 : wr.cell? ⟨nt, 5, none⟩ = some (.slice xa t.hby.length xc) := cell_of_blk hbt 5
                  have hbc := Sys.memBlk (n := nc) (o := .cells #[.int .i64 1, .int .i64 4, .int .i64 0, .int .i64 0, .int .i64 0, .int .i64 0, .int .i64 0, .int .i64 0] 49 (0, 0)) hf (by simp)
                  have c0 : wr.cell? ⟨nc, 0, none⟩ = some (.int .i64 1) := cell_of_blk hbc 0
                  have c1 : wr.cell? ⟨nc, 1, none⟩ = some (.int .i64 4) := cell_of_blk hbc 1
                  have c2 : wr.cell? ⟨nc, 2, none⟩ = some (.int .i64 0) := cell_of_blk hbc 2
                  have c3 : wr.cell? ⟨nc, 3, none⟩ = some (.int .i64 0) := cell_of_blk hbc 3
                  have c4 : wr.cell? ⟨nc, 4, none⟩ = some (.int .i64 0) := cell_of_blk hbc 4
                  have c5 : wr.cell? ⟨nc, 5, none⟩ = some (.int .i64 0) := cell_of_blk hbc 5
                  have c6 : wr.cell? ⟨nc, 6, none⟩ = some (.int .i64 0) := cell_of_blk hbc 6
                  have c7 : wr.cell? ⟨nc, 7, none⟩ = some (.int .i64 0) := cell_of_blk hbc 7
                  clear hub hat hlb hlh hf hbt hbc HM HALL HRL HST HME hk12
                  go_wp2_with fail
                  refine HTC.out.mono ?_
                  rintro e wy ⟨rfl, XY, hE, hY⟩
                  rw [upd_upd] at hY
                  have HE := Lib.hid hE
                  have HY : Hid (Sys wy (upd (fun _ => emp) 0 (worldT p d XY)) (mapT intKey bf (FM OL2) :: blk nt (.cells #[.int .i64 t.view, .slice ya OL2.length yc, .slice za OL2.length zc, .int .i64 t.hv, .int .i64 t.hb, .slice xa t.hby.length xc] 30 (0, 0)) :: own 3 1 (.slice xa t.hby.length xc) t.hby.length (t.hby.map (Value.int .i64)) :: own 3 1 (.slice ya OL2.length yc) OL2.length (t.by_.map (Value.int .i64)) :: own 3 1 (.slice za OL2.length zc) OL2.length (t.highs.map (Value.int .i64)) :: tallyT q p cfg4 [] O2 :: blk nq (.cells #[.int .i64 qx.view, .int .i64 qx.block, .slice va vk vc] 28 (0, 0)) :: blk nh (.cells #[.int .i64 3, .int .i64 70, .slice (some ⟨ns, 0, none⟩) 3 3] 28 (0, 0)) :: blk ns (.cells #[.int .i64 0, .int .i64 1, .int .i64 2] 3 (0, 0)) :: blk nl (.cells #[.int .i64 0, .int .i64 R, .slice none 0 0] 28 (0, 0)) :: blk nc (.cells #[.int .i64 1, .int .i64 4, .int .i64 0, .int .i64 0, .int .i64 0, .int .i64 0, .int .i64 0, .int .i64 0] 49 (0, 0)) :: base W :: [])) := hY
                  clear t0 t1 t2 t3 t4 t5 c1 c2 c3 c4 c5 c6 c7 c0 HTC hE HF
                  have hbt := Sys.memBlk (n := nt) (o := .cells #[.int .i64 t.view, .slice ya OL2.length yc, .slice za OL2.length zc, .int .i64 t.hv, .int .i64 t.hb, .slice xa t.hby.length xc] 30 (0, 0)) hY (by simp)
                  have t1 : wy.cell? ⟨nt, 1, none⟩ = some (.slice ya OL2.length yc) := cell_of_blk hbt 1
                  have t2 : wy.cell? ⟨nt, 2, none⟩ = some (.slice za OL2.length zc) := cell_of_blk hbt 2
                  have e36 := (Sys.memMap (K := intKey) (b := bf) (x := FM OL2) hY (by simp)).len (P := Try.prog) (ty := 3) Try.underlying75
                  rw [show (FM OL2).length = OL2.length by simp [FM]] at e36
                  clear hY hbt
                  go_wp2_with fail
                  go_loopw [151] (fun i wl => ∃ j2 : Nat, j2 ≤ OL2.length ∧ i = .int .i64 j2 ∧ Sys wl (upd (fun _ => emp) 0 (worldT p d XY)) (mapT intKey bf (FM OL2) :: blk nt (.cells #[.int .i64 t.view, .slice ya OL2.length yc, .slice za OL2.length zc, .int .i64 t.hv, .int .i64 t.hb, .slice xa t.hby.length xc] 30 (0, 0)) :: own 3 1 (.slice xa t.hby.length xc) t.hby.length (t.hby.map (Value.int .i64)) :: own 3 1 (.slice ya OL2.length yc) OL2.length (t.by_.map (Value.int .i64)) :: own 3 1 (.slice za OL2.length zc) OL2.length (t.highs.map (Value.int .i64)) :: tallyT q p cfg4 [] O2 :: blk nq (.cells #[.int .i64 qx.view, .int .i64 qx.block, .slice va vk vc] 28 (0, 0)) :: blk nh (.cells #[.int .i64 3, .int .i64 70, .slice (some ⟨ns, 0, none⟩) 3 3] 28 (0, 0)) :: blk ns (.cells #[.int .i64 0, .int .i64 1, .int .i64 2] 3 (0, 0)) :: blk nl (.cells #[.int .i64 0, .int .i64 R, .slice none 0 0] 28 (0, 0)) :: blk nc (.cells #[.int .i64 1, .int .i64 4, .int .i64 0, .int .i64 0, .int .i64 0, .int .i64 0, .int .i64 0, .int .i64 0] 49 (0, 0)) :: base W :: [])) (fun i _ => OL2.length - (intOf i).toNat)
                  case atStart => exact ⟨0, by omega, rfl, HY.out⟩
                  case round =>
                    obtain ⟨j2, hj2, rfl, hR2⟩ := hrel
                    by_cases hlt2 : j2 < OL2.length
                    · have hjl2 : (j2 : Int) < (OL2.length : Int) := by omega
                      have hlw : IntKind.i64.wrap ((j2 : Int) + 1) = (j2 : Int) + 1 := by rw [IntKind.wrap_i64]; have := HK.out; omega
                      have HR2 := Lib.hid hR2
                      obtain ⟨vy, hvy⟩ : ∃ y, y = t.highs.getD j2 0 := ⟨_, rfl⟩
                      obtain ⟨vb, hvb⟩ : ∃ y, y = t.by_.getD j2 0 := ⟨_, rfl⟩
                      have hlk := HO2.out.look HT.out hlt2
                      rw [← hvy, ← hvb] at hlk
                      obtain ⟨hl1, hl2⟩ := OFit.lens HT.out
                      obtain ⟨by1, by2, rfl, hcb⟩ : ∃ b off, ya = some ⟨b, off, none⟩ ∧ wr.cell? ⟨b, off + j2, none⟩ = some (.int .i64 vb) := by
                        rcases own_ints_at (Sys.memOwn (E := 3) (size := 1) (v := .slice ya OL2.length yc) (n := OL2.length) (xs := t.by_.map (Value.int .i64)) hR2 (by simp)) rfl with h | ⟨b, off, e, h⟩
                        · rw [h] at hl1; simp at hl1; omega
                        · exact ⟨b, off, e, by rw [hvb]; exact h j2 (by omega)⟩
                      obtain ⟨hb1, hb2, rfl⟩ : ∃ b off, za = some ⟨b, off, none⟩ := by
                        rcases own_ints_at (Sys.memOwn (E := 3) (size := 1) (v := .slice za OL2.length zc) (n := OL2.length) (xs := t.highs.map (Value.int .i64)) hR2 (by simp)) rfl with h | ⟨b, off, e, h⟩
                        · rw [h] at hl2; simp at hl2; omega
                        · exact ⟨b, off, e⟩
                      have HLK := Lib.hid hlk
                      have HVY := Lib.hid hvy
                      have HL2 := Lib.hid hl2
                      clear hlk hvy hvb hl1 hl2 hR2
                      go_upto_region 41 with fail
                      refine wp_region_seq (fun x : World => Sys x (upd (fun _ => emp) 0 (worldT p d XY)) (mapT intKey bf (FM OL2) :: blk nt (.cells #[.int .i64 t.view, .slice (some ⟨by1, by2, none⟩) OL2.length yc, .slice (some ⟨hb1, hb2, none⟩) OL2.length zc, .int .i64 t.hv, .int .i64 t.hb, .slice xa t.hby.length xc] 30 (0, 0)) :: own 3 1 (.slice xa t.hby.length xc) t.hby.length (t.hby.map (Value.int .i64)) :: own 3 1 (.slice (some ⟨by1, by2, none⟩) OL2.length yc) OL2.length (t.by_.map (Value.int .i64)) :: own 3 1 (.slice (some ⟨hb1, hb2, none⟩) OL2.length zc) OL2.length (t.highs.map (Value.int .i64)) :: tallyT q p cfg4 [] O2 :: blk nq (.cells #[.int .i64 qx.view, .int .i64 qx.block, .slice va vk vc] 28 (0, 0)) :: blk nh (.cells #[.int .i64 3, .int .i64 70, .slice (some ⟨ns, 0, none⟩) 3 3] 28 (0, 0)) :: blk ns (.cells #[.int .i64 0, .int .i64 1, .int .i64 2] 3 (0, 0)) :: blk nl (.cells #[.int .i64 0, .int .i64 R, .slice none 0 0] 28 (0, 0)) :: blk nc (.cells #[.int .i64 1, .int .i64 4, .int .i64 0, .int .i64 0, .int .i64 0, .int .i64 0, .int .i64 0, .int .i64 0] 49 (0, 0)) :: base W :: [])) anyW [] [(0, 0, some 156), (1, 0, some 157), (2, 1, some 158), (3, 0, some 159), (4, 1, some 160), (5, 0, some 161), (6, 0, some 162), (7, 1, some 163), (8, 0, some 164)] (by kernel_rfl) (by kernel_rfl) (fun _ _ _ d _ h => by cases d <;> exact h) HR2.out.drew anyW.i ?_
                      repeat (first | (refine seqW (v := ?_) rfl (by rfl) (by kernel_rfl) ?_ ?_; rotate_left; focus ((intro x; go_simp); try (with_reducible rfl)); try simp only [Act.put, List.setIfInBounds_toArray, List.set_cons_zero, List.set_cons_succ]) | (refine seqS (v := ?_) rfl (by rfl) (by kernel_rfl) ?_ ?_; rotate_left; focus (intro x hS; have hbt := Sys.memBlk (n := nt) (o := .cells #[.int .i64 t.view, .slice (some ⟨by1, by2, none⟩) OL2.length yc, .slice (some ⟨hb1, hb2, none⟩) OL2.length zc, .int .i64 t.hv, .int .i64 t.hb, .slice xa t.hby.length xc] 30 (0, 0)) hS (by simp); have t2 : x.cell? ⟨nt, 2, none⟩ = some (.slice (some ⟨hb1, hb2, none⟩) OL2.length zc) := cell_of_blk hbt 2; have c2 : x.cell? ⟨hb1, hb2 + j2, none⟩ = some (.int .i64 vy) := (by rw [HVY.out]; exact IntsAt.get (own_ints_at (Sys.memOwn (E := 3) (size := 1) (v := .slice (some ⟨hb1, hb2, none⟩) OL2.length zc) (n := OL2.length) (xs := t.highs.map (Value.int .i64)) hS (by simp)) rfl) (by rw [HL2.out]; exact hlt2)); have el := (Sys.memMap (K := intKey) (b := bf) (x := FM OL2) hS (by simp)).lookup (P := Try.prog) Try.underlying75 Try.underlying3 (zeroI x) vb false; rw [HLK.out] at el; simp only [intKey, Option.getD] at el; clear hS hbt; go_simp; try (with_reducible rfl)); try simp only [Act.put, List.setIfInBounds_toArray, List.set_cons_zero, List.set_cons_succ]))
                      refine seqE ?_
                      (try simp only [Act.put, List.setIfInBounds_toArray, List.set_cons_zero, List.set_cons_succ])
                      go_wp2_with fail
                      go_roundw
                      case rel => exact ⟨j2 + 1, by omega, by go_num, HR2.out.drew⟩
                      case measure => simp [intOf]; omega
                    · obtain rfl : j2 = OL2.length := by omega
                      have HR2 := Lib.hid hR2
                      clear hR2
                      go_wp2_with fail
                      refine ⟨?_, ?mn⟩
                      · iterate 200 (first | apply Exists.intro | skip)
                        refine ⟨?rs, rfl⟩
                        case rs => exact ⟨j + 1, by omega, by omega, by go_num, XY, O2, OL2, (HH3.out.ext HE.out).mono (by have := HK.out; omega), HO2.out, ((HR2.out.swap.tail.swap.tail.swap.tail.swap.tail).front 2 rfl).tail⟩
                      · simp [intOf]; omega
                · obtain ⟨v, hval⟩ : ∃ v : Int, e.val = .int .i64 v := FM_val HME.out he
                  have HMP := Lib.hid (HM.out.push he hval HST.out)
                  have HD0 : Hid ((leftOf es (w'.iterSeen r)).size < (leftOf es (wr.iterSeen r)).size) := by
                    show _ < _
                    rw [seen_of hs'.getBlk, seen_of hRL.getBlk]; exact hdec
                  rw [hval] at hnx hen
                  have HS' := Lib.hid hs'
                  clear hRL hs' hdec he hns hval
                  by_cases hav : a < v
                  · have hm : max a v = v := by omega
                    have HM2 := Lib.hid hm
                    clear hm
                    go_wp2_with fail
                    all_goals
                      go_roundw
                      case rel => exact ⟨max a v, _, clock, by first | rfl | (rw [HM2.out]), Nat.le_refl _, HMP.out, HS'.out⟩
                      case measure => exact HD0.out
                  · have hm : max a v = a := by omega
                    have HM2 := Lib.hid hm
                    clear hm
                    go_wp2_with fail
                    all_goals
                      go_roundw
                      case rel => exact ⟨max a v, _, clock, by first | rfl | (rw [HM2.out]), Nat.le_refl _, HMP.out, HS'.out⟩
                      case measure => exact HD0.out
            · have hyf : yes = false := by rw [HYY.out]; simpa using h3
              subst hyf
              have hd : decide (3 ≤ (OL2.length : Int)) = false := by simpa using h3
              clear h3
              go_wp2_with fail
              refine ⟨?_, ?mm⟩
              · iterate 200 (first | apply Exists.intro | skip)
                refine ⟨?rr, rfl⟩
                case rr => exact ⟨j + 1, by omega, by omega, by go_num, X3, O2, OL2, HH3.out.mono (by omega), HO2.out, ((H10.out.tail.tail.tail.tail.front 1 rfl).tail).swap⟩
              · simp [intOf]; omega
          · have hj12 : ¬ (j : Int) < 12 := by omega
            clear hR
            go_wp2_with fail
            refine (tall_awake wr).mono ?_
            rintro e wz ⟨rfl, hB⟩
            have HZ := Lib.hid (HR.out.below hB)
            clear hB
            go_wp2_with fail
            go_ret
            exact ⟨rfl, Sys.memBase (W := W) HZ.out (by simp)⟩
        · have hjl : ¬ (j : Int) < (len0 : Int) := by omega
          clear hR
          go_wp2_with fail
          refine (tall_awake wr).mono ?_
          rintro e wz ⟨rfl, hB⟩
          have HZ := Lib.hid (HR.out.below hB)
          clear hB
          go_wp2_with fail
          go_ret
          exact ⟨rfl, Sys.memBase (W := W) HZ.out (by simp)⟩
end tallHighs
end Go.Proofs.Ytcfhkpjheemkgaa
