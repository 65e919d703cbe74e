/-
  What stands on a way is not laid again on it: tolseylaw22.PropFresh.
-/
import Derived.Test.YtcfhkpjheemkgaaGreatFreshLaw
import Derived.Deep.DeepCutAuto
namespace Go.Proofs.YtcfhkpjheemkgaaGreat.propFresh
set_option linter.unusedSectionVars false
set_option linter.unnecessarySimpa false
set_option linter.unusedSimpArgs false
set_option linter.unusedVariables false
open Go.RowKit Go.MapKept

set_option maxRecDepth 100000 in
set_option maxHeartbeats 8000000 in
theorem walkT (W : World) (a0 : Int) (_ : (Lit.int .i64 a0).wf = true) (on fix : Bool) (a3 : Int) (_ : (Lit.int .i64 a3).wf = true) (hfx : fix = true) :
    Calls Tryz.prog 4 #[.int .i64 a0, .bool on, .bool fix, .int .i64 a3] W fun e w' => e = .returned (.bool true) ∧ Below W.heap.size W w' := by
  have HFX := Lib.hid hfx
  clear hfx
  obtain ⟨z0, hz0⟩ : ∃ x, bits BinOp.and IntKind.i64 a3 7 = x := ⟨_, rfl⟩
  have hzr : 0 ≤ z0 ∧ z0 ≤ 7 := by rw [i64_and7] at hz0; omega
  obtain ⟨K, hK⟩ : ∃ K : Nat, (K : Int) = z0 + 1 := ⟨(z0 + 1).toNat, by omega⟩
  have e4 : IntKind.i64.wrap (z0 + 1) = (K : Int) := by rw [IntKind.wrap_i64]; omega
  have HK : Hid (1 ≤ K ∧ K ≤ 8) := by show _ ∧ _; omega
  have E4 := Lib.hid e4
  have Z4 := Lib.hid hz0
  obtain ⟨q, hq⟩ : ∃ q, q = qI a0 := ⟨_, rfl⟩
  have HQ := Lib.hid hq
  clear hzr hK hq e4 hz0
  go_enter Tryz.func4, Tryz.ntmps4
  go_wp2_with fail
  refine (world_new 1 (Sys.start W)).mono ?_
  rintro e w1 ⟨p, d, rfl, h⟩
  have h1 := h.putN 0 rfl
  rw [five_] at h1
  change Sys w1 (five (worldT p d A0) emp emp emp emp) [base W] at h1
  have H1 := Lib.hid h1
  clear h h1
  go_wp2_with fail
  refine (ledg_new 8 (by decide) H1.out).mono ?_
  rintro e w2 ⟨pl, rfl, h⟩
  have h1 := h.putN 4 rfl
  rw [five4] at h1
  have H2 := Lib.hid h1
  clear h h1 H1
  go_wp2_with fail
  refine (tree_new H2.out rfl (by have := aw_len.1; omega)).mono ?_
  rintro e w3 ⟨pt, rfl, h⟩
  rw [five0, aw_root] at h
  have h1 := h.putN 1 rfl
  rw [five1] at h1
  change Sys w3 (five (worldT p d A1) (treeT pt p 1 [(1, zeroBlk)]) emp emp (ledgT pl 8)) [base W] at h1
  have H3 := Lib.hid h1
  clear h h1 H2
  go_wp2_with fail
  refine (clog_new H3.out rfl).mono ?_
  rintro e w4 ⟨pg, rfl, h⟩
  have h1 := h.putN 2 rfl
  rw [five2] at h1
  have H4 := Lib.hid h1
  clear h h1 H3
  go_wp2_with fail
  refine (pool_new 10 H4.out).mono ?_
  rintro e w5 ⟨pp, rfl, h⟩
  have h1 := h.putN 3 rfl
  rw [five3] at h1
  have h2 := h1.push (F := fun _ => False) (t := own 55 4 (.slice none 0 0) 0 []) (Chg.refl _ _) ⟨Own.nil _ _ _, by funext k; simp [Value.ownBlock]⟩ (fun _ h => h.elim)
  have h3 := h2.push (F := fun _ => False) (t := own 55 4 (.slice none 0 0) 0 []) (Chg.refl _ _) ⟨Own.nil _ _ _, by funext k; simp [Value.ownBlock]⟩ (fun _ h => h.elim)
  have H5 := Lib.hid h3
  clear h h1 h2 h3 H4
  go_wp2_with fail
  go_loopw [14, 15, 16] (fun fv nv i wr => ∃ (j : Nat) (fa na : Option Addr) (fc nc : Nat), j ≤ 8 ∧ i = .int .i64 j ∧ fv = .slice fa (fewL j).length fc ∧ nv = .slice na ((fewL j).filter q).length nc ∧ Sys wr (five (worldT p d (FX j)) (treeT pt p 1 [(1, zeroBlk)]) (logT pg p pt 1 [] []) (poolT pp p (imin (imax 10 0) 1000) (fewL j)) (ledgT pl 8)) (own 55 4 (.slice fa (fewL j).length fc) (fewL j).length (flatE (fewL j)) :: own 55 4 (.slice na ((fewL j).filter q).length nc) ((fewL j).filter q).length (flatE ((fewL j).filter q)) :: [base W])) (fun _ _ i _ => 8 - (intOf i).toNat)
  case atStart => exact ⟨0, none, none, 0, 0, by omega, rfl, rfl, rfl, H5.out⟩
  case round =>
    obtain ⟨j, fa, na, fc, nc, hj, rfl, rfl, rfl, hR⟩ := hrel
    by_cases hlt : j < 8
    · have hjl : (j : Int) < 8 := by omega
      have hjw : IntKind.i64.wrap ((j : Int) + 1) = (j : Int) + 1 := by rw [IntKind.wrap_i64]; omega
      have HR := Lib.hid hR
      have HLT := Lib.hid hlt
      clear hR hj
      go_wp2_with fail
      refine (world_make (j : Int) 0 1 none [] 0 (by omega) (by decide) HR.out rfl (by rw [fx_c]; omega) (by have := fx_len j (by omega); omega) (.inl rfl) (fun _ => rfl) (by decide)).mono ?_
      rintro e w6 ⟨he, h⟩
      rw [fx_c] at he
      obtain rfl : e = .returned (.agg #[.int .i64 (j : Int), .int .u64 0, .int .u64 1, .int .i64 ((j : Int) + 1)]) := he
      rw [fx_c, five0] at h
      change Sys w6 (five (worldT p d ((FX j).made (eF j) [])) (treeT pt p 1 [(1, zeroBlk)]) (logT pg p pt 1 [] []) (poolT pp p (imin (imax 10 0) 1000) (fewL j)) (ledgT pl 8)) (own 55 4 (.slice fa (fewL j).length fc) (fewL j).length (flatE (fewL j)) :: own 55 4 (.slice na ((fewL j).filter q).length nc) ((fewL j).filter q).length (flatE ((fewL j).filter q)) :: [base W]) at h
      obtain ⟨ne, x6, EN6, EX6, ES6, H6⟩ := Sys.box h (.cells #[.int .i64 (j : Int), .int .u64 0, .int .u64 1, .int .i64 ((j : Int) + 1)] 55 (0, 0))
      clear h
      go_upto_region 13 with fail
      rw [EX6.out, EN6.out]
      have hbe := H6.out.nth 0 rfl
      go_wp2_with (refine wpList_load_row rfl 55 _ rfl ne rfl _ _ _ _ hbe Tryz.underlying55 rfl size4 ?_)
      refine (pool_add (e := eF j) (n := 8) (L := fewL j) (eF_wf j HLT.out) (by show 0 ≤ (j : Int) ∧ (j : Int) ≤ 999; omega) (by rw [fewL_length]; show (j : Int) < 10; omega) (by rw [fewL_length]; omega) (fx_fee j HLT.out) (fx_sum j HLT.out) (by decide) H6.out rfl rfl rfl (by have := fx_len2 j HLT.out; exact Nat.le_trans this (by decide))).mono ?_
      rintro e w7 ⟨he, h⟩
      have HAD : addCode _ (fewL j) 8 (eF j) = 0 := fx_add j HLT.out
      rw [HAD] at he
      subst he
      rw [HAD, if_pos rfl, five0, five3] at h
      have h7 : Sys w7 (five (worldT p d (FX (j + 1))) (treeT pt p 1 [(1, zeroBlk)]) (logT pg p pt 1 [] []) (poolT pp p (imin (imax 10 0) 1000) (fewL (j + 1))) (ledgT pl 8)) (blk ne (.cells #[.int .i64 (j : Int), .int .u64 0, .int .u64 1, .int .i64 ((j : Int) + 1)] 55 (0, 0)) :: own 55 4 (.slice fa (fewL j).length fc) (fewL j).length (flatE (fewL j)) :: own 55 4 (.slice na ((fewL j).filter q).length nc) ((fewL j).filter q).length (flatE ((fewL j).filter q)) :: [base W]) := by rw [fewL_snoc]; exact h
      have h8 := h7.alloc (.cells #[.int .i64 (j : Int), .int .u64 0, .int .u64 1, .int .i64 ((j : Int) + 1)] 55 (0, 0)) rfl
      obtain ⟨v9, z9, hap, h9⟩ := (h8.front 2 rfl).appEnvs (k := 1) (some ⟨w7.heap.size, 0, none⟩) 1 [eF j] rfl (EnvsAt.one (e := eF j) h8.getBlk) (by rw [fewL_length]; omega) 39
      obtain ⟨fa9, k9, fc9, rfl, hk9⟩ := h9.getOwn.slice
      obtain rfl := hk9.out
      have hl9 : (fewL j).length + 1 = (fewL (j + 1)).length := by rw [fewL_length, fewL_length]
      rw [← fewL_snoc, hl9] at h9
      rw [hl9] at hap
      have H9 := Lib.hid h9
      have hbe := h7.getBlk
      clear h h7 h8 h9 hk9 hl9 HAD
      go_upto_region 16 with (first | (refine wpList_load_row rfl 55 _ rfl ne rfl _ _ _ _ hbe Tryz.underlying55 rfl size4 ?_) | (at_builtin; refine wpl_append rfl _ _ _ rfl rfl rfl hap ?_))
      clear hap hbe
      go_upto_if 79 with fail
      rw [← qI_at a0 j, ← HQ.out]
      have HFS := Lib.hid (filt_snoc q j)
      cases hqj : q (eF j) with
      | false =>
        rw [hqj] at HFS
        simp only [Bool.false_eq_true, if_false, List.append_nil] at HFS
        have H10 := Lib.hid ((H9.out.drop 1 rfl).drop 1 rfl)
        rw [← HFS.out] at H10 ⊢
        clear hqj H9 H6 HR
        go_wp2_with fail
        go_roundw
        case rel => exact ⟨j + 1, fa9, na, fc9, nc, by have := HLT.out; omega, by go_num, rfl, rfl, H10.out⟩
        case measure => simp [intOf]; have := HLT.out; omega
      | true =>
        rw [hqj] at HFS
        simp only [if_true] at HFS
        have h10 := H9.out.alloc (.cells #[.int .i64 (j : Int), .int .u64 0, .int .u64 1, .int .i64 ((j : Int) + 1)] 55 (0, 0)) rfl
        obtain ⟨v8, z8, hap, h8⟩ := (h10.front 4 rfl).appEnvs (k := 1) (some ⟨z9.heap.size, 0, none⟩) 1 [eF j] rfl (EnvsAt.one (e := eF j) h10.getBlk) (by have h := List.length_filter_le q (fewL j); rw [fewL_length] at h; have := HLT.out; omega) 39
        obtain ⟨na8, k8, nc8, rfl, hk8⟩ := h8.getOwn.slice
        obtain rfl := hk8.out
        have hl8 : ((fewL j).filter q).length + 1 = ((fewL (j + 1)).filter q).length := by rw [HFS.out, List.length_append]; rfl
        rw [← HFS.out, hl8] at h8
        rw [hl8] at hap
        have H10 := Lib.hid ((((h8.drop 1 rfl).drop 2 rfl).drop 2 rfl).swap)
        have hbe := H9.out.nth 2 rfl
        clear h10 h8 hk8 hl8 hqj H6 HR
        go_wp2_with (first | (refine wpList_load_row rfl 55 _ rfl ne rfl _ _ _ _ hbe Tryz.underlying55 rfl size4 ?_) | (at_builtin; refine wpl_append rfl _ _ _ rfl rfl rfl hap ?_))
        clear hap hbe H9
        go_roundw
        case rel => exact ⟨j + 1, fa9, na8, fc9, nc8, by have := HLT.out; omega, by go_num, rfl, rfl, H10.out⟩
        case measure => simp [intOf]; have := HLT.out; omega
    · obtain rfl : j = 8 := by omega
      have H6 := Lib.hid hR
      clear hR hlt hj H5
      go_wp2_with fail
      refine (cert_root H6.out rfl (by have := fx_len 8 (by omega); omega)).mono ?_
      rintro e w6 ⟨he, h⟩
      rw [x9_root] at he
      subst he
      rw [five0] at h
      change Sys w6 (five (worldT p d X9) (treeT pt p 1 [(1, zeroBlk)]) (logT pg p pt 1 [] []) (poolT pp p (imin (imax 10 0) 1000) (fewL 8)) (ledgT pl 8)) (own 55 4 (.slice fa (fewL 8).length fc) (fewL 8).length (flatE (fewL 8)) :: own 55 4 (.slice na ((fewL 8).filter q).length nc) ((fewL 8).filter q).length (flatE ((fewL 8).filter q)) :: [base W]) at h
      have H7 := Lib.hid h
      clear h H6
      go_wp2_with fail
      refine (tree_add (bA1 q) none 0 na nc (fun y m' hs => ⟨_, _, rfl, SliceIn.nil _ _, hs.tail.getOwn.sliceIn (Nat.le_trans (ins_len q) (by decide)) (fun _ _ => trivial)⟩) (fun e he => (ins_in he).2) H7.out rfl rfl (by rw [x9_len]; omega)).mono ?_
      intro e w8 h
      unfold AddTo at h
      rw [if_neg (by rw [fr_t1]; simp), if_neg (by rw [fr_t2]; simp), if_neg (by rw [fr_t3]; simp), fr_D1, five0, five1] at h
      obtain ⟨rfl, h⟩ := h
      change Sys w8 (five (worldT p d (X10 q)) (treeT pt p 1 (TF1 q)) (logT pg p pt 1 [] []) (poolT pp p (imin (imax 10 0) 1000) (fewL 8)) (ledgT pl 8)) (own 55 4 (.slice fa (fewL 8).length fc) (fewL 8).length (flatE (fewL 8)) :: own 55 4 (.slice na ((fewL 8).filter q).length nc) ((fewL 8).filter q).length (flatE ((fewL 8).filter q)) :: [base W]) at h
      have H8 := Lib.hid h
      clear h H7
      go_wp2_with fail
      refine (tree_add bB1 none 0 none 0 (fun y m' hs => ⟨_, _, rfl, SliceIn.nil _ _, SliceIn.nil _ _⟩) (fun e he => by cases he) H8.out rfl rfl (by have := x10_len q; omega)).mono ?_
      intro e w9 h
      unfold AddTo at h
      rw [if_neg (by rw [fr_u1]; simp), if_neg (by rw [fr_u2]; simp), if_neg (by rw [fr_u3]; simp), fr_D2, five0, five1] at h
      obtain ⟨rfl, h⟩ := h
      change Sys w9 (five (worldT p d (X11 q)) (treeT pt p 1 (TF q)) (logT pg p pt 1 [] []) (poolT pp p (imin (imax 10 0) 1000) (fewL 8)) (ledgT pl 8)) (own 55 4 (.slice fa (fewL 8).length fc) (fewL 8).length (flatE (fewL 8)) :: own 55 4 (.slice na ((fewL 8).filter q).length nc) ((fewL 8).filter q).length (flatE ((fewL 8).filter q)) :: [base W]) at h
      obtain ⟨nh, x9, EN9, EX9, ES9, H9⟩ := Sys.box h (.cells #[.int .i64 2, .int .i64 11, .slice none 0 0] 34 (0, 0))
      clear h H8
      have e4 := E4.out
      have hz0 := Z4.out
      go_upto_region 25 with fail
      rw [EX9.out, EN9.out]
      clear e4 hz0
      go_upto_if 114 with fail
      go_cut [] (fun wx => Sys wx (five (worldT p d (X11 q)) (treeT pt p 1 (TF q)) (logT pg p pt 1 [] []) (poolT pp p (imin (imax 10 0) 1000) (fewL 8)) (ledgT pl 8)) (blk nh (.cells #[.int .i64 (hvF on), .int .i64 (hbF on), .slice none 0 0] 34 (0, 0)) :: own 55 4 (.slice fa (fewL 8).length fc) (fewL 8).length (flatE (fewL 8)) :: own 55 4 (.slice na ((fewL 8).filter q).length nc) ((fewL 8).filter q).length (flatE ((fewL 8).filter q)) :: [base W]))
      case first =>
        cases on
        · go_wp2_with fail
          go_meet
          case rel => exact H9.out
        · have hbh := H9.out.nth 0 rfl
          have hzz := setRow_heap x9 nh _ #[.int .i64 1, .int .i64 10, .slice none 0 0] _ _ hbh
          have H10 := Lib.hid (H9.out.store ((Chg.refl (· = nh) x9).row #[.int .i64 1, .int .i64 10, .slice none 0 0]) hzz)
          go_wp2_with (refine wpList_store_row rfl 34 _ _ rfl nh #[.int .i64 1, .int .i64 10, .slice none 0 0] rfl rfl _ _ hbh size3 rfl (by simp [Value.oneCell']) ?_)
          go_meet
          case rel => exact H10.out
      case rest =>
        have H10 := Lib.hid hcut
        clear hcut H9
        go_upto_if 117 with fail
        go_cut [] (fun wx => ∃ L1 I1, Sys wx (five (worldT p d (X11 q)) (treeT pt p 1 (TF q)) (logT pg p pt (tipF on fix) L1 I1) (poolT pp p (imin (imax 10 0) 1000) (fewL 8)) (ledgT pl 8)) (blk nh (.cells #[.int .i64 (hvF on), .int .i64 (hbF on), .slice none 0 0] 34 (0, 0)) :: own 55 4 (.slice fa (fewL 8).length fc) (fewL 8).length (flatE (fewL 8)) :: own 55 4 (.slice na ((fewL 8).filter q).length nc) ((fewL 8).filter q).length (flatE ((fewL 8).filter q)) :: [base W]))
        case first =>
          cases fix
          · go_wp2_with fail
            go_meet
            case rel => exact ⟨_, _, H10.out⟩
          · obtain ⟨q0, q1, q2⟩ := cells3 (H10.out.nth 0 rfl)
            go_wp2_with fail
            refine (clog_commit_on (hbF on) [hbF on] true (tf_inv q) (tf_view q) (tf_in q) (by have := x11_len q; omega) (back_no q on) (by rw [path_on]; rfl) (by rw [path_on]; rfl) (by show 1 ≤ 100000; omega) (by have := commit_len q on; show 0 + _ ≤ _; omega) rfl rfl rfl H10.out).mono ?_
            rintro e w11 ⟨rfl, h⟩
            rw [five2] at h
            have H11 := Lib.hid h
            clear h q0 q1 q2
            go_wp2_with fail
            go_meet
            case rel => exact ⟨_, _, H11.out⟩
        case rest =>
          obtain ⟨L1, I1, h⟩ := hcut
          have H11 := Lib.hid h
          clear h H10
          clear E4 Z4
          cases fix
          · cases HFX.out
          · go_upto_if 125 with fail
            go_cut [] (fun wx => Sys wx (five (worldT p d (X11 q)) (treeT pt p 1 (TF q)) (logT pg p pt (tipF on true) L1 I1) (poolT pp p (imin (imax 10 0) 1000) (lpF q on true)) (ledgT pl 8)) (blk nh (.cells #[.int .i64 (hvF on), .int .i64 (hbF on), .slice none 0 0] 34 (0, 0)) :: own 55 4 (.slice fa (fewL 8).length fc) (fewL 8).length (flatE (fewL 8)) :: own 55 4 (.slice na ((fewL 8).filter q).length nc) ((fewL 8).filter q).length (flatE ((fewL 8).filter q)) :: [base W]))
            case first =>
              cases on
              · go_wp2_with fail
                go_meet
                case rel => exact H11.out
              · have h1 := H11.out.push (F := fun _ => False) (t := own 3 1 (.slice none 0 0) 0 []) (Chg.refl _ _) ⟨Own.nil _ _ _, by funext k; simp [Value.ownBlock]⟩ (fun _ h => h.elim)
                have H12 := Lib.hid h1
                obtain ⟨E, hE⟩ : ∃ E, E = (fewL 8).filter q := ⟨_, rfl⟩
                obtain ⟨ne, hne⟩ : ∃ n, n = E.length := ⟨_, rfl⟩
                have HIE : Hid (∀ e ∈ E, envB e ∈ (X11 q).T ∧ e.wf) := by rw [hE]; exact fun e he => few_in11 (List.mem_filter.1 he).1
                have HLE : Hid (E.length = ne) := hne.symm
                have HNE : Hid (ne ≤ 8) := by show _ ≤ _; rw [hne, hE]; exact ins_len q
                have HEE : Hid (E = insV q) := hE
                rw [← hE, ← hne] at H12 ⊢
                clear h1 hE hne
                go_wp2_with fail
                go_loopw [24, 128] (fun dv i wr => ∃ j : Nat, j ≤ ne ∧ i = .int .i64 j ∧ Sys wr (five (worldT p d (X11 q)) (treeT pt p 1 (TF q)) (logT pg p pt (tipF true true) L1 I1) (poolT pp p (imin (imax 10 0) 1000) (fewL 8)) (ledgT pl 8)) (own 3 1 dv (dsOf (X11 q) (E.take j)).length ((dsOf (X11 q) (E.take j)).map (Value.int .i64)) :: blk nh (.cells #[.int .i64 (hvF true), .int .i64 (hbF true), .slice none 0 0] 34 (0, 0)) :: own 55 4 (.slice fa (fewL 8).length fc) (fewL 8).length (flatE (fewL 8)) :: own 55 4 (.slice na ne nc) ne (flatE E) :: [base W])) (fun _ i _ => ne - (intOf i).toNat)
                case atStart => exact ⟨0, by omega, rfl, by rw [List.take_zero]; exact H12.out⟩
                case round =>
                  obtain ⟨j, hj, rfl, hR⟩ := hrel
                  by_cases hlt : j < ne
                  · have hjl : (j : Int) < (ne : Int) := by omega
                    have hjw : IntKind.i64.wrap ((j : Int) + 1) = (j : Int) + 1 := by rw [IntKind.wrap_i64]; have := HNE.out; omega
                    obtain ⟨⟨ec, en, ef, ei⟩, he⟩ : ∃ e, e = E.getD j default := ⟨_, rfl⟩
                    have hel : j < E.length := by rw [HLE.out]; exact hlt
                    have hat : EnvsAt wr na E := (hR.front 3 rfl).getOwn.envsAt
                    obtain ⟨eb, eo, rfl⟩ := hat.some_ hel
                    have hce := hat.get hel
                    rw [← he] at hce
                    have HCE : Hid (∀ (k : Nat) (u : Value), ([.int .i64 ec, .int .u64 en, .int .u64 ef, .int .i64 ei] : List Value)[k]? = some u → wr.cell? ⟨eb, eo + j * 4 + k, none⟩ = some u) := hce
                    have hmem : E.getD j default ∈ E := by rw [List.getD_eq_getElem?_getD, List.getElem?_eq_getElem hel]; exact List.getElem_mem hel
                    have hie := HIE.out _ hmem
                    rw [← he] at hie
                    have HIEE := Lib.hid hie
                    have HTK : Hid (E.take (j + 1) = E.take j ++ [⟨ec, en, ef, ei⟩]) := by
                      show _ = _
                      rw [he, List.take_succ_eq_append_getElem hel, List.getD_eq_getElem?_getD, List.getElem?_eq_getElem hel]; rfl
                    have HSAME := Lib.hid (same_dig (X11 q) hie.1)
                    obtain ⟨nx, y1, EN3, EX3, ES3, H5⟩ := hR.box (.cells #[.int .i64 ec, .int .u64 en, .int .u64 ef, .int .i64 ei] 55 (0, 0))
                    clear hat hce he hR hmem hie
                    go_upto_region 34 with (refine wpList_load_at rfl 55 _ rfl eb (eo + j * 4) rfl [.int .i64 ec, .int .u64 en, .int .u64 ef, .int .i64 ei] _ HCE.out Tryz.underlying55 rfl size4 ?_)
                    rw [EX3.out, EN3.out]
                    have hbe := H5.out.nth 0 rfl
                    go_wp2_with (refine wpList_load_row rfl 55 _ rfl nx rfl _ _ _ _ hbe Tryz.underlying55 rfl size4 ?_)
                    refine (world_digest ⟨ec, en, ef, ei⟩ HIEE.out.2 H5.out rfl (by have := x11_len q; omega)).mono ?_
                    rintro z y2 ⟨rfl, h⟩
                    rw [HSAME.out, five0] at h
                    obtain ⟨dj, hdj⟩ : ∃ x, x = dg (X11 q).T (envB ⟨ec, en, ef, ei⟩) := ⟨_, rfl⟩
                    rw [← hdj]
                    have h4 := h.alloc (.cells #[.int .i64 dj] 3 (0, 0)) rfl
                    obtain ⟨v5, y3, hap5, hs5⟩ := (h4.front 2 rfl).appInts (k := 1) (some ⟨y2.heap.size, 0, none⟩) 1 [dj] rfl (ints_const (t := [dj]) h4.getBlk) (by have := HNE.out; simp only [dsOf, List.length_map, List.length_take]; omega) 32
                    have e2 : dsOf (X11 q) (E.take (j + 1)) = dsOf (X11 q) (E.take j) ++ [dj] := by rw [HTK.out, hdj]; simp [dsOf]
                    have e3 : (dsOf (X11 q) (E.take j)).length + 1 = (dsOf (X11 q) (E.take (j + 1))).length := by rw [e2, List.length_append]; rfl
                    rw [← e2, e3] at hs5
                    have HS5 := Lib.hid ((hs5.drop 1 rfl).drop 1 rfl)
                    clear h h4 hs5 e2 e3 hbe hdj
                    go_wp2_with (at_builtin; refine wpl_append rfl _ _ _ rfl rfl rfl hap5 ?_)
                    clear hap5
                    go_roundw
                    case rel => exact ⟨j + 1, by omega, by go_num, HS5.out⟩
                    case measure => simp [intOf]; omega
                  · obtain rfl : j = ne := by omega
                    rw [show E.take j = E from by rw [← HLE.out, List.take_length]] at hR
                    obtain ⟨da, dk, dc, rfl, hdk⟩ := hR.getOwn.slice
                    obtain rfl := hdk.out
                    obtain ⟨nd, hnd⟩ : ∃ n, n = (dsOf (X11 q) E).length := ⟨_, rfl⟩
                    have HND : Hid ((dsOf (X11 q) (insV q)).length = nd) := by show _ = _; rw [← HEE.out]; exact hnd.symm
                    rw [← hnd] at hR ⊢
                    rw [HEE.out] at hR
                    have HND2 : Hid (nd ≤ 1000000) := by show _ ≤ _; rw [← HND.out]; simp only [dsOf, List.length_map]; have := ins_len q; omega
                    have HR := Lib.hid hR
                    clear hR hlt hj hdk hnd
                    go_wp2_with fail
                    refine (pool_drop (X := X11 q) (L := fewL 8) (dsOf (X11 q) (insV q)) da nd dc HND.out HND2.out (fun y m' hs => hs.getOwn.intsAt) (fun e he => (few_in11 (q := q) he).2) (fun e he => (few_in11 (q := q) he).1) (by rw [fewL_length]; omega) (by have := x11_len q; omega) rfl rfl HR.out).mono ?_
                    rintro z y4 ⟨rfl, h⟩
                    rw [five3, drop_F, ← lp_tt] at h
                    have H14 := Lib.hid h.tail
                    clear h
                    go_wp2_with fail
                    have HE2 : E = (fewL 8).filter q := HEE.out
                    have hj2 : j = ((fewL 8).filter q).length := by rw [← HE2, HLE.out]
                    try rw [HE2] at H14
                    rw [hj2] at H14 ⊢
                    go_meet
                    case rel => exact H14.out
            case rest =>
              have H12 := Lib.hid hcut
              clear hcut H11
              obtain ⟨fb, fo, hfa⟩ := (H12.out.front 1 rfl).getOwn.envsAt.some_ (i := 0) (by decide)
              subst hfa
              have hbh := H12.out.nth 0 rfl
              go_wp2_with (refine wpList_load_row rfl 34 _ rfl nh rfl _ _ _ _ hbh Tryz.underlying34 rfl size3 ?_)
              refine (prop_make_yes (X := X11 q) (LP := lpF q on true) (c := cF K) (who := 3) (view := 3) (hv := hvF on) (hb := hbF on) (ha := none) (hc := 0) (HY := []) (cF_good K) (by decide) (by decide) (fr_make q on K) (fun y m' hs => SliceIn.nil _ _) (tf_inv q) (tf_in q) (by rw [skip_F]; exact skF_len q on true) (by rw [skip_F]; exact skF_len2 q on true) (fun e he => (few_in11 (q := q) (lp_mem he)).2) (fun e he => (few_in11 (q := q) (lp_mem he)).1) (lp_len q on true) (by show (K : Int) ≤ 1000000; have := HK.out; omega) (by have := x11_len q; omega) rfl rfl rfl rfl H12.out).mono ?_
              rintro e w13 ⟨ua, uc, va, vc, he, h⟩
              rw [show (cF K).bt = (K : Int) from rfl, pack_F, Int.toNat_natCast] at he h
              obtain ⟨BL, hBL⟩ : ∃ B, B = (wantF q on 8).take K := ⟨_, rfl⟩
              rw [← hBL, five0] at h
              rw [← hBL] at he
              obtain ⟨nl, hnl⟩ : ∃ n, n = BL.length := ⟨_, rfl⟩
              replace he : e = .returned (.tuple #[.agg #[.int .i64 3, .int .i64 3, .int .i64 (hvF on), .int .i64 (hbF on), .slice ua 0 uc, .slice va nl vc], .bool true]) := by rw [he, hnl]; rfl
              subst he
              obtain ⟨nb, x13, EN13, EX13, ES13, H13⟩ := Sys.box h (.cells #[.int .i64 3, .int .i64 3, .int .i64 (hvF on), .int .i64 (hbF on), .slice ua 0 uc, .slice va nl vc] 41 (0, 0))
              have HBL := Lib.hid hBL
              have HNL := Lib.hid hnl
              have hNL8 : nl ≤ 8 := by
                have h1 : ((wantF q on 8).take K).length ≤ (wantF q on 8).length := by rw [List.length_take]; exact Nat.min_le_right _ _
                have h2 : (wantF q on 8).length ≤ (fewL 8).length := List.length_filter_le _ _
                rw [fewL_length] at h2
                rw [hnl, hBL]
                omega
              have HNL8 := Lib.hid hNL8
              have h14 := H13.out.push (F := fun _ => False) (t := own 55 4 (.slice none 0 0) 0 []) (Chg.refl _ _) ⟨Own.nil _ _ _, by funext k; simp [Value.ownBlock]⟩ (fun _ h => h.elim)
              obtain ⟨SGN, hSG⟩ : ∃ s, s = signBlk (X11 q) ⟨3, 3, hvF on, hbF on, [], BL⟩ := ⟨_, rfl⟩
              rw [← hSG] at h14
              have H14 := Lib.hid h14
              clear h hBL hnl hNL8 h14 hSG H12 hbh
              go_upto_region 38 with fail
              rw [EX13.out, EN13.out]
              clear H13
              go_wp2_with fail
              go_loopw [29, 155] (fun gv i wr => ∃ (j : Nat) (L : List EnvX) (wa : Option Addr) (wc : Nat), j ≤ 8 ∧ i = .int .i64 j ∧ gv = .slice wa L.length wc ∧ Hid (L = (wantF q on j).take K) ∧ Sys wr (five (worldT p d SGN) (treeT pt p 1 (TF q)) (logT pg p pt (tipF on true) L1 I1) (poolT pp p (imin (imax 10 0) 1000) (lpF q on true)) (ledgT pl 8)) (own 55 4 (.slice wa L.length wc) L.length (flatE L) :: blk nb (.cells #[.int .i64 3, .int .i64 3, .int .i64 (hvF on), .int .i64 (hbF on), .slice ua 0 uc, .slice va nl vc] 41 (0, 0)) :: blkT (bval ⟨3, 3, hvF on, hbF on, [], BL⟩ ua uc va vc) ⟨3, 3, hvF on, hbF on, [], BL⟩ :: blk nh (.cells #[.int .i64 (hvF on), .int .i64 (hbF on), .slice none 0 0] 34 (0, 0)) :: own 55 4 (.slice (some ⟨fb, fo, none⟩) (fewL 8).length fc) (fewL 8).length (flatE (fewL 8)) :: own 55 4 (.slice na ((fewL 8).filter q).length nc) ((fewL 8).filter q).length (flatE ((fewL 8).filter q)) :: [base W])) (fun _ i _ => 8 - (intOf i).toNat)
              case atStart => exact ⟨0, [], none, 0, by omega, rfl, rfl, by show _ = _; simp [wantF, fewL], H14.out⟩
              case round =>
                obtain ⟨j, L, wa, wc, hj, rfl, rfl, HL, hR⟩ := hrel
                by_cases hlt : j < 8
                · have hjl : (j : Int) < (((fewL 8).length : Nat) : Int) := by rw [fewL_length]; omega
                  have hjw : IntKind.i64.wrap ((j : Int) + 1) = (j : Int) + 1 := by rw [IntKind.wrap_i64]; omega
                  have hel : j < (fewL 8).length := by rw [fewL_length]; exact hlt
                  have hat : EnvsAt wr (some ⟨fb, fo, none⟩) (fewL 8) := (hR.front 4 rfl).getOwn.envsAt
                  have hce := hat.get hel
                  rw [few_get hlt] at hce
                  have HCE : Hid (∀ (k : Nat) (u : Value), ([.int .i64 (j : Int), .int .u64 0, .int .u64 1, .int .i64 ((j : Int) + 1)] : List Value)[k]? = some u → wr.cell? ⟨fb, fo + j * 4 + k, none⟩ = some u) := hce
                  have hlen : L.length ≤ 8 := by rw [HL.out, List.length_take]; exact Nat.le_trans (Nat.min_le_right _ _) (Nat.le_trans (List.length_filter_le _ _) (by rw [fewL_length]; omega))
                  obtain ⟨nx, y1, EN3, EX3, ES3, H5⟩ := hR.box (.cells #[.int .i64 (j : Int), .int .u64 0, .int .u64 1, .int .i64 ((j : Int) + 1)] 55 (0, 0))
                  have HLT := Lib.hid hlt
                  have HLEN := Lib.hid hlen
                  clear hat hce hR hlen hj
                  have HNX : Hid ((!on || !(q (eF j))) = true → (wantF q on (j + 1)).take K = if L.length < K then L ++ [eF j] else L) := by
                    intro hp
                    rw [want_snoc, if_pos hp, take_snoc, ← HL.out]
                  have HNX0 : Hid ((!on || !(q (eF j))) = false → (wantF q on (j + 1)).take K = L) := by
                    intro hp
                    rw [want_snoc, if_neg (by rw [hp]; decide), List.append_nil, ← HL.out]
                  have HBQ : Hid (q (eF j) = (bits BinOp.and IntKind.i64 (a0 / 2 ^ j) 1 == 1)) := by show _ = _; rw [← qI_at a0 j, ← HQ.out]
                  cases on
                  · by_cases hkl : (L.length : Int) < (K : Int)
                    · go_upto_region 42 with (refine wpList_load_at rfl 55 _ rfl fb (fo + j * 4) rfl [.int .i64 (j : Int), .int .u64 0, .int .u64 1, .int .i64 ((j : Int) + 1)] _ HCE.out Tryz.underlying55 rfl size4 ?_)
                      rw [EX3.out, EN3.out]
                      have h10 := H5.out.alloc (.cells #[.int .i64 (j : Int), .int .u64 0, .int .u64 1, .int .i64 ((j : Int) + 1)] 55 (0, 0)) rfl
                      obtain ⟨v8, z8, hap, h8⟩ := (h10.front 2 rfl).appEnvs (k := 1) (some ⟨y1.heap.size, 0, none⟩) 1 [eF j] rfl (EnvsAt.one (e := eF j) h10.getBlk) (by have := HLEN.out; omega) 39
                      obtain ⟨wa8, k8, wc8, rfl, hk8⟩ := h8.getOwn.slice
                      obtain rfl := hk8.out
                      have e8 : L.length + 1 = (L ++ [eF j]).length := by rw [List.length_append]; rfl
                      rw [e8] at h8 hap
                      have H10 := Lib.hid ((h8.drop 1 rfl).drop 1 rfl)
                      have HNY : Hid (L ++ [eF j] = (wantF q false (j + 1)).take K) := by show _ = _; rw [HNX.out rfl, if_pos (by omega)]
                      have hbe := H5.out.nth 0 rfl
                      clear h10 h8 hk8 e8
                      go_wp2_with (first | (refine wpList_load_row rfl 55 _ rfl nx rfl _ _ _ _ hbe Tryz.underlying55 rfl size4 ?_) | (at_builtin; refine wpl_append rfl _ _ _ rfl rfl rfl hap ?_))
                      clear hap hbe
                      go_roundw
                      case rel => exact ⟨j + 1, L ++ [eF j], wa8, wc8, by have := HLT.out; omega, by go_num, by first | rfl | (rw [List.length_append]; rfl), HNY.out, H10.out⟩
                      case measure => simp [intOf]; have := HLT.out; omega
                    · go_upto_region 42 with (refine wpList_load_at rfl 55 _ rfl fb (fo + j * 4) rfl [.int .i64 (j : Int), .int .u64 0, .int .u64 1, .int .i64 ((j : Int) + 1)] _ HCE.out Tryz.underlying55 rfl size4 ?_)
                      rw [EX3.out, EN3.out]
                      have HNY : Hid (L = (wantF q false (j + 1)).take K) := by show _ = _; rw [HNX.out rfl, if_neg (by omega)]
                      go_wp2_with fail
                      go_roundw
                      case rel => exact ⟨j + 1, L, wa, wc, by have := HLT.out; omega, by go_num, rfl, HNY.out, H5.out.tail⟩
                      case measure => simp [intOf]; have := HLT.out; omega
                  · cases hqj : q (eF j) with
                    | true =>
                      rw [hqj] at HNX HNX0
                      have hb1 : bits BinOp.and IntKind.i64 (a0 / 2 ^ j) 1 = 1 := by have h1 := HBQ.out; rw [hqj] at h1; simpa using h1.symm
                      clear hqj
                      go_upto_region 42 with (refine wpList_load_at rfl 55 _ rfl fb (fo + j * 4) rfl [.int .i64 (j : Int), .int .u64 0, .int .u64 1, .int .i64 ((j : Int) + 1)] _ HCE.out Tryz.underlying55 rfl size4 ?_)
                      rw [EX3.out, EN3.out]
                      have HNY : Hid (L = (wantF q true (j + 1)).take K) := (HNX0.out rfl).symm
                      go_wp2_with fail
                      go_roundw
                      case rel => exact ⟨j + 1, L, wa, wc, by have := HLT.out; omega, by go_num, rfl, HNY.out, H5.out.tail⟩
                      case measure => simp [intOf]; have := HLT.out; omega
                    | false =>
                      rw [hqj] at HNX HNX0
                      have hb0 : bits BinOp.and IntKind.i64 (a0 / 2 ^ j) 1 = 0 := by
                        have h1 := HBQ.out
                        rw [hqj] at h1
                        have h2 : bits BinOp.and IntKind.i64 (a0 / 2 ^ j) 1 ≠ 1 := by simpa using h1.symm
                        rw [i64_and1] at h2 ⊢
                        omega
                      clear hqj
                      by_cases hkl : (L.length : Int) < (K : Int)
                      · go_upto_region 42 with (refine wpList_load_at rfl 55 _ rfl fb (fo + j * 4) rfl [.int .i64 (j : Int), .int .u64 0, .int .u64 1, .int .i64 ((j : Int) + 1)] _ HCE.out Tryz.underlying55 rfl size4 ?_)
                        rw [EX3.out, EN3.out]
                        have h10 := H5.out.alloc (.cells #[.int .i64 (j : Int), .int .u64 0, .int .u64 1, .int .i64 ((j : Int) + 1)] 55 (0, 0)) rfl
                        obtain ⟨v8, z8, hap, h8⟩ := (h10.front 2 rfl).appEnvs (k := 1) (some ⟨y1.heap.size, 0, none⟩) 1 [eF j] rfl (EnvsAt.one (e := eF j) h10.getBlk) (by have := HLEN.out; omega) 39
                        obtain ⟨wa8, k8, wc8, rfl, hk8⟩ := h8.getOwn.slice
                        obtain rfl := hk8.out
                        have e8 : L.length + 1 = (L ++ [eF j]).length := by rw [List.length_append]; rfl
                        rw [e8] at h8 hap
                        have H10 := Lib.hid ((h8.drop 1 rfl).drop 1 rfl)
                        have HNY : Hid (L ++ [eF j] = (wantF q true (j + 1)).take K) := by show _ = _; rw [HNX.out rfl, if_pos (by omega)]
                        have hbe := H5.out.nth 0 rfl
                        clear h10 h8 hk8 e8
                        go_wp2_with (first | (refine wpList_load_row rfl 55 _ rfl nx rfl _ _ _ _ hbe Tryz.underlying55 rfl size4 ?_) | (at_builtin; refine wpl_append rfl _ _ _ rfl rfl rfl hap ?_))
                        clear hap hbe
                        go_roundw
                        case rel => exact ⟨j + 1, L ++ [eF j], wa8, wc8, by have := HLT.out; omega, by go_num, by first | rfl | (rw [List.length_append]; rfl), HNY.out, H10.out⟩
                        case measure => simp [intOf]; have := HLT.out; omega
                      · go_upto_region 42 with (refine wpList_load_at rfl 55 _ rfl fb (fo + j * 4) rfl [.int .i64 (j : Int), .int .u64 0, .int .u64 1, .int .i64 ((j : Int) + 1)] _ HCE.out Tryz.underlying55 rfl size4 ?_)
                        rw [EX3.out, EN3.out]
                        have HNY : Hid (L = (wantF q true (j + 1)).take K) := by show _ = _; rw [HNX.out rfl, if_neg (by omega)]
                        go_wp2_with fail
                        go_roundw
                        case rel => exact ⟨j + 1, L, wa, wc, by have := HLT.out; omega, by go_num, rfl, HNY.out, H5.out.tail⟩
                        case measure => simp [intOf]; have := HLT.out; omega
                · obtain rfl : j = 8 := by omega
                  obtain rfl : L = BL := by rw [HL.out, HBL.out]
                  rw [← HNL.out] at hR ⊢
                  have HR := Lib.hid hR
                  obtain ⟨q0, q1, q2, q3, q4, q5⟩ := cells6 (HR.out.nth 1 rfl)
                  clear hR hlt hj HL
                  go_wp2_with fail
                  clear q0 q1 q2 q3 q4 q5
                  go_loopw [193] (fun i wr => ∃ k : Nat, k ≤ nl ∧ i = .int .i64 (k : Int) ∧ Sys wr (five (worldT p d SGN) (treeT pt p 1 (TF q)) (logT pg p pt (tipF on true) L1 I1) (poolT pp p (imin (imax 10 0) 1000) (lpF q on true)) (ledgT pl 8)) (own 55 4 (.slice wa nl wc) nl (flatE L) :: blk nb (.cells #[.int .i64 3, .int .i64 3, .int .i64 (hvF on), .int .i64 (hbF on), .slice ua 0 uc, .slice va nl vc] 41 (0, 0)) :: blkT (bval ⟨3, 3, hvF on, hbF on, [], L⟩ ua uc va vc) ⟨3, 3, hvF on, hbF on, [], L⟩ :: blk nh (.cells #[.int .i64 (hvF on), .int .i64 (hbF on), .slice none 0 0] 34 (0, 0)) :: own 55 4 (.slice (some ⟨fb, fo, none⟩) (fewL 8).length fc) (fewL 8).length (flatE (fewL 8)) :: own 55 4 (.slice na ((fewL 8).filter q).length nc) ((fewL 8).filter q).length (flatE ((fewL 8).filter q)) :: [base W])) (fun i _ => nl - (intOf i).toNat)
                  case atStart => exact ⟨0, by omega, rfl, HR.out⟩
                  case round =>
                    obtain ⟨j, hj, rfl, hR⟩ := hrel
                    by_cases hlt : j < nl
                    · have hjl : (j : Int) < (nl : Int) := by omega
                      have hjw : IntKind.i64.wrap ((j : Int) + 1) = (j : Int) + 1 := by rw [IntKind.wrap_i64]; have := HNL8.out; omega
                      obtain ⟨⟨ec, en, ef, ei⟩, he⟩ : ∃ e, e = L.getD j default := ⟨_, rfl⟩
                      have hel : j < L.length := by rw [← HNL.out]; exact hlt
                      have hat : EnvsAt wr wa L := hR.getOwn.envsAt
                      have hbt : EnvsAt wr va L := (show BlkAt wr ⟨3, 3, hvF on, hbF on, [], L⟩ ua uc va vc from hR.memBlkV (.tail _ (.tail _ (.head _)))).envs
                      obtain ⟨ab, ao, rfl⟩ := hbt.some_ hel
                      obtain ⟨bb, bo, rfl⟩ := hat.some_ hel
                      have hce := hbt.get hel
                      have hcf := hat.get hel
                      rw [← he] at hce hcf
                      have HSS : Hid (wr.drew.cell? ⟨nb, 5, none⟩ = some (.slice (some ⟨ab, ao, none⟩) nl vc) ∧ (∀ (k : Nat) (u : Value), ([.int .i64 ec, .int .u64 en, .int .u64 ef, .int .i64 ei] : List Value)[k]? = some u → wr.drew.cell? ⟨ab, ao + j * 4 + k, none⟩ = some u) ∧ ∀ (k : Nat) (u : Value), ([.int .i64 ec, .int .u64 en, .int .u64 ef, .int .i64 ei] : List Value)[k]? = some u → wr.drew.cell? ⟨bb, bo + j * 4 + k, none⟩ = some u) := ⟨(cells6 (hR.nth 1 rfl)).2.2.2.2.2, hce, hcf⟩
                      have HR2 := Lib.hid hR.drew
                      have HLT := Lib.hid hlt
                      clear hat hbt hce hcf hR hlt hj he
                      go_upto_region 50 with fail
                      refine wp_region_seq (fun x : World => x.cell? ⟨nb, 5, none⟩ = some (.slice (some ⟨ab, ao, none⟩) nl vc) ∧ (∀ (k : Nat) (u : Value), ([.int .i64 ec, .int .u64 en, .int .u64 ef, .int .i64 ei] : List Value)[k]? = some u → x.cell? ⟨ab, ao + j * 4 + k, none⟩ = some u) ∧ ∀ (k : Nat) (u : Value), ([.int .i64 ec, .int .u64 en, .int .u64 ef, .int .i64 ei] : List Value)[k]? = some u → x.cell? ⟨bb, bo + j * 4 + k, none⟩ = some u) anyW [] [(0, 0, some 196), (1, 1, some 197), (2, 0, some 198), (3, 0, some 199), (4, 1, some 200), (5, 0, some 201), (6, 0, some 202), (7, 0, some 203), (8, 1, some 204), (9, 0, some 205)] (by kernel_rfl) (by kernel_rfl) (fun _ _ _ d _ h => by cases d <;> exact h) HSS.out anyW.i ?_
                      repeat (first | (refine seqW (v := ?_) rfl rfl (by kernel_rfl) ?_ ?_; rotate_left; (focus ((intro x; go_simp); try (with_reducible rfl))); try simp only [Act.put, List.setIfInBounds_toArray, List.set_cons_zero, List.set_cons_succ]) | (refine seqS (v := ?_) rfl rfl (by kernel_rfl) ?_ ?_; rotate_left; (focus (intro x hS; first | (obtain ⟨hS0, hS1, hS2⟩ := hS; have a0_ := hS1 0 _ rfl; have a1_ := hS1 1 _ rfl; have a2_ := hS1 2 _ rfl; have a3_ := hS1 3 _ rfl; have b0_ := hS2 0 _ rfl; have b1_ := hS2 1 _ rfl; have b2_ := hS2 2 _ rfl; have b3_ := hS2 3 _ rfl; simp only [Nat.add_zero] at a0_ b0_; go_simp; try (with_reducible rfl)))); try simp only [Act.put, List.setIfInBounds_toArray, List.set_cons_zero, List.set_cons_succ]) | (refine seqX rfl rfl (by kernel_rfl) ?_; try simp only [Act.put, List.setIfInBounds_toArray, List.set_cons_zero, List.set_cons_succ]))
                      refine seqE ?_
                      go_wp2_with fail
                      go_roundw
                      case rel => exact ⟨j + 1, by have := HLT.out; omega, by go_num, HR2.out⟩
                      case measure => simp [intOf]; have := HLT.out; omega
                    · obtain rfl : nl = j := by omega
                      have HR2 := Lib.hid hR
                      clear hlt hj hR
                      go_wp2_with fail
                      refine (prop_awake wr).mono ?_
                      rintro e wz ⟨rfl, hB⟩
                      have HZ := Lib.hid (HR2.out.below hB)
                      clear hB
                      go_wp2_with fail
                      go_ret
                      exact ⟨rfl, Sys.memBase (W := W) HZ.out (by simp)⟩
end Go.Proofs.YtcfhkpjheemkgaaGreat.propFresh
