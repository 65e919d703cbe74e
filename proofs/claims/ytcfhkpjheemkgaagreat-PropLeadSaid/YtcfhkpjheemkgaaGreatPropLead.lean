/-
  Who leads a view lays there: tolseylaw22.PropLead.
-/
import Derived.Test.YtcfhkpjheemkgaaGreatLeadLaw
namespace Go.Proofs.YtcfhkpjheemkgaaGreat.propLead
set_option linter.unusedSectionVars false
set_option linter.unnecessarySimpa false
set_option linter.unusedSimpArgs false
set_option linter.unusedVariables false
open Go.RowKit Go.MapKept

def Rel (known : Bool) (F : Nat) (hv hb : Int) (p pt pg pp nh nc : Nat) (d : Wd) (W : World) (i : Value) (wr : World) : Prop :=
  ∃ (j : Nat) (X : WX) (a : Option Addr) (cap : Nat), j ≤ 2 * F + 1 ∧ i = .int .i64 j ∧ Hid (Ld X (5 + j) hv hb j) ∧ Sys wr (five (worldT p d X) (treeT pt p 1 (TK known)) (logT pg p pt 1 [] []) (poolT pp p (imin (imax 4 0) 1000) []) emp) (blk nh (.cells #[.int .i64 hv, .int .i64 hb, (.slice a (upto j).length cap)] 34 (0, 0)) :: own 3 1 (.slice a (upto j).length cap) (upto j).length ((upto j).map (Value.int .i64)) :: blk nc (.cells #[.int .i64 (F : Int), .int .i64 (3 * (F : Int) + 1), .int .i64 0, .int .i64 0, .int .i64 0, .int .i64 2, .int .i64 0, .int .i64 0] 23 (0, 0)) :: [base W])
set_option maxRecDepth 100000 in
set_option maxHeartbeats 8000000 in
theorem walk (W : World) (a0 : Int) (_ : (Lit.int .i64 a0).wf = true) (a1 : Int) (_ : (Lit.int .i64 a1).wf = true) (a2 : Int) (_ : (Lit.int .i64 a2).wf = true) (known above : Bool) :
    Calls Tryz.prog 3 #[.int .i64 a0, .int .i64 a1, .int .i64 a2, .bool known, .bool above] W fun e w' => e = .returned (.bool true) ∧ Below W.heap.size W w' := by
  obtain ⟨x0, hx0⟩ : ∃ x, bits BinOp.and IntKind.i64 a0 255 = x := ⟨_, rfl⟩
  obtain ⟨y0, hy0⟩ : ∃ x, x0.tmod 3 = x := ⟨_, rfl⟩
  obtain ⟨who, hwho⟩ : ∃ x, bits BinOp.and IntKind.i64 a1 15 = x := ⟨_, rfl⟩
  obtain ⟨z0, hz0⟩ : ∃ x, bits BinOp.and IntKind.i64 a2 63 = x := ⟨_, rfl⟩
  have hyr : 0 ≤ y0 ∧ y0 ≤ 2 := by
    rw [i64_and255] at hx0
    rw [Int.tmod_eq_emod_of_nonneg (by omega)] at hy0
    omega
  have hwr : 0 ≤ who ∧ who ≤ 15 := by rw [i64_and15] at hwho; omega
  have hzr : 0 ≤ z0 ∧ z0 ≤ 63 := by rw [i64_and63] at hz0; omega
  obtain ⟨F, hF⟩ : ∃ F : Nat, (F : Int) = y0 + 1 := ⟨(y0 + 1).toNat, by omega⟩
  obtain ⟨view, hvw⟩ : ∃ v, v = z0 + 2 := ⟨_, rfl⟩
  have e1 : IntKind.i64.wrap (y0 + 1) = (F : Int) := by rw [IntKind.wrap_i64]; omega
  have e2 : IntKind.i64.wrap (3 * (F : Int)) = 3 * (F : Int) := by rw [IntKind.wrap_i64]; omega
  have e3 : IntKind.i64.wrap (3 * (F : Int) + 1) = 3 * (F : Int) + 1 := by rw [IntKind.wrap_i64]; omega
  have e4 : IntKind.i64.wrap (z0 + 2) = view := by rw [IntKind.wrap_i64]; omega
  have e5 : IntKind.i64.wrap (2 * (F : Int)) = 2 * (F : Int) := by rw [IntKind.wrap_i64]; omega
  have HF : Hid (1 ≤ F ∧ F ≤ 3) := by show _ ∧ _; omega
  have HV : Hid (2 ≤ view ∧ view ≤ 65) := by show _ ∧ _; omega
  have HVR : Hid (-9223372036854775808 ≤ view ∧ view ≤ 9223372036854775807) := by show _ ∧ _; omega
  have HW : Hid (0 ≤ who ∧ who ≤ 15) := hwr
  have HGOOD := Lib.hid (cL_good F (by omega))
  clear hyr hwr hzr hF hvw
  go_enter Tryz.func3, Tryz.ntmps3
  obtain ⟨nc, xc, ENC, EXC, ESC, HC⟩ := (Sys.start W).box (.cells #[.int .i64 (F : Int), .int .i64 (3 * (F : Int) + 1), .int .i64 0, .int .i64 0, .int .i64 0, .int .i64 2, .int .i64 0, .int .i64 0] 23 (0, 0))
  go_upto_region 4 with fail
  rw [EXC.out, ENC.out]
  go_wp2_with fail
  refine (world_new (F : Int) HC.out).mono ?_
  rintro e w1 ⟨p, d, rfl, h⟩
  have h1 := h.putN 0 rfl
  rw [five_] at h1
  change Sys w1 (five (worldT p d (XL F)) emp emp emp emp) (blk nc (.cells #[.int .i64 (F : Int), .int .i64 (3 * (F : Int) + 1), .int .i64 0, .int .i64 0, .int .i64 0, .int .i64 2, .int .i64 0, .int .i64 0] 23 (0, 0)) :: [base W]) at h1
  have H1 := Lib.hid h1
  clear h h1 HC
  go_wp2_with fail
  refine (tree_new H1.out rfl (by show 0 ≤ 1000000000; omega)).mono ?_
  rintro e w3 ⟨pt, rfl, h⟩
  rw [five0, ld_root] at h
  have h1 := h.putN 1 rfl
  rw [five1] at h1
  change Sys w3 (five (worldT p d (XL1 F)) (treeT pt p 1 TL0) emp emp emp) (blk nc (.cells #[.int .i64 (F : Int), .int .i64 (3 * (F : Int) + 1), .int .i64 0, .int .i64 0, .int .i64 0, .int .i64 2, .int .i64 0, .int .i64 0] 23 (0, 0)) :: [base W]) at h1
  have H3 := Lib.hid h1
  clear h h1 H1
  go_wp2_with fail
  refine (clog_new H3.out rfl).mono ?_
  rintro e w4 ⟨pg, rfl, h⟩
  have h1 := h.putN 2 rfl
  rw [five2] at h1
  have H4 := Lib.hid h1
  clear h h1 H3
  go_wp2_with fail
  refine (pool_new 4 H4.out).mono ?_
  rintro e w5 ⟨pp, rfl, h⟩
  have h1 := h.putN 3 rfl
  rw [five3] at h1
  obtain ⟨nh, x5, EN5, EX5, ES5, H5⟩ := Sys.box h1 (.cells #[.int .i64 1, .int .i64 1099511627776, (.slice none 0 0)] 34 (0, 0))
  clear h h1 H4
  go_upto_region 13 with fail
  rw [EX5.out, EN5.out]
  clear e1 e2 e3 e4 hx0 hy0 hwho hz0
  go_upto_if 59 with fail
  go_cut [] (fun wx => ∃ X, Hid (L0 X ∧ X.T.length ≤ 3) ∧ Sys wx (five (worldT p d X) (treeT pt p 1 (TK known)) (logT pg p pt 1 [] []) (poolT pp p (imin (imax 4 0) 1000) []) emp) (blk nh (.cells #[.int .i64 1, .int .i64 (hbK known), (.slice none 0 0)] 34 (0, 0)) :: blk nc (.cells #[.int .i64 (F : Int), .int .i64 (3 * (F : Int) + 1), .int .i64 0, .int .i64 0, .int .i64 0, .int .i64 2, .int .i64 0, .int .i64 0] 23 (0, 0)) :: [base W]))
  case first =>
    cases known
    · go_wp2_with fail
      go_meet
      case rel => exact ⟨XL1 F, ⟨L0.one F, (XL_len F).1⟩, H5.out⟩
    · go_wp2_with fail
      refine (cert_root H5.out rfl (by have := (XL_len F).1; omega)).mono ?_
      rintro e w6 ⟨he, h⟩
      rw [ld_root1] at he
      subst he
      rw [five0] at h
      change Sys w6 (five (worldT p d (XL2 F)) (treeT pt p 1 TL0) (logT pg p pt 1 [] []) (poolT pp p (imin (imax 4 0) 1000) []) emp) (blk nh (.cells #[.int .i64 1, .int .i64 1099511627776, (.slice none 0 0)] 34 (0, 0)) :: blk nc (.cells #[.int .i64 (F : Int), .int .i64 (3 * (F : Int) + 1), .int .i64 0, .int .i64 0, .int .i64 0, .int .i64 2, .int .i64 0, .int .i64 0] 23 (0, 0)) :: [base W]) at h
      have H6 := Lib.hid h
      clear h
      go_wp2_with fail
      refine (tree_add bK none 0 none 0 (fun y m' hs => ⟨_, _, rfl, SliceIn.nil _ _, SliceIn.nil _ _⟩) (fun e he => by cases he) H6.out rfl rfl (by have := (XL_len F).2.1; omega)).mono ?_
      intro e w7 h
      unfold AddTo at h
      rw [if_neg (by rw [ld_t1]; simp), if_neg (by rw [ld_t2]; simp), if_neg (by rw [ld_t3]; simp), ld_blkD, five0, five1] at h
      obtain ⟨rfl, h⟩ := h
      obtain ⟨q0, q1, q2⟩ := cells3 (h.nth 0 rfl)
      have q5 := frozen_of_blk (h.nth 0 rfl) 1
      have H7 := Lib.hid (h.setCell (i := 1) (.int .i64 2))
      clear h
      go_wp2_with fail
      go_meet
      case rel => exact ⟨XL3 F, ⟨L0.three F, (XL_len F).2.2⟩, H7.out⟩
  case rest =>
    obtain ⟨X1, HX1, h⟩ := hcut
    have H8 := Lib.hid h
    clear h H5
    go_upto_if 73 with fail
    go_cut [] (fun wx => ∃ X, Hid (Ld X 5 (hvA above view) (hbA known above) 0) ∧ Sys wx (five (worldT p d X) (treeT pt p 1 (TK known)) (logT pg p pt 1 [] []) (poolT pp p (imin (imax 4 0) 1000) []) emp) (blk nh (.cells #[.int .i64 (hvA above view), .int .i64 (hbA known above), (.slice none 0 0)] 34 (0, 0)) :: blk nc (.cells #[.int .i64 (F : Int), .int .i64 (3 * (F : Int) + 1), .int .i64 0, .int .i64 0, .int .i64 0, .int .i64 2, .int .i64 0, .int .i64 0] 23 (0, 0)) :: [base W]))
    case first =>
      cases above
      · go_wp2_with fail
        go_meet
        case rel => exact ⟨X1, HX1.out.1.ld _ _, H8.out⟩
      · go_wp2_with fail
        refine (cert_root H8.out rfl (by have := HX1.out.2; omega)).mono ?_
        rintro e w6 ⟨he, h⟩
        rw [HX1.out.1.2.2.1] at he
        subst he
        rw [five0] at h
        have hbh := h.getBlk
        have hzz := setRow_heap w6 nh _ (#[.int .i64 view, .int .i64 1, .slice none 0 0]) _ _ hbh
        have H9 := Lib.hid (h.store ((Chg.refl (· = nh) w6).row (#[.int .i64 view, .int .i64 1, .slice none 0 0])) hzz)
        go_wp2_with (refine wpList_store_row rfl 34 _ _ rfl nh (#[.int .i64 view, .int .i64 1, .slice none 0 0]) rfl rfl _ _ hbh size3 rfl (by simp [Value.oneCell']) ?_)
        go_meet
        case rel => exact ⟨_, HX1.out.1.dld _ _, H9.out⟩
    case rest =>
      obtain ⟨X2, HX2, h⟩ := hcut
      obtain ⟨hv, hhv⟩ : ∃ v, v = hvA above view := ⟨_, rfl⟩
      obtain ⟨hb, hhb⟩ : ∃ v, v = hbA known above := ⟨_, rfl⟩
      rw [← hhv, ← hhb] at HX2 h
      have HHV := Lib.hid hhv
      have HHB := Lib.hid hhb
      have h9 := (h.push (F := fun _ => False) (t := own 3 1 (.slice none 0 0) 0 []) (Chg.refl _ _) ⟨Own.nil _ _ _, by funext k; simp [Value.ownBlock]⟩ (fun _ h => h.elim)).swap
      have H9 := Lib.hid h9
      clear h h9 hhv hhb H8
      go_wp2_with fail
      go_loopw [19] (Rel known F hv hb p pt pg pp nh nc d W) (fun i _ => 2 * F + 1 - (intOf i).toNat)
      case atStart => exact ⟨0, X2, none, 0, by omega, rfl, HX2.out, H9.out⟩
      case round =>
        obtain ⟨j, X, a, cap, hj, rfl, HX, hR⟩ := hrel
        by_cases hlt : j ≤ 2 * F
        · have hjl : decide ((j : Int) ≤ 2 * (F : Int)) = true := by simp; omega
          have hwrap : IntKind.i64.wrap ((j : Int) + 1) = (j : Int) + 1 := by rw [IntKind.wrap_i64]; have := HF.out; omega
          have hwf : (Lit.int .i64 (j : Int)).wf = true := wf_mk (by omega) (by have := HF.out; omega)
          have H0 := Lib.hid hR
          have HJ : Hid (j ≤ 6) := by have := HF.out; show _ ≤ _; omega
          have HJ2 := Lib.hid hlt
          clear hR hlt hj
          go_upto_region 23 with fail
          refine wp_region_seq (fun x : World => x.heap[nh]? = some (.cells #[.int .i64 hv, .int .i64 hb, (.slice a (upto j).length cap)] 34 (0, 0))) anyW [] [(0, 0, some 84), (2, 0, some 86), (3, 0, some 87), (4, 0, some 88), (5, 1, some 89), (6, 0, some 90), (7, 1, some 91), (1, 2, some 85), (8, 2, some 92), (9, 2, some 93)] (by kernel_rfl) (by kernel_rfl) (fun _ _ _ d _ h => by cases d <;> exact h) (H0.out.drew.nth 0 rfl) anyW.i ?_
          repeat (first | (refine seqW (v := ?_) rfl rfl (by kernel_rfl) ?_ ?_; rotate_left; (focus ((intro x; go_simp); try (with_reducible rfl))); try simp only [Act.put, List.setIfInBounds_toArray, List.set_cons_zero, List.set_cons_succ]) | (refine seqS (v := ?_) rfl rfl (by kernel_rfl) ?_ ?_; rotate_left; (focus (intro x hS; first | (obtain ⟨q0, q1, q2⟩ := cells3 hS; go_simp; try (with_reducible rfl)))); try simp only [Act.put, List.setIfInBounds_toArray, List.set_cons_zero, List.set_cons_succ]) | (refine seqX rfl rfl (by kernel_rfl) ?_; try simp only [Act.put, List.setIfInBounds_toArray, List.set_cons_zero, List.set_cons_succ]))
          refine seqL rfl rfl (fun K hK => ?_)
          go_simp
          go_at_call 12
          refine (world_signs H0.out.drew rfl).mono ?_
          rintro e wa ⟨rfl, rfl⟩
          refine hK.out _ _ anyW.i ?_ (fun _ hSt => ?_)
          · exact H0.out.drew.nth 0 rfl
          clear hSt hK K
          try simp only [Act.put, List.setIfInBounds_toArray, List.set_cons_zero, List.set_cons_succ]
          refine seqL rfl rfl (fun K hK => ?_)
          go_simp
          go_at_call 14
          refine (cert_vote hv hb H0.out.drew rfl (by have := HX.out.2.2.1; have := HJ.out; omega)).mono ?_
          rintro e wb ⟨rfl, hz⟩
          rw [five0] at hz
          have HB := Lib.hid hz
          clear hz
          refine hK.out _ _ anyW.i ?_ (fun _ hSt => ?_)
          · exact HB.out.nth 0 rfl
          clear hSt hK K
          try simp only [Act.put, List.setIfInBounds_toArray, List.set_cons_zero, List.set_cons_succ]
          refine seqL rfl rfl (fun K hK => ?_)
          go_simp
          go_at_call 13
          refine (world_sign (j : Int) (dg X.T (voteB hv hb)) hwf HB.out rfl).mono ?_
          rintro e wd ⟨rfl, hz⟩
          rw [five0] at hz
          change Sys wd (five (worldT p d (X.signB (j : Int) (voteB hv hb))) (treeT pt p 1 (TK known)) (logT pg p pt 1 [] []) (poolT pp p (imin (imax 4 0) 1000) []) emp) (blk nh (.cells #[.int .i64 hv, .int .i64 hb, (.slice a (upto j).length cap)] 34 (0, 0)) :: own 3 1 (.slice a (upto j).length cap) (upto j).length ((upto j).map (Value.int .i64)) :: blk nc (.cells #[.int .i64 (F : Int), .int .i64 (3 * (F : Int) + 1), .int .i64 0, .int .i64 0, .int .i64 0, .int .i64 2, .int .i64 0, .int .i64 0] 23 (0, 0)) :: [base W]) at hz
          have HD := Lib.hid hz
          clear hz
          refine hK.out _ _ anyW.i ?_ (fun _ hSt => ?_)
          · exact HD.out.nth 0 rfl
          clear hSt hK K
          try simp only [Act.put, List.setIfInBounds_toArray, List.set_cons_zero, List.set_cons_succ]
          refine seqE ?_
          obtain ⟨c0, c1, c2⟩ := cells3 (HD.out.nth 0 rfl)
          have h4 := HD.out.alloc (.cells #[.int .i64 (j : Int)] 3 (0, 0)) rfl
          obtain ⟨v5, w5', hap, h5⟩ := (h4.front 2 rfl).appInts (k := 1) (some ⟨wd.heap.size, 0, none⟩) 1 [(j : Int)] rfl (ints_const (t := [(j : Int)]) h4.getBlk) (by rw [upto_length]; have := HJ.out; omega) 32
          obtain ⟨a5, k5, cp5, rfl, hk5⟩ := h5.getOwn.slice
          obtain rfl := hk5.out
          have h6 := (h5.front 2 rfl).setCell (i := 2) (.slice a5 ((upto j).length + 1) cp5)
          have h7 := h6.drop 2 rfl
          have q5 := frozen_of_blk (h5.nth 2 rfl) 2
          have q6 := (cells3 (h5.nth 2 rfl)).2.2
          have hl : (upto j).length + 1 = (upto (j + 1)).length := by rw [upto_length, upto_length]
          rw [hl] at h7 hap
          rw [← upto_snoc] at h7
          have H8 := Lib.hid h7
          have HX3 := Lib.hid HX.out.vote
          clear h4 h5 h6 h7 hl hk5
          go_wp2_with (at_builtin; refine wpl_append rfl _ _ _ rfl rfl rfl hap ?_)
          clear hap q5 q6 c0 c1 c2
          go_wp2_with fail
          go_roundw
          case rel => exact ⟨j + 1, _, a5, cp5, by have := HJ2.out; omega, by go_num, HX3.out, H8.out⟩
          case measure => simp [intOf]; have := HJ2.out; omega
        · obtain rfl : j = 2 * F + 1 := by omega
          have hjl : decide (((2 * F + 1 : Nat) : Int) ≤ 2 * (F : Int)) = false := by simp; omega
          have HR := Lib.hid hR
          have hbh := hR.nth 0 rfl
          have hbc := hR.nth 2 rfl
          clear hR hlt hj
          go_upto_region 25 with fail
          go_wp2_with (first | (refine wpList_load_row rfl 23 _ rfl nc rfl _ _ _ _ hbc Tryz.underlying23 rfl size8 ?_) | (refine wpList_load_row rfl 34 _ rfl nh rfl _ _ _ _ hbh Tryz.underlying34 rfl size3 ?_))
          clear hbh hbc
          obtain ⟨ld, hld⟩ : ∃ x, view.tmod (3 * (F : Int) + 1) = x := ⟨_, rfl⟩
          have HLE : Hid (leadOf (cL F) view = ld) := by show _ = _; rw [lead_eq HV.out.1, hld]
          have d0 : (3 * (F : Int) + 1 == 0) = false := by simp; omega
          by_cases hm : makeB (TK known) (cL F) who view hv hb = true
          · obtain ⟨rfl, rfl, hwl⟩ : known = true ∧ above = false ∧ who = leadOf (cL F) view := by
              cases above with
              | true =>
                rw [show hv = view from HHV.out, show hb = 1 from HHB.out, make_no2] at hm
                cases hm
              | false =>
                cases known with
                | false =>
                  rw [show hv = 1 from HHV.out, show hb = 1099511627776 from HHB.out, make_no3] at hm
                  cases hm
                | true =>
                  refine ⟨rfl, rfl, ?_⟩
                  apply Classical.byContradiction
                  intro hc
                  rw [show hv = 1 from HHV.out, show hb = 2 from HHB.out, make_no1 hc] at hm
                  cases hm
            obtain rfl : hv = 1 := HHV.out
            obtain rfl : hb = 2 := HHB.out
            have HWL := Lib.hid hwl
            have d1 : (who == ld) = true := by rw [HLE.out] at hwl; simpa using hwl
            have HOKB := Lib.hid (lead_ok HF.out HX.out HV.out.1 hwl)
            have HLW := Lib.hid (lead_world (view := view) (who := who) HX.out)
            refine (prop_make_yes (T := TK true) (tip := 1) (R := 1) (LP := []) (c := cL F) (who := who) (view := view) (hv := 1) (hb := 2) (ha := a) (hc := cap) (HY := upto (2 * F + 1)) HGOOD.out HVR.out (wf_mk (by have := HW.out; omega) (by have := HW.out; omega)) hm (fun y m' hs => hs.tail.getOwn.sliceIn (by rw [upto_length]; have := HF.out; omega) (fun _ _ => trivial)) (ld_inv true) (fun x e he => by rw [ld_none] at he; cases he) (by rw [ld_skip]; decide) (ld_sk X) (fun e he => by cases he) (fun e he => by cases he) (by decide) (by show (2 : Int) ≤ 1000000; omega) (by have := HX.out.2.2.1; have := HF.out; omega) rfl rfl rfl rfl HR.out).mono ?_
            rintro e w20 ⟨ua, uc, va, vc, he, h⟩
            rw [show (cL F).bt = 2 from rfl, ld_pack] at he h
            replace he : e = .returned (.tuple #[.agg (#[.int .i64 view, .int .i64 who, .int .i64 1, .int .i64 2, .slice ua (upto (2 * F + 1)).length uc, .slice va 0 vc]), .bool true]) := he
            subst he
            rw [five0] at h
            obtain ⟨nb, x20, EN20, EX20, ES20, H20⟩ := Sys.box h (.cells (#[.int .i64 view, .int .i64 who, .int .i64 1, .int .i64 2, .slice ua (upto (2 * F + 1)).length uc, .slice va 0 vc]) 41 (0, 0))
            clear h hm hwl
            obtain ⟨b0, b1, b2, b3, b4, b5⟩ := cells6 (H20.out.nth 0 rfl)
            obtain ⟨q0, q1, q2⟩ := cells3 (H20.out.nth 2 rfl)
            obtain ⟨c0, c1, c2, c3, c4, c5, c6, c7⟩ := cells8 (H20.out.nth 4 rfl)
            have hl : (((upto (2 * F + 1)).length : Nat) : Int) = 2 * (F : Int) + 1 := by rw [upto_length]; omega
            have e6 : IntKind.i64.wrap (2 * (F : Int) + 1) = 2 * (F : Int) + 1 := by rw [IntKind.wrap_i64]; have := HF.out; omega
            go_upto_region 26 with fail
            rw [EX20.out, EN20.out]
            go_wp2_with fail
            refine (blok_ok (cL F) HGOOD.out ⟨view, who, 1, 2, upto (2 * F + 1), []⟩ ua uc va vc (fun y m' hs => hs.tail.memBlkV (.head _)) (fun e he => by cases he) HVR.out H20.out rfl HLW.out.1 HLW.out.2.1 (by have := HLW.out.2.2; have := HF.out; omega)).mono ?_
            rintro e w21 ⟨rfl, X9, hE, h⟩
            rw [HOKB.out]
            have H21 := Lib.hid h
            clear h hE b0 b1 b2 b3 b4 b5 q0 q1 q2 c0 c1 c2 c3 c4 c5 c6 c7
            go_wp2_with fail
            refine (prop_awake w21).mono ?_
            rintro e wz ⟨rfl, hB⟩
            have HZ := Lib.hid (H21.out.below hB)
            clear hB
            go_wp2_with fail
            go_ret
            exact ⟨rfl, Sys.memBase (W := W) HZ.out (by simp)⟩
          · have HNO : Hid (makeB (TK known) (cL F) who view hv hb = false) := by show _ = _; simpa using hm
            clear hm
            refine (prop_make_no (T := TK known) (c := cL F) (who := who) (view := view) (hv := hv) (hb := hb) (ha := a) (hc := cap) (HY := upto (2 * F + 1)) HGOOD.out HVR.out HNO.out rfl HR.out).mono ?_
            rintro e w20 ⟨rfl, h⟩
            obtain ⟨nb, x20, EN20, EX20, ES20, H20⟩ := Sys.box h (.cells #[.int .i64 0, .int .i64 0, .int .i64 0, .int .i64 0, .slice none 0 0, .slice none 0 0] 41 (0, 0))
            clear h
            have hbc := H20.out.nth 3 rfl
            obtain ⟨c0, c1, c2, c3, c4, c5, c6, c7⟩ := cells8 hbc
            clear hbc
            go_upto_region 26 with fail
            rw [EX20.out, EN20.out]
            cases known with
            | false =>
              go_wp2_with fail
              refine (prop_awake x20).mono ?_
              rintro e wz ⟨rfl, hB⟩
              have HZ := Lib.hid (H20.out.below hB)
              clear hB
              go_wp2_with fail
              go_ret
              exact ⟨rfl, Sys.memBase (W := W) HZ.out (by simp)⟩
            | true =>
              cases above with
              | true =>
                go_wp2_with fail
                refine (prop_awake x20).mono ?_
                rintro e wz ⟨rfl, hB⟩
                have HZ := Lib.hid (H20.out.below hB)
                clear hB
                go_wp2_with fail
                go_ret
                exact ⟨rfl, Sys.memBase (W := W) HZ.out (by simp)⟩
              | false =>
                obtain rfl : hv = 1 := HHV.out
                obtain rfl : hb = 2 := HHB.out
                have hne : ¬ who = leadOf (cL F) view := fun h9 => by
                  have h8 := make_yes HV.out.1 h9
                  rw [HNO.out] at h8
                  cases h8
                have d1 : (who == ld) = false := by rw [HLE.out] at hne; simpa using hne
                clear hne
                go_wp2_with fail
                refine (prop_awake x20).mono ?_
                rintro e wz ⟨rfl, hB⟩
                have HZ := Lib.hid (H20.out.below hB)
                clear hB
                go_wp2_with fail
                go_ret
                exact ⟨rfl, Sys.memBase (W := W) HZ.out (by simp)⟩
end Go.Proofs.YtcfhkpjheemkgaaGreat.propLead
