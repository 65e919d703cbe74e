/-
  prop.Skip: the digests of what stands on the way to a block, and is not fixed.
-/
import Derived.Test.YtcfhkpjheemkgaaGreatSortRow
namespace Go.Proofs.YtcfhkpjheemkgaaGreat
set_option linter.unusedSectionVars false
set_option linter.unnecessarySimpa false
set_option linter.unusedSimpArgs false
set_option linter.unusedVariables false
open Go.RowKit Go.MapKept

/-- Each block of the tree but the root stands on one of a lower view. -/
def TreeInv (T : List (Int × BlkX)) (R : Int) : Prop := (∀ x, 0 ≤ (bk T x).view) ∧ ∀ x, (alook T x).isSome = true → x ≠ R → (alook T (bk T x).jb).isSome = true ∧ (bk T (bk T x).jb).view < (bk T x).view
def goOn (T : List (Int × BlkX)) (R tip x : Int) : Bool := (alook T x).isSome && decide (x ≠ tip) && decide (x ≠ R)
def skipF (T : List (Int × BlkX)) (R tip : Int) : Nat → Int → List EnvX
  | 0, _ => []
  | k + 1, x => if goOn T R tip x = true then (bk T x).envs ++ skipF T R tip k (bk T x).jb else []
def rankT (T : List (Int × BlkX)) (x : Int) : Nat := (bk T x).view.toNat + 1
def skipV (T : List (Int × BlkX)) (R tip x : Int) : List EnvX := skipF T R tip (rankT T x) x
theorem TreeInv.rank {T : List (Int × BlkX)} {R x : Int} (h : TreeInv T R) (hx : (alook T x).isSome = true) (hr : x ≠ R) : rankT T (bk T x).jb < rankT T x := by
  have h1 := h.1 x
  have h2 := h.1 (bk T x).jb
  have h3 := (h.2 x hx hr).2
  unfold rankT; omega
theorem goOn_iff {T : List (Int × BlkX)} {R tip x : Int} : goOn T R tip x = true ↔ (alook T x).isSome = true ∧ x ≠ tip ∧ x ≠ R := by
  unfold goOn
  simp only [Bool.and_eq_true, decide_eq_true_eq, and_assoc]
theorem skipF_eq {T : List (Int × BlkX)} {R tip : Int} (h : TreeInv T R) : ∀ (n : Nat) (x : Int) (k k' : Nat), rankT T x ≤ n → rankT T x ≤ k → rankT T x ≤ k' → skipF T R tip k x = skipF T R tip k' x := by
  intro n
  induction n with
  | zero => intro x k k' hx; unfold rankT at hx; omega
  | succ n ih =>
    intro x k k' hn hk hk'
    obtain ⟨a, rfl⟩ : ∃ a, k = a + 1 := ⟨k - 1, by unfold rankT at hk; omega⟩
    obtain ⟨b, rfl⟩ : ∃ b, k' = b + 1 := ⟨k' - 1, by unfold rankT at hk'; omega⟩
    unfold skipF
    by_cases hg : goOn T R tip x = true
    · rw [if_pos hg, if_pos hg]
      obtain ⟨g1, g2, g3⟩ := goOn_iff.1 hg
      have hr := h.rank g1 g3
      rw [ih _ a b (by omega) (by omega) (by omega)]
    · rw [if_neg hg, if_neg hg]
theorem skipV_on {T : List (Int × BlkX)} {R tip x : Int} (h : TreeInv T R) (hg : goOn T R tip x = true) : skipV T R tip x = (bk T x).envs ++ skipV T R tip (bk T x).jb := by
  obtain ⟨g1, g2, g3⟩ := goOn_iff.1 hg
  have hr := h.rank g1 g3
  unfold skipV
  rw [show rankT T x = (bk T x).view.toNat + 1 from rfl, skipF, if_pos hg]
  congr 1
  unfold rankT at hr
  exact skipF_eq h _ _ _ _ (Nat.le_refl _) (by unfold rankT; omega) (Nat.le_refl _)
theorem skipV_off {T : List (Int × BlkX)} {R tip x : Int} (hg : goOn T R tip x = false) : skipV T R tip x = [] := by
  unfold skipV
  rw [show rankT T x = (bk T x).view.toNat + 1 from rfl, skipF, if_neg (by rw [hg]; decide)]
/-- The digests of envelopes that were digested before. -/
def dsOf (X : WX) (E : List EnvX) : List Int := E.map fun e => dg X.T (envB e)
theorem EnvsAt.of_cap {w : World} {m : Nat → Thing} {b : BlkX} {ua va : Option Addr} {uc vc : Nat} {l : List Thing} (h : Sys w m (blkT (bval b ua uc va vc) b :: l)) : EnvsAt w va b.envs := (show BlkAt w b ua uc va vc from h.memBlkV (.head _)).envs
section
variable {w w' : World} {m : Nat → Thing} {l r : List Thing} {p pt pg n : Nat} {d : Wd} {X : WX} {R tip : Int} {T : List (Int × BlkX)} {L : List EnvX} {I : List Int}
set_option maxRecDepth 100000 in
set_option maxHeartbeats 8000000 in
theorem prop_skip (x0 : Int) (hT : TreeInv T R) (hin : ∀ x, ∀ e ∈ (bk T x).envs, envB e ∈ X.T ∧ e.wf) (hlen : (skipV T R tip x0).length ≤ 100000) (hXT : X.T.length ≤ 1000000000) (hm0 : m 0 = worldT p d X) (hm1 : m 1 = treeT pt p R T) (hm2 : m 2 = logT pg p pt tip L I) (h : Sys w m l) :
    Calls Tryz.prog 29 #[.pointer (some ⟨p, 0, none⟩), .pointer (some ⟨pt, 0, none⟩), .pointer (some ⟨pg, 0, none⟩), .int .i64 x0] w fun z w' => ∃ v, z = .returned v ∧ Sys w' m (own 3 1 v (Lib.compact (rising (dsOf X (skipV T R tip x0)))).length ((Lib.compact (rising (dsOf X (skipV T R tip x0)))).map (Value.int .i64)) :: l) := by
  have HT := Lib.hid hT
  have HIN := Lib.hid hin
  have HLN := Lib.hid hlen
  have HXT := Lib.hid hXT
  have HM0 := Lib.hid hm0
  have HM1 := Lib.hid hm1
  have HM2 := Lib.hid hm2
  have H1 : Hid (Sys w m (own 3 1 (.slice none 0 0) ([] : List Int).length (([] : List Int).map (Value.int .i64)) :: l)) := h.push (F := fun _ => False) (t := own 3 1 (.slice none 0 0) 0 []) (Chg.refl _ _) ⟨Own.nil _ _ _, by funext k; simp [Value.ownBlock]⟩ (fun _ h => h.elim)
  clear h hT hin hlen hXT hm0 hm1 hm2
  go_enter Tryz.func29, Tryz.ntmps29
  go_wp2_with fail
  go_loopw [3, 9] (fun bv ov wr => ∃ (x : Int) (O : List EnvX), bv = .int .i64 x ∧ Hid (O ++ skipV T R tip x = skipV T R tip x0) ∧ Sys wr m (own 3 1 ov (dsOf X O).length ((dsOf X O).map (Value.int .i64)) :: l)) (fun bv _ _ => rankT T (intOf bv))
  case atStart => exact ⟨x0, [], rfl, by show _ = _; simp, H1.out⟩
  case round =>
    obtain ⟨x, O, rfl, HI, hR⟩ := hrel
    have HR := Lib.hid hR
    clear hR
    have HOL : Hid (O.length ≤ 100000) := by
      have h1 := congrArg List.length HI.out
      have := HLN.out
      rw [List.length_append] at h1
      show _ ≤ _
      omega
    have HHAS := Lib.hid (tree_has x HR.out HM1.out)
    cases hs : (alook T x).isSome with
    | false =>
      rw [hs] at HHAS
      have HG : Hid (goOn T R tip x = false) := by show _ = _; unfold goOn; rw [hs]; rfl
      clear hs
      go_wp2_with fail
      refine HHAS.out.mono ?_
      rintro z z1 ⟨rfl, h⟩
      have H2 := Lib.hid h
      clear h HHAS
      have HE : Hid (O = skipV T R tip x0) := by
        have := HI.out
        rw [skipV_off HG.out, List.append_nil] at this
        exact this
      rw [HE.out] at H2
      have HSO := Lib.hid (ints_sort H2.out rfl (by have := HLN.out; simp only [dsOf, List.length_map]; omega))
      go_wp2_with fail
      refine HSO.out.mono ?_
      rintro z z8 ⟨rfl, h⟩
      rw [← rising_length (dsOf X (skipV T R tip x0))] at h
      have HCO := Lib.hid (ints_compact h rfl (by rw [rising_length]; have := HLN.out; simp only [dsOf, List.length_map]; omega))
      clear h HSO
      go_wp2_with fail
      refine HCO.out.mono ?_
      rintro z z9 ⟨v9, rfl, h⟩
      have H9 := Lib.hid h
      clear h HCO
      go_wp2_with fail
      go_ret
      exact ⟨v9, rfl, H9.out⟩
    | true =>
      rw [hs] at HHAS
      have HS := Lib.hid hs
      clear hs
      by_cases ht : x = tip
      · have dt : (x != tip) = false := by simpa using ht
        have HG : Hid (goOn T R tip x = false) := by show _ = _; unfold goOn; simp [ht]
        clear ht
        go_wp2_with fail
        refine HHAS.out.mono ?_
        rintro z z1 ⟨rfl, h⟩
        have H2 := Lib.hid h
        clear h HHAS
        go_wp2_with fail
        refine (clog_tip H2.out HM2.out).mono ?_
        rintro z z2 ⟨rfl, rfl⟩
        have HE : Hid (O = skipV T R tip x0) := by
          have := HI.out
          rw [skipV_off HG.out, List.append_nil] at this
          exact this
        rw [HE.out] at H2
        have HSO := Lib.hid (ints_sort H2.out rfl (by have := HLN.out; simp only [dsOf, List.length_map]; omega))
        go_wp2_with fail
        refine HSO.out.mono ?_
        rintro z z8 ⟨rfl, h⟩
        rw [← rising_length (dsOf X (skipV T R tip x0))] at h
        have HCO := Lib.hid (ints_compact h rfl (by rw [rising_length]; have := HLN.out; simp only [dsOf, List.length_map]; omega))
        clear h HSO
        go_wp2_with fail
        refine HCO.out.mono ?_
        rintro z z9 ⟨v9, rfl, h⟩
        have H9 := Lib.hid h
        clear h HCO
        go_wp2_with fail
        go_ret
        exact ⟨v9, rfl, H9.out⟩
      · have dt : (x != tip) = true := by simpa using ht
        by_cases hr : x = R
        · have dr : (x != R) = false := by simpa using hr
          have HG : Hid (goOn T R tip x = false) := by show _ = _; unfold goOn; simp [hr]
          clear ht hr
          go_wp2_with fail
          refine HHAS.out.mono ?_
          rintro z z1 ⟨rfl, h⟩
          have H2 := Lib.hid h
          clear h HHAS
          go_wp2_with fail
          refine (clog_tip H2.out HM2.out).mono ?_
          rintro z z2 ⟨rfl, rfl⟩
          go_wp2_with fail
          refine (tree_root H2.out HM1.out).mono ?_
          rintro z z2 ⟨rfl, rfl⟩
          have HE : Hid (O = skipV T R tip x0) := by
            have := HI.out
            rw [skipV_off HG.out, List.append_nil] at this
            exact this
          rw [HE.out] at H2
          have HSO := Lib.hid (ints_sort H2.out rfl (by have := HLN.out; simp only [dsOf, List.length_map]; omega))
          go_wp2_with fail
          refine HSO.out.mono ?_
          rintro z z8 ⟨rfl, h⟩
          rw [← rising_length (dsOf X (skipV T R tip x0))] at h
          have HCO := Lib.hid (ints_compact h rfl (by rw [rising_length]; have := HLN.out; simp only [dsOf, List.length_map]; omega))
          clear h HSO
          go_wp2_with fail
          refine HCO.out.mono ?_
          rintro z z9 ⟨v9, rfl, h⟩
          have H9 := Lib.hid h
          clear h HCO
          go_wp2_with fail
          go_ret
          exact ⟨v9, rfl, H9.out⟩
        · have dr : (x != R) = true := by simpa using hr
          have HG : Hid (goOn T R tip x = true) := goOn_iff.2 ⟨HS.out, ht, hr⟩
          have HRK := Lib.hid (HT.out.rank HS.out hr)
          have HSV := Lib.hid (skipV_on HT.out HG.out)
          clear ht hr
          go_wp2_with fail
          refine HHAS.out.mono ?_
          rintro z z1 ⟨rfl, h⟩
          have H2 := Lib.hid h
          clear h HHAS
          go_wp2_with fail
          refine (clog_tip H2.out HM2.out).mono ?_
          rintro z z2 ⟨rfl, rfl⟩
          go_wp2_with fail
          refine (tree_root H2.out HM1.out).mono ?_
          rintro z z2 ⟨rfl, rfl⟩
          go_wp2_with fail
          refine (tree_block x H2.out HM1.out).mono ?_
          rintro z z3 ⟨ua, uc, va, vc, rfl, h⟩
          obtain ⟨nb, z4, EN, EX, ES, H4⟩ := h.box (.cells #[.int .i64 (bk T x).view, .int .i64 (bk T x).author, .int .i64 (bk T x).jv, .int .i64 (bk T x).jb, .slice ua (bk T x).by_.length uc, .slice va (bk T x).envs.length vc] 41 (0, 0))
          obtain ⟨ne, hne⟩ : ∃ n, n = (bk T x).envs.length := ⟨_, rfl⟩
          obtain ⟨E, hE⟩ : ∃ E, E = (bk T x).envs := ⟨_, rfl⟩
          have HIE : Hid (∀ e ∈ E, envB e ∈ X.T ∧ e.wf) := by rw [hE]; exact HIN.out x
          have HLE : Hid (E.length = ne) := by show _ = _; rw [hE, hne]
          have HEB : Hid (O.length + ne ≤ 100000) := by
            have h1 := congrArg List.length HI.out
            have := HLN.out
            rw [HSV.out, List.length_append, List.length_append, ← hne] at h1
            show _ ≤ _
            omega
          have HEE := Lib.hid hE
          have HEA : Hid (Cap (blkT (bval (bk T x) ua uc va vc) (bk T x) :: own 3 1 u9 (dsOf X O).length ((dsOf X O).map (Value.int .i64)) :: l) (fun y => EnvsAt y va E)) := by
            intro y m' hs
            have hb : BlkAt y (bk T x) ua uc va vc := hs.memBlkV (.head _)
            rw [hE]; exact hb.envs
          rw [← hne] at H4 EX ⊢
          clear h hne hE
          go_upto_region 4 with fail
          rw [EX.out, EN.out]
          obtain ⟨c0, c1, c2, c3, c4, c5⟩ := cells6 (H4.out.nth 0 rfl)
          go_wp2_with fail
          clear c0 c1 c2 c3 c4 c5
          go_loopw [9, 38] (fun ov i wr => ∃ j : Nat, j ≤ ne ∧ i = .int .i64 j ∧ Sys wr m (blk nb (.cells #[.int .i64 (bk T x).view, .int .i64 (bk T x).author, .int .i64 (bk T x).jv, .int .i64 (bk T x).jb, .slice ua (bk T x).by_.length uc, .slice va ne vc] 41 (0, 0)) :: blkT (bval (bk T x) ua uc va vc) (bk T x) :: own 3 1 ov (dsOf X (O ++ E.take j)).length ((dsOf X (O ++ E.take j)).map (Value.int .i64)) :: l)) (fun _ i _ => ne - (intOf i).toNat)
          case atStart => exact ⟨0, by omega, rfl, by rw [List.take_zero, List.append_nil]; exact H4.out⟩
          case round =>
            obtain ⟨j, hj, rfl, hR⟩ := hrel
            by_cases hlt : j < ne
            · have hjl : (j : Int) < (ne : Int) := by omega
              have hjw : IntKind.i64.wrap ((j : Int) + 1) = (j : Int) + 1 := by rw [IntKind.wrap_i64]; have := HEB.out; omega
              obtain ⟨⟨ec, en, ef, ei⟩, he⟩ : ∃ e, e = E.getD j default := ⟨_, rfl⟩
              have hel : j < E.length := by rw [HLE.out]; exact hlt
              have hat := EnvsAt.of_cap hR.tail
              rw [← HEE.out] at hat
              obtain ⟨eb, eo, rfl⟩ := hat.some_ hel
              have hce := hat.get hel
              rw [← he] at hce
              have HCE : Hid (∀ (k : Nat) (u : Value), ([.int .i64 ec, .int .u64 en, .int .u64 ef, .int .i64 ei] : List Value)[k]? = some u → wr.cell? ⟨eb, eo + j * 4 + k, none⟩ = some u) := hce
              have hmem : E.getD j default ∈ E := by rw [List.getD_eq_getElem?_getD, List.getElem?_eq_getElem hel]; exact List.getElem_mem hel
              have hie := HIE.out _ hmem
              rw [← he] at hie
              have HIEE := Lib.hid hie
              have HTK : Hid (O ++ E.take (j + 1) = (O ++ E.take j) ++ [⟨ec, en, ef, ei⟩]) := by
                show _ = _
                rw [he, List.take_succ_eq_append_getElem hel, List.getD_eq_getElem?_getD, List.getElem?_eq_getElem hel, List.append_assoc]; rfl
              have HSAME : Hid ({ X with T := addT X.T (envB ⟨ec, en, ef, ei⟩) } = X) := by show _ = _; unfold addT; rw [if_pos hie.1]
              obtain ⟨nx, y1, EN3, EX3, ES3, H5⟩ := hR.box (.cells #[.int .i64 ec, .int .u64 en, .int .u64 ef, .int .i64 ei] 55 (0, 0))
              clear hat hce he hR hmem hie
              go_upto_region 7 with (refine wpList_load_at rfl 55 _ rfl eb (eo + j * 4) rfl [.int .i64 ec, .int .u64 en, .int .u64 ef, .int .i64 ei] _ HCE.out Tryz.underlying55 rfl size4 ?_)
              rw [EX3.out, EN3.out]
              have hbe := H5.out.nth 0 rfl
              go_wp2_with (refine wpList_load_row rfl 55 _ rfl nx rfl _ _ _ _ hbe Tryz.underlying55 rfl size4 ?_)
              refine (world_digest ⟨ec, en, ef, ei⟩ HIEE.out.2 H5.out HM0.out HXT.out).mono ?_
              rintro z y2 ⟨rfl, h⟩
              rw [HSAME.out, upd_self HM0.out] at h
              obtain ⟨dj, hdj⟩ : ∃ x, x = dg X.T (envB ⟨ec, en, ef, ei⟩) := ⟨_, rfl⟩
              rw [← hdj]
              have h4 := h.alloc (.cells #[.int .i64 dj] 3 (0, 0)) rfl
              obtain ⟨v5, y3, hap5, hs5⟩ := (h4.front 4 rfl).appInts (k := 1) (some ⟨y2.heap.size, 0, none⟩) 1 [dj] rfl (ints_const (t := [dj]) h4.getBlk) (by have := HEB.out; simp only [dsOf, List.length_map, List.length_append, List.length_take]; omega) 32
              have HS5 : Hid (Sys y3 m (blk nb (.cells #[.int .i64 (bk T x).view, .int .i64 (bk T x).author, .int .i64 (bk T x).jv, .int .i64 (bk T x).jb, .slice ua (bk T x).by_.length uc, .slice (some ⟨eb, eo, none⟩) ne vc] 41 (0, 0)) :: blkT (bval (bk T x) ua uc (some ⟨eb, eo, none⟩) vc) (bk T x) :: own 3 1 v5 (dsOf X (O ++ E.take (j + 1))).length ((dsOf X (O ++ E.take (j + 1))).map (Value.int .i64)) :: l)) := by
                have e2 : dsOf X (O ++ E.take (j + 1)) = dsOf X (O ++ E.take j) ++ [dj] := by rw [HTK.out, hdj]; simp [dsOf]
                show Sys _ _ _
                rw [e2, List.length_append]
                exact (hs5.perm (l' := blk y2.heap.size _ :: blk nx _ :: blk nb (.cells #[.int .i64 (bk T x).view, .int .i64 (bk T x).author, .int .i64 (bk T x).jv, .int .i64 (bk T x).jb, .slice ua (bk T x).by_.length uc, .slice (some ⟨eb, eo, none⟩) ne vc] 41 (0, 0)) :: blkT (bval (bk T x) ua uc (some ⟨eb, eo, none⟩) vc) (bk T x) :: own 3 1 v5 _ _ :: l) (List.perm_middle (l₁ := [_, _, _, _]) (l₂ := l)).symm).tail.tail
              clear h h4 hs5 hbe hdj HTK HCE HIEE HSAME
              go_wp2_with (at_builtin; refine wpl_append rfl _ _ _ rfl rfl rfl hap5 ?_)
              go_roundw
              case rel => exact ⟨j + 1, by omega, by go_num, HS5.out⟩
              case measure => simp [intOf]; omega
            · obtain rfl : j = ne := by omega
              have HTK : Hid (E.take j = E) := List.take_of_length_le (by rw [HLE.out]; exact Nat.le_refl _)
              rw [HTK.out] at hR
              have H6 := Lib.hid hR.tail.tail
              clear hR
              go_wp2_with fail
              refine (tree_parent x H6.out HM1.out).mono ?_
              rintro z y4 ⟨rfl, rfl⟩
              have HI2 : Hid ((O ++ E) ++ skipV T R tip (bk T x).jb = skipV T R tip x0) := by
                show _ = _
                rw [HEE.out, List.append_assoc, ← HSV.out, HI.out]
              go_wp2_with fail
              refine ⟨?_, ?mn⟩
              · first
                | exact ⟨(bk T x).jb, O ++ E, rfl, HI2.out, H6.out⟩
                | (iterate 80 (first | apply Exists.intro | skip)
                   refine ⟨?rs, rfl⟩
                   case rs => exact ⟨(bk T x).jb, O ++ E, rfl, HI2.out, H6.out⟩)
              · simp [intOf]; exact HRK.out
end
end Go.Proofs.YtcfhkpjheemkgaaGreat
