/-
  prop.Make: a leader's block.
-/
import Derived.Test.YtcfhkpjheemkgaaGreatSkip
import Derived.Test.YtcfhkpjheemkgaaGreatBatch
import Derived.Test.YtcfhkpjheemkgaaGreatBlokOk
import Derived.Deep.DeepCutAuto
namespace Go.Proofs.YtcfhkpjheemkgaaGreat
set_option linter.unusedSectionVars false
set_option linter.unnecessarySimpa false
set_option linter.unusedSimpArgs false
set_option linter.unusedVariables false
open Go.RowKit Go.MapKept

theorem step_store_row {P : Program} {ops : Array Oper} {o : Oper} {a : Act} {w : World} {K : Act → World → Prop} {Q : Exit → Act → World → Prop} {D : Prop} (hgd : o.guard = none) (ty : TypeId) (x y : Operand) (ho : o.op = .store ty x y)
    (g : Nat) (cells : Array Value) (hx : a.eval x = .pointer (some ⟨g, 0, none⟩)) (hy : a.eval y = .agg cells)
    (t : TypeId) (old : Array Value) (hg : w.heap[g]? = some (.cells old t (0, 0))) (hi : (P.info? ty).map (·.size) = some cells.size)
    (hold : old.size = cells.size) (h1 : cells.all (·.oneCell') = true) (hK : K (a.put o.dst undef) (w.setRow g cells)) : if Region.wanted o (yielded ops a.tmps) = true then Oper.wp P o a w K Q else D := by
  have hw : Region.wanted o (yielded ops a.tmps) = true := by simp [Region.wanted, hgd]
  rw [if_pos hw]
  exact wp_store_row ty x y ho g cells hx hy t old hg hi hold h1 hK
theorem Sys.drop {w : World} {m : Nat → Thing} {t : Thing} {l : List Thing} (h : Sys w m l) (i : Nat) (hi : l[i]? = some t) : Sys w m (l.eraseIdx i) := (h.front i hi).tail
theorem batchN_mem (k : Nat) : ∀ (L : List EnvX) (e : EnvX), e ∈ batchN L k → e ∈ L := by
  induction k with
  | zero => intro L e h; simp [batchN] at h
  | succ k ih =>
    intro L e h
    unfold batchN at h
    split at h
    · simp at h
    · rename_i i hi
      rw [List.findIdx?_eq_some_iff_getElem] at hi
      obtain ⟨hl, _⟩ := hi
      rcases List.mem_cons.1 h with rfl | h
      · rw [List.getD_eq_getElem?_getD, List.getElem?_eq_getElem hl, Option.getD_some]
        exact List.getElem_mem hl
      · exact List.mem_of_mem_eraseIdx (ih _ _ h)
theorem batchN_length (k : Nat) : ∀ (L : List EnvX), (batchN L k).length ≤ L.length := by
  induction k with
  | zero => intro L; simp [batchN]
  | succ k ih =>
    intro L
    unfold batchN
    split
    · simp
    · rename_i i hi
      rw [List.findIdx?_eq_some_iff_getElem] at hi
      obtain ⟨hl, _⟩ := hi
      have h1 := ih (L.eraseIdx i)
      rw [List.length_eraseIdx_of_lt hl] at h1
      simp only [List.length_cons]
      omega
def makeB (T : List (Int × BlkX)) (c : CfgX) (who view hv hb : Int) : Bool := decide (who = leadOf c view) && (alook T hb).isSome && decide (hv < view)
/-- What of the pool goes into a block on top of another. -/
def packV (X : WX) (T : List (Int × BlkX)) (R tip hb : Int) (LP : List EnvX) (bt : Int) : List EnvX := batchN (LP.filter fun e => !(decide (dg X.T (envB e) ∈ Lib.compact (rising (dsOf X (skipV T R tip hb)))))) bt.toNat
section
variable {w w' : World} {m : Nat → Thing} {l r : List Thing} {p pt pg pp n : Nat} {d : Wd} {X : WX} {R tip most : Int} {T : List (Int × BlkX)} {L LP : List EnvX} {I HY : List Int} {c : CfgX} {who view hv hb : Int} {ha : Option Addr} {hc : Nat}
set_option maxRecDepth 100000 in
set_option maxHeartbeats 4000000 in
theorem prop_make_no (hg : c.Good) (hvr : -9223372036854775808 ≤ view ∧ view ≤ 9223372036854775807) (hno : makeB T c who view hv hb = false) (hm1 : m 1 = treeT pt p R T) (h : Sys w m l) :
    Calls Tryz.prog 15 #[.pointer (some ⟨p, 0, none⟩), .agg c.cells.toArray, .int .i64 who, .int .i64 view, .agg (#[.int .i64 hv, .int .i64 hb, .slice ha HY.length hc]), .pointer (some ⟨pt, 0, none⟩), .pointer (some ⟨pg, 0, none⟩), .pointer (some ⟨pp, 0, none⟩)] w fun z w' => z = .returned (.tuple #[.agg #[.int .i64 0, .int .i64 0, .int .i64 0, .int .i64 0, .slice none 0 0, .slice none 0 0], .bool false]) ∧ Sys w' m l := by
  obtain ⟨nc, x1, EN1, EX1, ES1, H1⟩ := h.box (.cells #[.int .i64 c.f, .int .i64 c.n, .int .i64 c.cl, .int .i64 c.ba, .int .i64 c.mo, .int .i64 c.bt, .int .i64 c.po, .int .i64 c.wi] 23 (0, 0))
  obtain ⟨nh, x2, EN2, EX2, ES2, H2⟩ := Sys.box' H1 ES1 (.cells #[.int .i64 hv, .int .i64 hb, .slice ha HY.length hc] 34 (0, 0))
  obtain ⟨nr, x3, EN3, EX3, ES3, H3⟩ := Sys.box' H2 ES2 (.cells #[.int .i64 0, .int .i64 0, .int .i64 0, .int .i64 0, .slice none 0 0, .slice none 0 0] 41 (0, 0))
  have HM1 := Lib.hid hm1
  have hbc := H3.out.nth 2 rfl
  change Calls Tryz.prog 15 #[_, .agg #[.int .i64 c.f, .int .i64 c.n, .int .i64 c.cl, .int .i64 c.ba, .int .i64 c.mo, .int .i64 c.bt, .int .i64 c.po, .int .i64 c.wi], _, _, _, _, _, _] w _
  have HLEAD := Lib.hid (blok_lead_of c hg view hvr H3.out)
  change Hid (Calls _ _ #[.agg #[.int .i64 c.f, .int .i64 c.n, .int .i64 c.cl, .int .i64 c.ba, .int .i64 c.mo, .int .i64 c.bt, .int .i64 c.po, .int .i64 c.wi], _] _ _) at HLEAD
  have HNO := Lib.hid hno
  clear h hg hvr hm1 hno
  by_cases h1 : who = leadOf c view
  · have d1 : (who != leadOf c view) = false := by simpa using h1
    have HWL := Lib.hid h1
    obtain ⟨ld, hld⟩ : ∃ x, x = leadOf c view := ⟨_, rfl⟩
    rw [← hld] at d1 HLEAD
    clear h1
    go_enter Tryz.func15, Tryz.ntmps15
    go_upto_region 1 with fail
    rw [EX1.out, EX2.out, EX3.out, EN3.out, EN2.out, EN1.out]
    go_wp2_with (refine wpList_load_row rfl 23 _ rfl nc rfl _ _ _ _ hbc Tryz.underlying23 rfl size8 ?_)
    refine HLEAD.out.mono ?_
    rintro z z1 ⟨rfl, h⟩
    have H4 := Lib.hid h
    clear h hbc HLEAD
    obtain ⟨q0, q1, q2⟩ := cells3 (H4.out.nth 1 rfl)
    cases hs : (alook T hb).isSome with
    | false =>
      have HH := Lib.hid (tree_has hb H4.out HM1.out)
      rw [hs] at HH
      clear hs
      go_wp2_with fail
      refine HH.out.mono ?_
      rintro z z2 ⟨rfl, h⟩
      have H5 := Lib.hid h
      clear h HH q0 q1 q2
      have hbr := H5.out.nth 0 rfl
      go_wp2_with (refine wpList_store_row rfl 41 _ _ rfl nr (#[.int .i64 0, .int .i64 0, .int .i64 0, .int .i64 0, .slice none 0 0, .slice none 0 0]) rfl rfl _ _ hbr size6B rfl (by simp [Value.oneCell']) ?_)
      have hzz := setRow_heap z2 nr _ (#[.int .i64 0, .int .i64 0, .int .i64 0, .int .i64 0, .slice none 0 0, .slice none 0 0]) _ _ hbr
      have H9 := Lib.hid (H5.out.store ((Chg.refl (· = nr) z2).row (#[.int .i64 0, .int .i64 0, .int .i64 0, .int .i64 0, .slice none 0 0, .slice none 0 0])) hzz)
      (try simp only [Exit.inBlock, Exit.then])
      refine bodyPost_ret (results_cell_tmp (cs := #[.int .i64 0, .int .i64 0, .int .i64 0, .int .i64 0, .slice none 0 0, .slice none 0 0]) rfl _ _ nr _ _ _ rfl (H9.out.nth 0 rfl) Tryz.underlying41 rfl size6B) rfl ?_
      exact ⟨rfl, H9.out.tail.tail.tail⟩
    | true =>
      have HH := Lib.hid (tree_has hb H4.out HM1.out)
      rw [hs] at HH
      have d3 : decide (view ≤ hv) = true := by
        have := HNO.out
        unfold makeB at this
        rw [hs, HWL.out] at this
        simp at this
        simpa using this
      clear hs
      go_wp2_with fail
      refine HH.out.mono ?_
      rintro z z2 ⟨rfl, h⟩
      have H5 := Lib.hid h
      clear h HH q0 q1 q2
      obtain ⟨q0, q1, q2⟩ := cells3 (H5.out.nth 1 rfl)
      have hbr := H5.out.nth 0 rfl
      go_wp2_with (refine wpList_store_row rfl 41 _ _ rfl nr (#[.int .i64 0, .int .i64 0, .int .i64 0, .int .i64 0, .slice none 0 0, .slice none 0 0]) rfl rfl _ _ hbr size6B rfl (by simp [Value.oneCell']) ?_)
      have hzz := setRow_heap z2 nr _ (#[.int .i64 0, .int .i64 0, .int .i64 0, .int .i64 0, .slice none 0 0, .slice none 0 0]) _ _ hbr
      have H9 := Lib.hid (H5.out.store ((Chg.refl (· = nr) z2).row (#[.int .i64 0, .int .i64 0, .int .i64 0, .int .i64 0, .slice none 0 0, .slice none 0 0])) hzz)
      (try simp only [Exit.inBlock, Exit.then])
      refine bodyPost_ret (results_cell_tmp (cs := #[.int .i64 0, .int .i64 0, .int .i64 0, .int .i64 0, .slice none 0 0, .slice none 0 0]) rfl _ _ nr _ _ _ rfl (H9.out.nth 0 rfl) Tryz.underlying41 rfl size6B) rfl ?_
      exact ⟨rfl, H9.out.tail.tail.tail⟩
  · have d1 : (who != leadOf c view) = true := by simpa using h1
    obtain ⟨ld, hld⟩ : ∃ x, x = leadOf c view := ⟨_, rfl⟩
    rw [← hld] at d1 HLEAD
    clear h1 hld
    go_enter Tryz.func15, Tryz.ntmps15
    go_upto_region 1 with fail
    rw [EX1.out, EX2.out, EX3.out, EN3.out, EN2.out, EN1.out]
    go_wp2_with (refine wpList_load_row rfl 23 _ rfl nc rfl _ _ _ _ hbc Tryz.underlying23 rfl size8 ?_)
    refine HLEAD.out.mono ?_
    rintro z z1 ⟨rfl, h⟩
    have H4 := Lib.hid h
    clear h hbc HLEAD
    have hbr := H4.out.nth 0 rfl
    go_wp2_with (refine wpList_store_row rfl 41 _ _ rfl nr (#[.int .i64 0, .int .i64 0, .int .i64 0, .int .i64 0, .slice none 0 0, .slice none 0 0]) rfl rfl _ _ hbr size6B rfl (by simp [Value.oneCell']) ?_)
    have hzz := setRow_heap z1 nr _ (#[.int .i64 0, .int .i64 0, .int .i64 0, .int .i64 0, .slice none 0 0, .slice none 0 0]) _ _ hbr
    have H9 := Lib.hid (H4.out.store ((Chg.refl (· = nr) z1).row (#[.int .i64 0, .int .i64 0, .int .i64 0, .int .i64 0, .slice none 0 0, .slice none 0 0])) hzz)
    (try simp only [Exit.inBlock, Exit.then])
    refine bodyPost_ret (results_cell_tmp (cs := #[.int .i64 0, .int .i64 0, .int .i64 0, .int .i64 0, .slice none 0 0, .slice none 0 0]) rfl _ _ nr _ _ _ rfl (H9.out.nth 0 rfl) Tryz.underlying41 rfl size6B) rfl ?_
    exact ⟨rfl, H9.out.tail.tail.tail⟩
set_option maxRecDepth 100000 in
set_option maxHeartbeats 8000000 in
theorem prop_make_yes (hg : c.Good) (hvr : -9223372036854775808 ≤ view ∧ view ≤ 9223372036854775807) (hwho : (Lit.int .i64 who).wf = true) (hyes : makeB T c who view hv hb = true)
    (hby : Cap l (fun y => IntsIn anyK y (.slice ha HY.length hc) HY)) (hT : TreeInv T R) (hin : ∀ x, ∀ e ∈ (bk T x).envs, envB e ∈ X.T ∧ e.wf) (hlen : (skipV T R tip hb).length ≤ 100000)
    (hsl : (Lib.compact (rising (dsOf X (skipV T R tip hb)))).length ≤ 1000000) (hwf : ∀ e ∈ LP, e.wf) (hpi : ∀ e ∈ LP, envB e ∈ X.T) (hpl : LP.length ≤ 1000000) (hbt : c.bt ≤ 1000000) (hXT : X.T.length ≤ 900000000)
    (hm0 : m 0 = worldT p d X) (hm1 : m 1 = treeT pt p R T) (hm2 : m 2 = logT pg p pt tip L I) (hm3 : m 3 = poolT pp p most LP) (h : Sys w m l) :
    Calls Tryz.prog 15 #[.pointer (some ⟨p, 0, none⟩), .agg c.cells.toArray, .int .i64 who, .int .i64 view, .agg (#[.int .i64 hv, .int .i64 hb, .slice ha HY.length hc]), .pointer (some ⟨pt, 0, none⟩), .pointer (some ⟨pg, 0, none⟩), .pointer (some ⟨pp, 0, none⟩)] w fun z w' => ∃ ua uc va vc, z = .returned (.tuple #[.agg (bval ⟨view, who, hv, hb, HY, packV X T R tip hb LP c.bt⟩ ua uc va vc).toArray, .bool true]) ∧ Sys w' (upd m 0 (worldT p d (signBlk X ⟨view, who, hv, hb, HY, packV X T R tip hb LP c.bt⟩))) (blkT (bval ⟨view, who, hv, hb, HY, packV X T R tip hb LP c.bt⟩ ua uc va vc) ⟨view, who, hv, hb, HY, packV X T R tip hb LP c.bt⟩ :: l) := by
  obtain ⟨nc, x1, EN1, EX1, ES1, H1⟩ := h.box (.cells #[.int .i64 c.f, .int .i64 c.n, .int .i64 c.cl, .int .i64 c.ba, .int .i64 c.mo, .int .i64 c.bt, .int .i64 c.po, .int .i64 c.wi] 23 (0, 0))
  obtain ⟨nh, x2, EN2, EX2, ES2, H2⟩ := Sys.box' H1 ES1 (.cells #[.int .i64 hv, .int .i64 hb, .slice ha HY.length hc] 34 (0, 0))
  obtain ⟨nr, x3, EN3, EX3, ES3, H3⟩ := Sys.box' H2 ES2 (.cells #[.int .i64 0, .int .i64 0, .int .i64 0, .int .i64 0, .slice none 0 0, .slice none 0 0] 41 (0, 0))
  have HM1 := Lib.hid hm1
  have hbc := H3.out.nth 2 rfl
  change Calls Tryz.prog 15 #[_, .agg #[.int .i64 c.f, .int .i64 c.n, .int .i64 c.cl, .int .i64 c.ba, .int .i64 c.mo, .int .i64 c.bt, .int .i64 c.po, .int .i64 c.wi], _, _, _, _, _, _] w _
  have HLEAD := Lib.hid (blok_lead_of c hg view hvr H3.out)
  change Hid (Calls _ _ #[.agg #[.int .i64 c.f, .int .i64 c.n, .int .i64 c.cl, .int .i64 c.ba, .int .i64 c.mo, .int .i64 c.bt, .int .i64 c.po, .int .i64 c.wi], _] _ _) at HLEAD
  obtain ⟨BL, hBL⟩ : ∃ s, s = packV X T R tip hb LP c.bt := ⟨_, rfl⟩
  rw [← hBL]
  have HBLW : Hid (∀ e ∈ BL, e.wf) := by
    rw [hBL]
    intro e he
    exact hwf e (List.mem_filter.1 (batchN_mem _ _ _ he)).1
  have HBLL : Hid (BL.length ≤ 1000000) := by
    rw [hBL]
    exact Nat.le_trans (batchN_length _ _) (Nat.le_trans (List.length_filter_le _ _) hpl)
  obtain ⟨SKL, hSK⟩ : ∃ s, s = Lib.compact (rising (dsOf X (skipV T R tip hb))) := ⟨_, rfl⟩
  unfold packV at hBL
  rw [← hSK] at hBL hsl
  have HBL := Lib.hid hBL
  have HSK := Lib.hid hSK
  have HSL := Lib.hid hsl
  have HWF := Lib.hid hwf
  have HPI := Lib.hid hpi
  have HPL := Lib.hid hpl
  have HBT := Lib.hid hbt
  have HXT : Hid (X.T.length ≤ 1000000000) := Nat.le_trans hXT (by decide)
  have HXT9 := Lib.hid hXT
  have HT := Lib.hid hT
  have HIN := Lib.hid hin
  have HLN := Lib.hid hlen
  have HM0 := Lib.hid hm0
  have HM2 := Lib.hid hm2
  have HM3 := Lib.hid hm3
  have HBY := Lib.hid hby
  have HWHO := Lib.hid hwho
  obtain ⟨hy1, hy2⟩ := Bool.and_eq_true _ _ ▸ hyes
  obtain ⟨hy0, hy1⟩ := Bool.and_eq_true _ _ ▸ hy1
  have d1 : (who != leadOf c view) = false := by simpa using hy0
  have d3 : decide (view ≤ hv) = false := by simpa using hy2
  have HS := Lib.hid hy1
  obtain ⟨ld, hld⟩ : ∃ x, x = leadOf c view := ⟨_, rfl⟩
  rw [← hld] at d1 HLEAD
  clear h hg hvr hwho hyes hby hT hin hlen hsl hwf hpi hpl hbt hXT hm0 hm1 hm2 hm3 hBL hSK hy0 hy1 hy2 hld
  go_enter Tryz.func15, Tryz.ntmps15
  go_upto_region 1 with fail
  rw [EX1.out, EX2.out, EX3.out, EN3.out, EN2.out, EN1.out]
  go_wp2_with (refine wpList_load_row rfl 23 _ rfl nc rfl _ _ _ _ hbc Tryz.underlying23 rfl size8 ?_)
  refine HLEAD.out.mono ?_
  rintro z z1 ⟨rfl, h⟩
  have H4 := Lib.hid h
  clear h hbc HLEAD
  have HH := Lib.hid (tree_has hb H4.out HM1.out)
  rw [HS.out] at HH
  obtain ⟨q0, q1, q2⟩ := cells3 (H4.out.nth 1 rfl)
  go_wp2_with fail
  refine HH.out.mono ?_
  rintro z z2 ⟨rfl, h⟩
  have H5 := Lib.hid h
  clear h HH q0 q1 q2
  obtain ⟨q0, q1, q2⟩ := cells3 (H5.out.nth 1 rfl)
  go_upto_region 3 with fail
  have Z0 := Lib.hid H5.out.drew
  clear q0 q1 q2
  go_cut [18] (fun s18 wx => ∃ nb ua uc va vc, s18 = .pointer (some ⟨nb, 0, none⟩) ∧ Sys wx m (blk nb (.cells #[.int .i64 view, .int .i64 who, .int .i64 hv, .int .i64 hb, .slice ua HY.length uc, .slice va BL.length vc] 41 (0, 0)) :: blkT (bval (⟨view, who, hv, hb, HY, BL⟩ : BlkX) ua uc va vc) (⟨view, who, hv, hb, HY, BL⟩ : BlkX) :: blk nr (.cells #[.int .i64 0, .int .i64 0, .int .i64 0, .int .i64 0, .slice none 0 0, .slice none 0 0] 41 (0, 0)) :: blk nh (.cells #[.int .i64 hv, .int .i64 hb, .slice ha HY.length hc] 34 (0, 0)) :: blk nc (.cells #[.int .i64 c.f, .int .i64 c.n, .int .i64 c.cl, .int .i64 c.ba, .int .i64 c.mo, .int .i64 c.bt, .int .i64 c.po, .int .i64 c.wi] 23 (0, 0)) :: l))
  case first =>
    refine wp_region_tree (fun x : World => x.heap[nh]? = some (.cells #[.int .i64 hv, .int .i64 hb, .slice ha HY.length hc] 34 (0, 0)) ∧ x.heap[nc]? = some (.cells #[.int .i64 c.f, .int .i64 c.n, .int .i64 c.cl, .int .i64 c.ba, .int .i64 c.mo, .int .i64 c.bt, .int .i64 c.po, .int .i64 c.wi] 23 (0, 0))) anyW [16] (.s 0 0 (some 38) (.s 1 0 (some 39) (.s 2 1 (some 40) (.s 3 0 (some 41) (.s 4 0 (some 42) (.s 5 1 (some 43) (.s 6 0 (some 44) (.s 7 0 (some 45) (.s 8 0 (some 46) (.s 9 0 (some 47) (.s 10 1 (some 48) (.b 11 2 (some 49) (.b 12 2 (some 50) (.s 13 0 (some 51) (.b 14 2 (some 52) (.s 15 2 (some 18) (.s 16 3 none .e)) 15 2 (some 18) (.s 14 2 (some 52) (.s 16 3 none .e)))) 15 2 (some 18) (.s 12 2 (some 50) (.s 13 0 (some 51) (.s 14 2 (some 52) (.s 16 3 none .e))))) 15 2 (some 18) (.s 11 2 (some 49) (.s 12 2 (some 50) (.s 13 0 (some 51) (.s 14 2 (some 52) (.s 16 3 none .e))))))))))))))))) (by kernel_rfl) (by kernel_rfl) (fun _ _ _ d _ h => by cases d <;> exact h) ⟨Z0.out.nth 1 rfl, Z0.out.nth 2 rfl⟩ anyW.i ?_
    repeat (first | (refine trW (v := ?_) rfl rfl (by kernel_rfl) ?_ ?_; rotate_left; (focus ((intro x; go_simp); try (with_reducible rfl))); try simp only [Act.put, List.setIfInBounds_toArray, List.set_cons_zero, List.set_cons_succ]) | (refine trS (v := ?_) rfl rfl (by kernel_rfl) ?_ ?_; rotate_left; (focus (intro x hS; first | (refine (exec_row 34 _ (by rfl) nh (by rfl) _ _ _ _ hS.1 Tryz.underlying34 rfl size3).trans ?_; with_reducible rfl) | (obtain ⟨hS1, hS2⟩ := hS; obtain ⟨q0, q1, q2⟩ := cells3 hS1; obtain ⟨k0, k1, k2, k3, k4, k5, k6, k7⟩ := cells8 hS2; go_simp; try (with_reducible rfl)))); try simp only [Act.put, List.setIfInBounds_toArray, List.set_cons_zero, List.set_cons_succ]) | (refine trX rfl rfl (by kernel_rfl) ?_; try simp only [Act.put, List.setIfInBounds_toArray, List.set_cons_zero, List.set_cons_succ]))
    refine trB ?_ ?_
    · refine trL rfl rfl (fun K hK => ?_)
      go_simp
      go_at_call 29
      refine (prop_skip hb HT.out HIN.out HLN.out HXT.out HM0.out HM1.out HM2.out Z0.out).mono ?_
      rintro z z1 ⟨vs, rfl, h⟩
      obtain ⟨sa, sk, sc, rfl, hsk⟩ := h.getOwn.slice
      obtain rfl := hsk.out
      rw [← HSK.out] at h
      simp only [← HSK.out]
      have Z1 := Lib.hid h
      clear h hsk
      refine hK.out _ _ anyW.i ?_ (fun _ hSt => ?_)
      · exact ⟨Z1.out.nth 2 rfl, Z1.out.nth 3 rfl⟩
      clear hSt hK K
      try simp only [Act.put, List.setIfInBounds_toArray, List.set_cons_zero, List.set_cons_succ]
      refine trB ?_ ?_
      · refine trL rfl rfl (fun K hK => ?_)
        go_simp
        go_at_call 30
        refine (pool_batch c.bt SKL sa SKL.length sc rfl HSL.out (fun y m' hs => (hs.getOwn).intsAt) HWF.out HPI.out HPL.out HBT.out HXT.out HM0.out HM3.out Z1.out).mono ?_
        rintro z z2 ⟨vb, rfl, h⟩
        obtain ⟨ba, bk', bc, rfl, hbk⟩ := h.getOwn.slice
        obtain rfl := hbk.out
        rw [← HBL.out] at h
        simp only [← HBL.out]
        have Z2 := Lib.hid h
        have HBV : Hid (BlkV anyK z2 (bval (⟨view, who, hv, hb, HY, BL⟩ : BlkX) ha hc ba bc) (⟨view, who, hv, hb, HY, BL⟩ : BlkX)) := ⟨_, _, rfl, HBY.out _ _ (Z2.out.tail.tail.tail.tail.tail), Z2.out.getOwn.sliceIn HBLL.out (fun _ _ => trivial)⟩
        clear h hbk
        refine hK.out _ _ anyW.i ?_ (fun _ hSt => ?_)
        · exact ⟨Z2.out.nth 3 rfl, Z2.out.nth 4 rfl⟩
        clear hSt hK K
        try simp only [Act.put, List.setIfInBounds_toArray, List.set_cons_zero, List.set_cons_succ]
        repeat (first | (refine trW (v := ?_) rfl rfl (by kernel_rfl) ?_ ?_; rotate_left; (focus ((intro x; go_simp); try (with_reducible rfl))); try simp only [Act.put, List.setIfInBounds_toArray, List.set_cons_zero, List.set_cons_succ]) | (refine trS (v := ?_) rfl rfl (by kernel_rfl) ?_ ?_; rotate_left; (focus (intro x hS; first | (refine (exec_row 34 _ (by rfl) nh (by rfl) _ _ _ _ hS.1 Tryz.underlying34 rfl size3).trans ?_; with_reducible rfl) | (obtain ⟨hS1, hS2⟩ := hS; obtain ⟨q0, q1, q2⟩ := cells3 hS1; obtain ⟨k0, k1, k2, k3, k4, k5, k6, k7⟩ := cells8 hS2; go_simp; try (with_reducible rfl)))); try simp only [Act.put, List.setIfInBounds_toArray, List.set_cons_zero, List.set_cons_succ]) | (refine trX rfl rfl (by kernel_rfl) ?_; try simp only [Act.put, List.setIfInBounds_toArray, List.set_cons_zero, List.set_cons_succ]))
        refine trB ?_ ?_
        · refine trL rfl rfl (fun K hK => ?_)
          go_simp
          go_at_call 39
          refine (blok_still anyK (bval (⟨view, who, hv, hb, HY, BL⟩ : BlkX) ha hc ba bc) (⟨view, who, hv, hb, HY, BL⟩ : BlkX) z2 HBV.out).mono ?_
          rintro z z3 ⟨cs', rfl, hbv, hB⟩
          obtain ⟨ua, uc, va, vc, rfl⟩ := hbv.val
          have Z3 := Lib.hid (Z2.out.pushBlk hB hbv)
          clear hbv hB
          refine hK.out _ _ anyW.i ?_ (fun _ hSt => ?_)
          · exact ⟨Z3.out.nth 4 rfl, Z3.out.nth 5 rfl⟩
          clear hSt hK K
          try simp only [Act.put, List.setIfInBounds_toArray, List.set_cons_zero, List.set_cons_succ]
          have Z4 := Lib.hid (Z3.out.alloc (.cells #[.int .i64 0, .int .i64 0, .int .i64 0, .int .i64 0, .slice none 0 0, .slice none 0 0] 41 (0, 0)) rfl)
          obtain ⟨nb, hnb⟩ : ∃ n, n = (z3).heap.size := ⟨_, rfl⟩
          obtain ⟨z4, hz4⟩ : ∃ x, x = (z3).alloc (.cells #[.int .i64 0, .int .i64 0, .int .i64 0, .int .i64 0, .slice none 0 0, .slice none 0 0] 41 (0, 0)) := ⟨_, rfl⟩
          rw [← hnb, ← hz4] at Z4
          have NB := Lib.hid hnb
          have HZ4 := Lib.hid hz4
          clear hnb hz4
          refine trL rfl rfl (fun K hK => ?_)
          go_simp
          rw [← HZ4.out, ← NB.out]
          refine hK.out _ _ anyW.i ?_ (fun _ hSt => ?_)
          · exact ⟨Z4.out.nth 5 rfl, Z4.out.nth 6 rfl⟩
          clear hSt hK K
          try simp only [Act.put, List.setIfInBounds_toArray, List.set_cons_zero, List.set_cons_succ]
          have h := Z4.out
          have hzz := setRow_heap z4 nb _ (#[.int .i64 view, .int .i64 who, .int .i64 hv, .int .i64 hb, .slice ua HY.length uc, .slice va BL.length vc]) _ _ h.getBlk
          have HF := Lib.hid (h.store ((Chg.refl (· = nb) z4).row (#[.int .i64 view, .int .i64 who, .int .i64 hv, .int .i64 hb, .slice ua HY.length uc, .slice va BL.length vc])) hzz)
          have hbb := h.getBlk
          refine trT rfl rfl (fun K hK => ?_)
          refine step_store_row rfl 41 _ _ rfl nb (#[.int .i64 view, .int .i64 who, .int .i64 hv, .int .i64 hb, .slice ua HY.length uc, .slice va BL.length vc]) rfl rfl _ _ hbb size6B rfl (by simp [Value.oneCell']) ?_
          clear h hzz hbb
          refine hK.out _ _ anyW.i (fun _ => ?_)
          clear hK K
          try simp only [Act.put, List.setIfInBounds_toArray, List.set_cons_zero, List.set_cons_succ]
          refine trE ?_
          go_wp2_with fail
          go_meet
          case rel => exact ⟨nb, ua, uc, va, vc, rfl, ((HF.out).drop 2 rfl).drop 2 rfl⟩
        · have Z3 := Lib.hid (Z2.out.alloc (.cells #[.int .i64 0, .int .i64 0, .int .i64 0, .int .i64 0, .slice none 0 0, .slice none 0 0] 41 (0, 0)) rfl)
          obtain ⟨nb, hnb⟩ : ∃ n, n = (z2).heap.size := ⟨_, rfl⟩
          obtain ⟨z3, hz3⟩ : ∃ x, x = (z2).alloc (.cells #[.int .i64 0, .int .i64 0, .int .i64 0, .int .i64 0, .slice none 0 0, .slice none 0 0] 41 (0, 0)) := ⟨_, rfl⟩
          rw [← hnb, ← hz3] at Z3
          have NB := Lib.hid hnb
          have HZ3 := Lib.hid hz3
          clear hnb hz3
          refine trL rfl rfl (fun K hK => ?_)
          go_simp
          rw [← HZ3.out, ← NB.out]
          refine hK.out _ _ anyW.i ?_ (fun _ hSt => ?_)
          · exact ⟨Z3.out.nth 4 rfl, Z3.out.nth 5 rfl⟩
          clear hSt hK K
          try simp only [Act.put, List.setIfInBounds_toArray, List.set_cons_zero, List.set_cons_succ]
          have HBV2 : Hid (BlkV anyK z3 (bval (⟨view, who, hv, hb, HY, BL⟩ : BlkX) ha hc ba bc) (⟨view, who, hv, hb, HY, BL⟩ : BlkX)) := ⟨_, _, rfl, HBY.out _ _ (Z3.out.tail.tail.tail.tail.tail.tail), Z3.out.tail.getOwn.sliceIn HBLL.out (fun _ _ => trivial)⟩
          refine trL rfl rfl (fun K hK => ?_)
          go_simp
          go_at_call 39
          refine (blok_still anyK (bval (⟨view, who, hv, hb, HY, BL⟩ : BlkX) ha hc ba bc) (⟨view, who, hv, hb, HY, BL⟩ : BlkX) z3 HBV2.out).mono ?_
          rintro z z4 ⟨cs', rfl, hbv, hB⟩
          obtain ⟨ua, uc, va, vc, rfl⟩ := hbv.val
          have Z4 := Lib.hid (Z3.out.pushBlk hB hbv)
          clear hbv hB
          refine hK.out _ _ anyW.i ?_ (fun _ hSt => ?_)
          · exact ⟨Z4.out.nth 5 rfl, Z4.out.nth 6 rfl⟩
          clear hSt hK K
          try simp only [Act.put, List.setIfInBounds_toArray, List.set_cons_zero, List.set_cons_succ]
          have h := Z4.out.front 1 rfl
          have hzz := setRow_heap z4 nb _ (#[.int .i64 view, .int .i64 who, .int .i64 hv, .int .i64 hb, .slice ua HY.length uc, .slice va BL.length vc]) _ _ h.getBlk
          have HF := Lib.hid (h.store ((Chg.refl (· = nb) z4).row (#[.int .i64 view, .int .i64 who, .int .i64 hv, .int .i64 hb, .slice ua HY.length uc, .slice va BL.length vc])) hzz)
          have hbb := h.getBlk
          refine trT rfl rfl (fun K hK => ?_)
          refine step_store_row rfl 41 _ _ rfl nb (#[.int .i64 view, .int .i64 who, .int .i64 hv, .int .i64 hb, .slice ua HY.length uc, .slice va BL.length vc]) rfl rfl _ _ hbb size6B rfl (by simp [Value.oneCell']) ?_
          clear h hzz hbb
          refine hK.out _ _ anyW.i (fun _ => ?_)
          clear hK K
          try simp only [Act.put, List.setIfInBounds_toArray, List.set_cons_zero, List.set_cons_succ]
          refine trE ?_
          go_wp2_with fail
          go_meet
          case rel => exact ⟨nb, ua, uc, va, vc, rfl, ((HF.out).drop 2 rfl).drop 2 rfl⟩
      · have Z2 := Lib.hid (Z1.out.alloc (.cells #[.int .i64 0, .int .i64 0, .int .i64 0, .int .i64 0, .slice none 0 0, .slice none 0 0] 41 (0, 0)) rfl)
        obtain ⟨nb, hnb⟩ : ∃ n, n = (z1).heap.size := ⟨_, rfl⟩
        obtain ⟨z2, hz2⟩ : ∃ x, x = (z1).alloc (.cells #[.int .i64 0, .int .i64 0, .int .i64 0, .int .i64 0, .slice none 0 0, .slice none 0 0] 41 (0, 0)) := ⟨_, rfl⟩
        rw [← hnb, ← hz2] at Z2
        have NB := Lib.hid hnb
        have HZ2 := Lib.hid hz2
        clear hnb hz2
        refine trL rfl rfl (fun K hK => ?_)
        go_simp
        rw [← HZ2.out, ← NB.out]
        refine hK.out _ _ anyW.i ?_ (fun _ hSt => ?_)
        · exact ⟨Z2.out.nth 3 rfl, Z2.out.nth 4 rfl⟩
        clear hSt hK K
        try simp only [Act.put, List.setIfInBounds_toArray, List.set_cons_zero, List.set_cons_succ]
        refine trL rfl rfl (fun K hK => ?_)
        go_simp
        go_at_call 30
        refine (pool_batch c.bt SKL sa SKL.length sc rfl HSL.out (fun y m' hs => (hs.tail.getOwn).intsAt) HWF.out HPI.out HPL.out HBT.out HXT.out HM0.out HM3.out Z2.out).mono ?_
        rintro z z3 ⟨vb, rfl, h⟩
        obtain ⟨ba, bk', bc, rfl, hbk⟩ := h.getOwn.slice
        obtain rfl := hbk.out
        rw [← HBL.out] at h
        simp only [← HBL.out]
        have Z3 := Lib.hid h
        have HBV : Hid (BlkV anyK z3 (bval (⟨view, who, hv, hb, HY, BL⟩ : BlkX) ha hc ba bc) (⟨view, who, hv, hb, HY, BL⟩ : BlkX)) := ⟨_, _, rfl, HBY.out _ _ (Z3.out.tail.tail.tail.tail.tail.tail), Z3.out.getOwn.sliceIn HBLL.out (fun _ _ => trivial)⟩
        clear h hbk
        refine hK.out _ _ anyW.i ?_ (fun _ hSt => ?_)
        · exact ⟨Z3.out.nth 4 rfl, Z3.out.nth 5 rfl⟩
        clear hSt hK K
        try simp only [Act.put, List.setIfInBounds_toArray, List.set_cons_zero, List.set_cons_succ]
        repeat (first | (refine trW (v := ?_) rfl rfl (by kernel_rfl) ?_ ?_; rotate_left; (focus ((intro x; go_simp); try (with_reducible rfl))); try simp only [Act.put, List.setIfInBounds_toArray, List.set_cons_zero, List.set_cons_succ]) | (refine trS (v := ?_) rfl rfl (by kernel_rfl) ?_ ?_; rotate_left; (focus (intro x hS; first | (refine (exec_row 34 _ (by rfl) nh (by rfl) _ _ _ _ hS.1 Tryz.underlying34 rfl size3).trans ?_; with_reducible rfl) | (obtain ⟨hS1, hS2⟩ := hS; obtain ⟨q0, q1, q2⟩ := cells3 hS1; obtain ⟨k0, k1, k2, k3, k4, k5, k6, k7⟩ := cells8 hS2; go_simp; try (with_reducible rfl)))); try simp only [Act.put, List.setIfInBounds_toArray, List.set_cons_zero, List.set_cons_succ]) | (refine trX rfl rfl (by kernel_rfl) ?_; try simp only [Act.put, List.setIfInBounds_toArray, List.set_cons_zero, List.set_cons_succ]))
        refine trL rfl rfl (fun K hK => ?_)
        go_simp
        go_at_call 39
        refine (blok_still anyK (bval (⟨view, who, hv, hb, HY, BL⟩ : BlkX) ha hc ba bc) (⟨view, who, hv, hb, HY, BL⟩ : BlkX) z3 HBV.out).mono ?_
        rintro z z4 ⟨cs', rfl, hbv, hB⟩
        obtain ⟨ua, uc, va, vc, rfl⟩ := hbv.val
        have Z4 := Lib.hid (Z3.out.pushBlk hB hbv)
        clear hbv hB
        refine hK.out _ _ anyW.i ?_ (fun _ hSt => ?_)
        · exact ⟨Z4.out.nth 5 rfl, Z4.out.nth 6 rfl⟩
        clear hSt hK K
        try simp only [Act.put, List.setIfInBounds_toArray, List.set_cons_zero, List.set_cons_succ]
        have h := Z4.out.front 2 rfl
        have hzz := setRow_heap z4 nb _ (#[.int .i64 view, .int .i64 who, .int .i64 hv, .int .i64 hb, .slice ua HY.length uc, .slice va BL.length vc]) _ _ h.getBlk
        have HF := Lib.hid (h.store ((Chg.refl (· = nb) z4).row (#[.int .i64 view, .int .i64 who, .int .i64 hv, .int .i64 hb, .slice ua HY.length uc, .slice va BL.length vc])) hzz)
        have hbb := h.getBlk
        refine trT rfl rfl (fun K hK => ?_)
        refine step_store_row rfl 41 _ _ rfl nb (#[.int .i64 view, .int .i64 who, .int .i64 hv, .int .i64 hb, .slice ua HY.length uc, .slice va BL.length vc]) rfl rfl _ _ hbb size6B rfl (by simp [Value.oneCell']) ?_
        clear h hzz hbb
        refine hK.out _ _ anyW.i (fun _ => ?_)
        clear hK K
        try simp only [Act.put, List.setIfInBounds_toArray, List.set_cons_zero, List.set_cons_succ]
        refine trE ?_
        go_wp2_with fail
        go_meet
        case rel => exact ⟨nb, ua, uc, va, vc, rfl, ((HF.out).drop 2 rfl).drop 2 rfl⟩
    · have Z1 := Lib.hid (H5.out.alloc (.cells #[.int .i64 0, .int .i64 0, .int .i64 0, .int .i64 0, .slice none 0 0, .slice none 0 0] 41 (0, 0)) rfl).drew
      obtain ⟨nb, hnb⟩ : ∃ n, n = z2.heap.size := ⟨_, rfl⟩
      obtain ⟨z1, hz1⟩ : ∃ x, x = (z2.alloc (.cells #[.int .i64 0, .int .i64 0, .int .i64 0, .int .i64 0, .slice none 0 0, .slice none 0 0] 41 (0, 0))).drew := ⟨_, rfl⟩
      rw [← hnb, ← hz1] at Z1
      have NB := Lib.hid hnb
      have HZ1 := Lib.hid hz1
      clear hnb hz1
      refine trL rfl rfl (fun K hK => ?_)
      go_simp
      rw [← HZ1.out, ← NB.out]
      refine hK.out _ _ anyW.i ?_ (fun _ hSt => ?_)
      · exact ⟨Z1.out.nth 2 rfl, Z1.out.nth 3 rfl⟩
      clear hSt hK K
      try simp only [Act.put, List.setIfInBounds_toArray, List.set_cons_zero, List.set_cons_succ]
      refine trL rfl rfl (fun K hK => ?_)
      go_simp
      go_at_call 29
      refine (prop_skip hb HT.out HIN.out HLN.out HXT.out HM0.out HM1.out HM2.out Z1.out).mono ?_
      rintro z z2 ⟨vs, rfl, h⟩
      obtain ⟨sa, sk, sc, rfl, hsk⟩ := h.getOwn.slice
      obtain rfl := hsk.out
      rw [← HSK.out] at h
      simp only [← HSK.out]
      have Z2 := Lib.hid h
      clear h hsk
      refine hK.out _ _ anyW.i ?_ (fun _ hSt => ?_)
      · exact ⟨Z2.out.nth 3 rfl, Z2.out.nth 4 rfl⟩
      clear hSt hK K
      try simp only [Act.put, List.setIfInBounds_toArray, List.set_cons_zero, List.set_cons_succ]
      refine trL rfl rfl (fun K hK => ?_)
      go_simp
      go_at_call 30
      refine (pool_batch c.bt SKL sa SKL.length sc rfl HSL.out (fun y m' hs => (hs.getOwn).intsAt) HWF.out HPI.out HPL.out HBT.out HXT.out HM0.out HM3.out Z2.out).mono ?_
      rintro z z3 ⟨vb, rfl, h⟩
      obtain ⟨ba, bk', bc, rfl, hbk⟩ := h.getOwn.slice
      obtain rfl := hbk.out
      rw [← HBL.out] at h
      simp only [← HBL.out]
      have Z3 := Lib.hid h
      have HBV : Hid (BlkV anyK z3 (bval (⟨view, who, hv, hb, HY, BL⟩ : BlkX) ha hc ba bc) (⟨view, who, hv, hb, HY, BL⟩ : BlkX)) := ⟨_, _, rfl, HBY.out _ _ (Z3.out.tail.tail.tail.tail.tail.tail), Z3.out.getOwn.sliceIn HBLL.out (fun _ _ => trivial)⟩
      clear h hbk
      refine hK.out _ _ anyW.i ?_ (fun _ hSt => ?_)
      · exact ⟨Z3.out.nth 4 rfl, Z3.out.nth 5 rfl⟩
      clear hSt hK K
      try simp only [Act.put, List.setIfInBounds_toArray, List.set_cons_zero, List.set_cons_succ]
      repeat (first | (refine trW (v := ?_) rfl rfl (by kernel_rfl) ?_ ?_; rotate_left; (focus ((intro x; go_simp); try (with_reducible rfl))); try simp only [Act.put, List.setIfInBounds_toArray, List.set_cons_zero, List.set_cons_succ]) | (refine trS (v := ?_) rfl rfl (by kernel_rfl) ?_ ?_; rotate_left; (focus (intro x hS; first | (refine (exec_row 34 _ (by rfl) nh (by rfl) _ _ _ _ hS.1 Tryz.underlying34 rfl size3).trans ?_; with_reducible rfl) | (obtain ⟨hS1, hS2⟩ := hS; obtain ⟨q0, q1, q2⟩ := cells3 hS1; obtain ⟨k0, k1, k2, k3, k4, k5, k6, k7⟩ := cells8 hS2; go_simp; try (with_reducible rfl)))); try simp only [Act.put, List.setIfInBounds_toArray, List.set_cons_zero, List.set_cons_succ]) | (refine trX rfl rfl (by kernel_rfl) ?_; try simp only [Act.put, List.setIfInBounds_toArray, List.set_cons_zero, List.set_cons_succ]))
      refine trL rfl rfl (fun K hK => ?_)
      go_simp
      go_at_call 39
      refine (blok_still anyK (bval (⟨view, who, hv, hb, HY, BL⟩ : BlkX) ha hc ba bc) (⟨view, who, hv, hb, HY, BL⟩ : BlkX) z3 HBV.out).mono ?_
      rintro z z4 ⟨cs', rfl, hbv, hB⟩
      obtain ⟨ua, uc, va, vc, rfl⟩ := hbv.val
      have Z4 := Lib.hid (Z3.out.pushBlk hB hbv)
      clear hbv hB
      refine hK.out _ _ anyW.i ?_ (fun _ hSt => ?_)
      · exact ⟨Z4.out.nth 5 rfl, Z4.out.nth 6 rfl⟩
      clear hSt hK K
      try simp only [Act.put, List.setIfInBounds_toArray, List.set_cons_zero, List.set_cons_succ]
      have h := Z4.out.front 3 rfl
      have hzz := setRow_heap z4 nb _ (#[.int .i64 view, .int .i64 who, .int .i64 hv, .int .i64 hb, .slice ua HY.length uc, .slice va BL.length vc]) _ _ h.getBlk
      have HF := Lib.hid (h.store ((Chg.refl (· = nb) z4).row (#[.int .i64 view, .int .i64 who, .int .i64 hv, .int .i64 hb, .slice ua HY.length uc, .slice va BL.length vc])) hzz)
      have hbb := h.getBlk
      refine trT rfl rfl (fun K hK => ?_)
      refine step_store_row rfl 41 _ _ rfl nb (#[.int .i64 view, .int .i64 who, .int .i64 hv, .int .i64 hb, .slice ua HY.length uc, .slice va BL.length vc]) rfl rfl _ _ hbb size6B rfl (by simp [Value.oneCell']) ?_
      clear h hzz hbb
      refine hK.out _ _ anyW.i (fun _ => ?_)
      clear hK K
      try simp only [Act.put, List.setIfInBounds_toArray, List.set_cons_zero, List.set_cons_succ]
      refine trE ?_
      go_wp2_with fail
      go_meet
      case rel => exact ⟨nb, ua, uc, va, vc, rfl, ((HF.out).drop 2 rfl).drop 2 rfl⟩
  case rest =>
    obtain ⟨nb, ua, uc, va, vc, rfl, hR⟩ := hcut
    have H6 := Lib.hid hR
    have HSG := Lib.hid (blok_sign (⟨view, who, hv, hb, HY, BL⟩ : BlkX) ua uc va vc (fun y m' hs => hs.tail.memBlkV (.head _)) HBLW.out HWHO.out hR HM0.out HXT9.out)
    have hbn := H6.out.nth 0 rfl
    clear hR
    go_wp2_with (refine wpList_load_row rfl 41 _ rfl nb rfl _ _ _ _ hbn Tryz.underlying41 rfl size6B ?_)
    refine HSG.out.mono ?_
    rintro z z7 ⟨rfl, h⟩
    have H7 := Lib.hid (h.front 2 rfl)
    clear h hbn HSG
    have hbn := H7.out.nth 1 rfl
    have hbr := H7.out.nth 0 rfl
    go_wp2_with (first | (refine wpList_load_row rfl 41 _ rfl nb rfl _ _ _ _ hbn Tryz.underlying41 rfl size6B ?_) | (refine wpList_store_row rfl 41 _ _ rfl nr (#[.int .i64 view, .int .i64 who, .int .i64 hv, .int .i64 hb, .slice ua HY.length uc, .slice va BL.length vc]) rfl rfl _ _ hbr size6B rfl (by simp [Value.oneCell']) ?_))
    have hzz := setRow_heap z7 nr _ (#[.int .i64 view, .int .i64 who, .int .i64 hv, .int .i64 hb, .slice ua HY.length uc, .slice va BL.length vc]) _ _ hbr
    have H9 := Lib.hid (H7.out.store ((Chg.refl (· = nr) z7).row (#[.int .i64 view, .int .i64 who, .int .i64 hv, .int .i64 hb, .slice ua HY.length uc, .slice va BL.length vc])) hzz)
    (try simp only [Exit.inBlock, Exit.then])
    refine bodyPost_ret (results_cell_tmp (cs := #[.int .i64 view, .int .i64 who, .int .i64 hv, .int .i64 hb, .slice ua HY.length uc, .slice va BL.length vc]) rfl _ _ nr _ _ _ rfl hzz Tryz.underlying41 rfl size6B) rfl ?_
    exact ⟨ua, uc, va, vc, rfl, (((H9.out.tail.tail).drop 1 rfl).drop 1 rfl)⟩
end
end Go.Proofs.YtcfhkpjheemkgaaGreat
