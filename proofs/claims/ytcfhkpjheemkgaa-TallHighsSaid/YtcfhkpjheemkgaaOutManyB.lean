/-
  tall.Out, with a certificate (others did).
-/
import Derived.Test.YtcfhkpjheemkgaaOutMany
import Derived.Deep.DeepCutAuto
namespace Go.Proofs.Ytcfhkpjheemkgaa
set_option linter.unusedSectionVars false
set_option linter.unnecessarySimpa false
set_option linter.unusedSimpArgs false
set_option linter.unusedVariables false
open Go.RowKit Go.MapKept

section
variable {w w' : World} {m : Nat → Thing} {l : List Thing} {p q : Nat} {d : Wd} {X : WX} {V : List ((Int × Int) × List Int)} {O : List (Int × List (Int × QcX))}
set_option maxRecDepth 100000 in
set_option maxHeartbeats 4000000 in
theorem tally_out_many2 (c : CfgX) (hg : c.Good) (who view : Int) (qx : QcX) (ga : Option Addr) (gc g : Nat) (hgn : qx.by_.length = g) (hgl : g ≤ 10000) (hga : ga = none → g = 0) (hGI : Cap l (fun x => IntsAt x ga qx.by_)) (h : Sys w m (tallyT q p c V O :: l)) (hw : m 0 = worldT p d X) (hX : X.Ok) (hr : rootB ∈ X.T) (hT : X.T.length ≤ 900000000) (hco : countsB X c who view qx = true) (hbys : ∀ x ∈ outL ((alook O view).getD []) who qx, x.2.by_.length ≤ 10000) (hq2 : (outL ((alook O view).getD []) who qx).length ≤ 1000000) (hcs : alook O view ≠ none ∧ alook ((alook O view).getD []) who = none) (hq0 : ((outL ((alook O view).getD []) who qx).length : Int) ≥ 2 * c.f + 1) :
    Calls Try.prog 44 #[.pointer (some ⟨q, 0, none⟩), .int .i64 who, .int .i64 view, .agg #[.int .i64 qx.view, .int .i64 qx.block, .slice ga g gc]] w (YesOut m l p q d X c V (aset O view (outL ((alook O view).getD []) who qx)) view (outL ((alook O view).getD []) who qx)) := by
  obtain ⟨⟨vb, ob⟩, h⟩ := h.open
  replace h : Sys w m (blk q (.cells #[.pointer (some ⟨p, 0, none⟩), .int .i64 c.f, .int .i64 c.n, .int .i64 c.cl, .int .i64 c.ba, .int .i64 c.mo, .int .i64 c.bt, .int .i64 c.po, .int .i64 c.wi, .map (some vb), .map (some ob)] 143 (0, 0)) :: votesT vb V :: outsT ob O :: l) := h
  have HG := Lib.hid hg
  have HGI := Lib.hid hGI
  have HX := Lib.hid hX
  have HRT := Lib.hid hr
  have HTL := Lib.hid hT
  have HGN := Lib.hid hgn
  have HGL := Lib.hid hgl
  have HGA := Lib.hid hga
  have HQ0 := Lib.hid hq0
  have HQ2 := Lib.hid hq2
  have HBYS := Lib.hid hbys
  have HCS := Lib.hid hcs
  have HWW : Hid ((Lit.int .i64 who).wf = true) := by
    have hr : repB c who = true := by
      cases e : repB c who with
      | true => rfl
      | false => unfold countsB at hco; rw [e] at hco; cases hco
    unfold repB at hr
    simp only [decide_eq_true_eq] at hr
    obtain ⟨g0, g1, g2⟩ := hg
    exact wf_mk (by omega) (by omega)
  obtain ⟨nq, hnq⟩ : ∃ n, n = w.heap.size := ⟨_, rfl⟩
  obtain ⟨xq, hxq⟩ : ∃ y, y = w.alloc (.cells #[.int .i64 qx.view, .int .i64 qx.block, .slice ga g gc] 28 (0, 0)) := ⟨_, rfl⟩
  have hbq := h.alloc (.cells #[.int .i64 qx.view, .int .i64 qx.block, .slice ga g gc] 28 (0, 0)) hnq
  rw [← hxq] at hbq
  have EXq : Hid (w.alloc (.cells #[.int .i64 qx.view, .int .i64 qx.block, .slice ga g gc] 28 (0, 0)) = xq) := hxq.symm
  have ENq : Hid (w.heap.size = nq) := by show _ = _; rw [hnq]
  obtain ⟨nr, hnr⟩ : ∃ n, n = xq.heap.size := ⟨_, rfl⟩
  obtain ⟨xr, hxr⟩ : ∃ y, y = xq.alloc (.cells #[.int .i64 0, .slice none 0 0, .slice none 0 0, .int .i64 0, .int .i64 0, .slice none 0 0] 30 (0, 0)) := ⟨_, rfl⟩
  have hbr := hbq.alloc (.cells #[.int .i64 0, .slice none 0 0, .slice none 0 0, .int .i64 0, .int .i64 0, .slice none 0 0] 30 (0, 0)) hnr
  rw [← hxr] at hbr
  have EXr : Hid (xq.alloc (.cells #[.int .i64 0, .slice none 0 0, .slice none 0 0, .int .i64 0, .int .i64 0, .slice none 0 0] 30 (0, 0)) = xr) := hxr.symm
  have ENr : Hid (w.heap.size + 1 = nr) := by show _ = _; rw [hnr, hxq]; simp
  have H0 := Lib.hid hbr
  clear h hbq hxq hnq hbr hxr hnr
  clear hg hGI hX hr hT hgn hgl hga hq0 hq2 hbys hcs
  have hbq := H0.out.tail.getBlk
  have HC1 := Lib.hid (tally_counts c HG.out who view qx ga gc g HGN.out (by have := HGL.out; omega) HGI.out.push.push.push.push.push (H0.out.perm (perm_c _ _ _ _ _ _)) hw HX.out HRT.out HTL.out)
  rw [hco] at HC1
  clear hco
  go_enter Try.func44, Try.ntmps44
  go_upto_region 1 with fail
  rw [EXq.out, EXr.out, ENr.out, ENq.out]
  go_wp2_with (refine wpList_load_row rfl 28 _ rfl nq rfl _ _ _ _ hbq Try.underlying28 rfl size3 ?_)
  refine HC1.out.mono ?_
  rintro e w2 ⟨rfl, X1, HEX, h2⟩
  have HE := Lib.hid HEX
  have H3 := Lib.hid (h2.perm (perm_d _ _ _ _ _ _))
  clear h2 HEX hbq HC1
  go_upto_region 3 with fail
  cases hk : alook O view with
  | none =>
    exact absurd HCS.out (by rw [hk]; simp [alook])
  | some L0 =>
    obtain ⟨b, I, mq, R, hkm, hLI, hwi, hst, hcl⟩ := outs_focus H3.out hk
    have hmo := Sys.memMap (K := intKey) (b := ob) (x := mq) hst (by simp)
    have ch : w2.cell? ⟨q, 10, none⟩ = some (.map (some ob)) := cell_of_blk (Sys.memBlk (n := q) (o := .cells #[.pointer (some ⟨p, 0, none⟩), .int .i64 c.f, .int .i64 c.n, .int .i64 c.cl, .int .i64 c.ba, .int .i64 c.mo, .int .i64 c.bt, .int .i64 c.po, .int .i64 c.wi, .map (some vb), .map (some ob)] 143 (0, 0)) hst (by simp)) 10
    have e3 := hmo.lookup (P := Try.prog) Try.underlying141 Try.underlying3 (zeroMapB w2) view false
    rw [hkm] at e3
    simp only [Bool.false_eq_true, if_false, intKey, Option.getD] at e3
    have qT := fun (w : World) (r : Option Nat) => run_eql_map_nil (P := Try.prog) w 153 3 28 r Try.underlying153
    have HCL := Lib.hid hcl
    have HV0 : Hid ((alook O view).getD [] = iKv I) := by show _ = _; rw [hk]; exact hLI
    have HS5 := Lib.hid hst
    have HWI := Lib.hid hwi
    clear hkm hLI hwi hst hcl hmo
    go_upto_region 6 with fail
    clear e3 qT ch
    obtain ⟨w5, hw5⟩ : ∃ y, y = w2 := ⟨_, rfl⟩
    rw [← hw5] at HS5 ⊢
    clear hw5
    cases hi : alook (iKv I) who with
    | none =>
      have HNI := Lib.hid hi
      clear hi
      have e6 := HS5.out.getMap.lookup (P := Try.prog) Try.underlying153 Try.underlying3 (zeroQC w5) who true
      have hni : alook (iMap I) who = none := by
        have h := HNI.out
        rw [alook_none] at h ⊢
        simpa [iMap, iKv, List.map_map, Function.comp_def] using h
      rw [hni] at e6
      simp only [if_true, intKey, Option.getD, Option.isSome] at e6
      obtain ⟨nv, hnv⟩ : ∃ n, w5.heap.size = n := ⟨_, rfl⟩
      obtain ⟨w7, hw7⟩ : ∃ y, w5.alloc (.cells #[.int .i64 0, .int .i64 0, .slice none 0 0] 28 (0, 0)) = y := ⟨_, rfl⟩
      have hs7 := HS5.out.alloc (.cells #[.int .i64 0, .int .i64 0, .slice none 0 0] 28 (0, 0)) hnv.symm
      rw [hw7] at hs7
      have H7 := Lib.hid hs7
      have HW7 := Lib.hid hw7
      have HNV := Lib.hid hnv
      clear hw7 hnv hs7
      go_upto_region 7 with fail
      rw [HW7.out, HNV.out]
      have hs7 := H7.out
      have cq : w7.cell? ⟨nq, 2, none⟩ = some (.slice ga g gc) := cell_of_blk (Sys.memBlk (n := nq) (o := .cells #[.int .i64 qx.view, .int .i64 qx.block, .slice ga g gc] 28 (0, 0)) hs7 (by simp)) 2
      have HCN := Lib.hid (clone_ints_at ga gc g qx.by_ w7 (HGI.out w7 _ (sub_out hs7)) HGN.out HGA.out (by have := HGL.out; omega))
      clear hs7 hni e6
      go_wp2_with fail
      refine HCN.out.mono ?_
      rintro e w8 ⟨v8, rfl, ho8, hn8, hB8⟩
      obtain ⟨va, vk, vc, rfl, HVK⟩ := ho8.slice
      have h8 := H7.out.pushOwn hB8 ho8 hn8
      have hbq := Sys.memBlk (n := nq) (o := .cells #[.int .i64 qx.view, .int .i64 qx.block, .slice ga g gc] 28 (0, 0)) h8 (by simp)
      have cq8 : w8.cell? ⟨nq, 2, none⟩ = some (.slice ga g gc) := cell_of_blk hbq 2
      have fq8 := frozen_of_blk hbq 2
      have h8p := h8.perm (l' := blk nq (.cells #[.int .i64 qx.view, .int .i64 qx.block, .slice ga g gc] 28 (0, 0)) :: own 3 1 (.slice va vk vc) g (qx.by_.map (Value.int .i64)) :: blk nv (.cells #[.int .i64 0, .int .i64 0, .slice none 0 0] 28 (0, 0)) :: (mapT intKey b (iMap I) :: (I.map OutI.row ++ (mapT intKey ob mq :: (R ++ (blk q (.cells #[.pointer (some ⟨p, 0, none⟩), .int .i64 c.f, .int .i64 c.n, .int .i64 c.cl, .int .i64 c.ba, .int .i64 c.mo, .int .i64 c.bt, .int .i64 c.po, .int .i64 c.wi, .map (some vb), .map (some ob)] 143 (0, 0)) :: blk nr (.cells #[.int .i64 0, .slice none 0 0, .slice none 0 0, .int .i64 0, .int .i64 0, .slice none 0 0] 30 (0, 0)) :: votesT vb V :: l)))))) (perm_q _ _ _ _ _ _ _ _ _ _ _)
      have h9 := h8p.setCell (i := 2) (.slice va vk vc)
      obtain ⟨w9, hw9⟩ : ∃ y, y = w8.setCell ⟨nq, 2, none⟩ (.slice va vk vc) := ⟨_, rfl⟩
      rw [← hw9] at h9
      have HW9 := Lib.hid hw9
      have H9 : Hid (Sys w9 (upd m 0 (worldT p d X1)) (blk nq (.cells #[.int .i64 qx.view, .int .i64 qx.block, .slice va vk vc] 28 (0, 0)) :: own 3 1 (.slice va vk vc) g (qx.by_.map (Value.int .i64)) :: blk nv (.cells #[.int .i64 0, .int .i64 0, .slice none 0 0] 28 (0, 0)) :: (mapT intKey b (iMap I) :: (I.map OutI.row ++ (mapT intKey ob mq :: (R ++ (blk q (.cells #[.pointer (some ⟨p, 0, none⟩), .int .i64 c.f, .int .i64 c.n, .int .i64 c.cl, .int .i64 c.ba, .int .i64 c.mo, .int .i64 c.bt, .int .i64 c.po, .int .i64 c.wi, .map (some vb), .map (some ob)] 143 (0, 0)) :: blk nr (.cells #[.int .i64 0, .slice none 0 0, .slice none 0 0, .int .i64 0, .int .i64 0, .slice none 0 0] 30 (0, 0)) :: votesT vb V :: l))))))) := h9
      clear ho8 hn8 hB8 h8 h8p h9 hbq hw9 HCN H7 cq
      go_upto_region 9 with fail
      rw [← HW9.out]
      have hp9 := H9.out.perm (l' := mapT intKey b (iMap I) :: (I.map OutI.row ++ (own 3 1 (.slice va vk vc) g (qx.by_.map (Value.int .i64)) :: mapT intKey ob mq :: (R ++ (blk nv (.cells #[.int .i64 0, .int .i64 0, .slice none 0 0] 28 (0, 0)) :: blk q (.cells #[.pointer (some ⟨p, 0, none⟩), .int .i64 c.f, .int .i64 c.n, .int .i64 c.cl, .int .i64 c.ba, .int .i64 c.mo, .int .i64 c.bt, .int .i64 c.po, .int .i64 c.wi, .map (some vb), .map (some ob)] 143 (0, 0)) :: blk nq (.cells #[.int .i64 qx.view, .int .i64 qx.block, .slice va vk vc] 28 (0, 0)) :: blk nr (.cells #[.int .i64 0, .slice none 0 0, .slice none 0 0, .int .i64 0, .int .i64 0, .slice none 0 0] 30 (0, 0)) :: votesT vb V :: l))))) (perm_n _ _ _ _ _ _ _ _ _ _ _)
      have hbq9 := H9.out.getBlk
      have hni : alook (iMap I) who = none := by
        have h := HNI.out
        rw [alook_none] at h ⊢
        simpa [iMap, iKv, List.map_map, Function.comp_def] using h
      obtain ⟨wA, hu, hmu, hcu, -⟩ := hp9.getMap.update (P := Try.prog) Try.underlying153 Try.underlying3 who (.agg #[.int .i64 qx.view, .int .i64 qx.block, .slice va vk vc])
      rw [aset_none hni] at hmu
      simp only [intKey] at hu
      have hA := hp9.mapTo hmu hcu
      obtain ⟨NVT, hNVT⟩ : ∃ t : Thing, t = blk nv (.cells #[.int .i64 0, .int .i64 0, .slice none 0 0] 28 (0, 0)) := ⟨_, rfl⟩
      obtain ⟨QT, hQT⟩ : ∃ t : Thing, t = blk nq (.cells #[.int .i64 qx.view, .int .i64 qx.block, .slice va vk vc] 28 (0, 0)) := ⟨_, rfl⟩
      obtain ⟨I1, hI1⟩ : ∃ I1 : List OutI, I1 = I ++ [⟨who, qx, .slice va vk vc⟩] := ⟨_, rfl⟩
      have HC0 : Hid (Sys wA (upd m 0 (worldT p d X1)) (mapT intKey b (iMap I1) :: (I1.map OutI.row ++ (mapT intKey ob mq :: (R ++ (NVT :: blk q (.cells #[.pointer (some ⟨p, 0, none⟩), .int .i64 c.f, .int .i64 c.n, .int .i64 c.cl, .int .i64 c.ba, .int .i64 c.mo, .int .i64 c.bt, .int .i64 c.po, .int .i64 c.wi, .map (some vb), .map (some ob)] 143 (0, 0)) :: QT :: blk nr (.cells #[.int .i64 0, .slice none 0 0, .slice none 0 0, .int .i64 0, .int .i64 0, .slice none 0 0] 30 (0, 0)) :: votesT vb V :: l)))))) := by
        show Sys _ _ _
        rw [hI1, hNVT, hQT]
        have e1 : iMap (I ++ [⟨who, qx, .slice va vk vc⟩]) = iMap I ++ [(who, .agg #[.int .i64 qx.view, .int .i64 qx.block, .slice va vk vc])] := by simp [iMap, OutI.cell]
        have e2 : (I ++ [(⟨who, qx, .slice va vk vc⟩ : OutI)]).map OutI.row = I.map OutI.row ++ [own 3 1 (.slice va vk vc) g (qx.by_.map (Value.int .i64))] := by simp [OutI.row, HGN.out]
        rw [e1, e2, List.append_assoc]
        exact hA
      have HL1 : Hid (iKv I1 = outL ((alook O view).getD []) who qx) := by
        show _ = _
        rw [HV0.out, hI1]
        unfold outL
        rw [HNI.out]
        simp [iKv]
      have HW1 : Hid (AllWf (I1.map (·.who))) := by
        show AllWf _
        rw [hI1]
        intro a ha
        rw [List.map_append] at ha
        rcases List.mem_append.1 ha with h | h
        · exact HWI.out a h
        · simp at h; rw [h]; exact HWW.out
      clear hp9 hni hmu hcu hA hNVT hQT hI1 HWI
      go_upto_region 10 with (refine wpList_load_row rfl 28 _ rfl nq rfl _ _ _ _ hbq9 Try.underlying28 rfl size3 ?_)
      clear hbq9 hu
      have hq10 : decide ((I1.length : Int) < 2 * c.f + 1) = false := by have h1 := HQ0.out; have h2 := congrArg List.length HL1.out; simp only [iKv, List.length_map] at h2; rw [← h2] at h1; simp; omega
      have hS1 := HC0.out.drew
      refine wp_region_stage (fun x : World => Sys x (upd m 0 (worldT p d X1)) (mapT intKey b (iMap I1) :: (I1.map OutI.row ++ (mapT intKey ob mq :: (R ++ (NVT :: blk q (.cells #[.pointer (some ⟨p, 0, none⟩), .int .i64 c.f, .int .i64 c.n, .int .i64 c.cl, .int .i64 c.ba, .int .i64 c.mo, .int .i64 c.bt, .int .i64 c.po, .int .i64 c.wi, .map (some vb), .map (some ob)] 143 (0, 0)) :: QT :: blk nr (.cells #[.int .i64 0, .slice none 0 0, .slice none 0 0, .int .i64 0, .int .i64 0, .slice none 0 0] 30 (0, 0)) :: votesT vb V :: l)))))) [] (by kernel_rfl) ?_
      refine takeW 0 (some 57) (v := ?_) rfl (by rfl) (by kernel_rfl) (by kernel_rfl) (by kernel_rfl) (fun _ _ _ h => h) (by kernel_rfl) (by kernel_rfl) ?_ (Stage.still (by assumption)) ?_
      rotate_left
      · (intro w; go_simp; try (with_reducible rfl))
      try simp only [Act.put, List.setIfInBounds_toArray, List.set_cons_zero, List.set_cons_succ]
      refine takeS 1 (some 58) (v := ?_) rfl (by rfl) (by kernel_rfl) (by kernel_rfl) (by kernel_rfl) (fun _ _ _ h => h) (by kernel_rfl) (by kernel_rfl) (by kernel_rfl) ?_ (by assumption) ?_
      rotate_left
      · (intro w hSw; have e := hSw.getMap.len (P := Try.prog) (ty := 3) Try.underlying153; rw [show (iMap I1).length = I1.length by simp [iMap]] at e; clear hSw; go_simp; try (with_reducible rfl))
      try simp only [Act.put, List.setIfInBounds_toArray, List.set_cons_zero, List.set_cons_succ]
      refine takeW 2 (some 59) (v := ?_) rfl (by rfl) (by kernel_rfl) (by kernel_rfl) (by kernel_rfl) (fun _ _ _ h => h) (by kernel_rfl) (by kernel_rfl) ?_ (Stage.still (by assumption)) ?_
      rotate_left
      · (intro w; go_simp; try (with_reducible rfl))
      try simp only [Act.put, List.setIfInBounds_toArray, List.set_cons_zero, List.set_cons_succ]
      refine takeW 3 (some 60) (v := ?_) rfl (by rfl) (by kernel_rfl) (by kernel_rfl) (by kernel_rfl) (fun _ _ _ h => h) (by kernel_rfl) (by kernel_rfl) ?_ (Stage.still (by assumption)) ?_
      rotate_left
      · (intro w; go_simp; try (with_reducible rfl))
      try simp only [Act.put, List.setIfInBounds_toArray, List.set_cons_zero, List.set_cons_succ]
      refine takeW 4 (some 61) (v := ?_) rfl (by rfl) (by kernel_rfl) (by kernel_rfl) (by kernel_rfl) (fun _ _ _ h => h) (by kernel_rfl) (by kernel_rfl) ?_ (Stage.still (by assumption)) ?_
      rotate_left
      · (intro w; go_simp; try (with_reducible rfl))
      try simp only [Act.put, List.setIfInBounds_toArray, List.set_cons_zero, List.set_cons_succ]
      refine takeS 5 (some 62) (v := ?_) rfl (by rfl) (by kernel_rfl) (by kernel_rfl) (by kernel_rfl) (fun _ _ _ h => h) (by kernel_rfl) (by kernel_rfl) (by kernel_rfl) ?_ (by assumption) ?_
      rotate_left
      · (intro w hSw; have hb := Sys.memBlk (n := q) (o := .cells #[.pointer (some ⟨p, 0, none⟩), .int .i64 c.f, .int .i64 c.n, .int .i64 c.cl, .int .i64 c.ba, .int .i64 c.mo, .int .i64 c.bt, .int .i64 c.po, .int .i64 c.wi, .map (some vb), .map (some ob)] 143 (0, 0)) hSw (by simp); have c0 : w.cell? ⟨q, 1, none⟩ = some (.int .i64 c.f) := cell_of_blk hb 1; have c1 : w.cell? ⟨q, 2, none⟩ = some (.int .i64 c.n) := cell_of_blk hb 2; have c2 : w.cell? ⟨q, 3, none⟩ = some (.int .i64 c.cl) := cell_of_blk hb 3; have c3 : w.cell? ⟨q, 4, none⟩ = some (.int .i64 c.ba) := cell_of_blk hb 4; have c4 : w.cell? ⟨q, 5, none⟩ = some (.int .i64 c.mo) := cell_of_blk hb 5; have c5 : w.cell? ⟨q, 6, none⟩ = some (.int .i64 c.bt) := cell_of_blk hb 6; have c6 : w.cell? ⟨q, 7, none⟩ = some (.int .i64 c.po) := cell_of_blk hb 7; have c7 : w.cell? ⟨q, 8, none⟩ = some (.int .i64 c.wi) := cell_of_blk hb 8; clear hSw hb; go_simp; try (with_reducible rfl))
      try simp only [Act.put, List.setIfInBounds_toArray, List.set_cons_zero, List.set_cons_succ]
      refine oneT 6 (by kernel_rfl) rfl (fun K hK => ?_)
      go_simp
      go_at_call 48
      refine (cert_quorum c HG.out hS1).mono ?_
      rintro e wB ⟨rfl, hB⟩
      have hS1 := hB
      clear hB
      go_wp2_with fail
      refine hK.out _ _ (Stage.still ?_) (fun hSt => ?_)
      · (try dsimp only); exact hS1
      clear hK K hSt
      try simp only [Act.put, List.setIfInBounds_toArray, List.set_cons_zero, List.set_cons_succ]
      refine takeW 7 (some 64) (v := ?_) rfl (by rfl) (by kernel_rfl) (by kernel_rfl) (by kernel_rfl) (fun _ _ _ h => h) (by kernel_rfl) (by kernel_rfl) ?_ (Stage.still (by assumption)) ?_
      rotate_left
      · (intro w; go_simp; try (with_reducible rfl))
      try simp only [Act.put, List.setIfInBounds_toArray, List.set_cons_zero, List.set_cons_succ]
      refine doneT (by kernel_rfl) ?_ _
      have HCW := Lib.hid hS1
      clear hS1 HC0
      obtain ⟨nt, hnt⟩ : ∃ n, n = wB.heap.size := ⟨_, rfl⟩
      obtain ⟨wC, hwC⟩ : ∃ y, y = wB.alloc (.cells #[.int .i64 view, .slice none 0 0, .slice none 0 0, .int .i64 0, .int .i64 0, .slice none 0 0] 30 (0, 0)) := ⟨_, rfl⟩
      have hC := HCW.out.alloc (.cells #[.int .i64 view, .slice none 0 0, .slice none 0 0, .int .i64 0, .int .i64 0, .slice none 0 0] 30 (0, 0)) hnt
      rw [← hwC] at hC
      have HWC := Lib.hid hwC
      have HNT := Lib.hid hnt
      have HC1 := Lib.hid hC
      clear hnt hwC hC
      go_upto_region 13 with fail
      rw [← HWC.out, ← HNT.out]
      go_wp2_with fail
      refine (keys_TryB (some b) _).mono ?_
      rintro e _ ⟨rfl, rfl⟩
      go_wp2_with fail
      have CS := sorted_TryB b _ wC HC1.out.tail.getMap (by
        intro pr hp
        obtain ⟨i, hi, rfl⟩ := List.mem_map.1 hp
        exact HW1.out i.who (List.mem_map.2 ⟨i, hi, rfl⟩)) (by have h1 := HQ2.out; have h2 := congrArg List.length HL1.out; simp only [iKv, List.length_map] at h2; rw [show (iMap I1).length = I1.length by simp [iMap]]; omega)
      refine CS.mono ?_
      rintro e wD ⟨kv0, rfl, hN, hBD⟩
      obtain ⟨ho, hnew⟩ := hN.own
      rw [show (iMap I1).map (·.1) = I1.map (·.who) by simp [iMap, List.map_map, Function.comp_def]] at ho
      obtain ⟨ks, hks⟩ : ∃ ks, ks = rising (I1.map (·.who)) := ⟨_, rfl⟩
      rw [← hks] at ho
      obtain ⟨ka, kk, kc, rfl, HKK⟩ := ho.slice
      have hD := (HC1.out.alloc0 (.cells #[.map (some b)] 153)).pushOwn (by simpa using hBD) ho (fun k hk => by have h9 := hnew k hk; simp; omega)
      have HKS := Lib.hid hks
      have HD1 := Lib.hid hD.swap
      have HN1 : Hid (1 ≤ ks.length) := by
        show _ ≤ _
        have h1 := HQ0.out
        have h2 := congrArg List.length HL1.out
        simp only [iKv, List.length_map] at h2
        rw [hks, rising_length, List.length_map]
        have h3 := HG.out.1
        omega
      have HNL : Hid (ks.length ≤ 1000000) := by
        show _ ≤ _
        have h1 := HQ2.out
        have h2 := congrArg List.length HL1.out
        simp only [iKv, List.length_map] at h2
        rw [hks, rising_length, List.length_map]
        omega
      have HENT : Hid (∀ x, x ∈ ks → ∃ i, i ∈ I1 ∧ i.who = x ∧ alook (iMap I1) x = some i.cell ∧ alook (iKv I1) x = some i.q) := fun x hx => by
        rw [hks, mem_rising] at hx
        have h1 : alook (iKv I1) x ≠ none := fun h => alook_none.1 h (by simpa [iKv, List.map_map, Function.comp_def] using hx)
        cases h2 : alook (iKv I1) x with
        | none => exact (h1 h2).elim
        | some qs =>
          obtain ⟨j, i, a1, a2, a3, a4⟩ := alook_map2 OutI.who OutI.q OutI.cell I1 x qs h2
          exact ⟨i, List.mem_of_getElem? a1, a2, a4, by rw [a3]⟩
      clear CS hN hBD ho hnew hks hD
      obtain ⟨nk, HNK⟩ : ∃ n, Hid (ks.length = n) := ⟨_, rfl⟩
      have hkk : kk = nk := HKK.out.trans HNK.out
      subst hkk
      rw [HNK.out] at HN1 HNL
      have hn1 := HN1.out
      have hn2 := HNL.out
      obtain ⟨ii8, hi8, hz8, hs8, hby8⟩ := info_parts' (P := Try.prog) (e := 3) (z := some (.int .i64 0)) (s := 1) (b := 8) (by kernel_rfl)
      have HI8 := Lib.hid hi8
      have HS8 := Lib.hid hs8
      have HZ8 := Lib.hid hz8
      have HBY8 := Lib.hid hby8
      clear hi8 hs8 hz8 hby8
      go_wp2_with fail
      go_loopw [72] (fun i wr => ∃ j : Nat, j ≤ kk ∧ i = .int .i64 j ∧ ∃ vB vH hv hb vhb, Sys wr (upd m 0 (worldT p d X1)) (blk nt (.cells #[.int .i64 view, vB, vH, .int .i64 hv, .int .i64 hb, vhb] 30 (0, 0)) :: own 3 1 (vB) (j) ((ks.take j).map (Value.int .i64)) :: own 3 1 (vH) (j) (((ks.map (viewOf (iKv I1))).take j).map (Value.int .i64)) :: own 3 1 (.slice ka kk kc) (ks.length) ((ks).map (Value.int .i64)) :: (mapT intKey b (iMap I1) :: (I1.map OutI.row ++ (mapT intKey ob mq :: (R ++ (NVT :: blk q (.cells #[.pointer (some ⟨p, 0, none⟩), .int .i64 c.f, .int .i64 c.n, .int .i64 c.cl, .int .i64 c.ba, .int .i64 c.mo, .int .i64 c.bt, .int .i64 c.po, .int .i64 c.wi, .map (some vb), .map (some ob)] 143 (0, 0)) :: QT :: blk nr (.cells #[.int .i64 0, .slice none 0 0, .slice none 0 0, .int .i64 0, .int .i64 0, .slice none 0 0] 30 (0, 0)) :: votesT vb V :: l)))))) ∧ Hid (HiOk I1 ks j hv hb vhb)) (fun i _ => kk - (intOf i).toNat)
      case atStart =>
        refine ⟨0, by omega, rfl, .slice none 0 0, .slice none 0 0, 0, 0, .slice none 0 0, ?_, .inl ⟨rfl, rfl, rfl, rfl⟩⟩
        have h1 := (HD1.out.push (F := fun _ => False) (t := own 3 1 (.slice none 0 0) 0 []) (Chg.refl _ _) ⟨Own.nil _ _ _, by funext k; simp [Value.ownBlock]⟩ (fun _ h => h.elim)).push (F := fun _ => False) (t := own 3 1 (.slice none 0 0) 0 []) (Chg.refl _ _) ⟨Own.nil _ _ _, by funext k; simp [Value.ownBlock]⟩ (fun _ h => h.elim)
        exact (h1.front 2 rfl)
      case round =>
        obtain ⟨j, hj, rfl, vB, vH, gv, gb, gy, hR, HOK0⟩ := hrel
        have HJN : Hid (j ≤ 1000000) := by show _ ≤ _; omega
        obtain ⟨bA, bK, bC, rfl, HBK⟩ := (hR.tail.getOwn).slice
        obtain ⟨sA, sK, sC, rfl, HHK⟩ := (hR.tail.tail.getOwn).slice
        have hbk := HBK.out.symm
        subst hbk
        by_cases hlt : j < kk
        · have hjl : (j : Int) < (kk : Int) := by omega
          have hwj : IntKind.i64.wrap ((j : Int) + 1) = (j : Int) + 1 := by rw [IntKind.wrap_i64]; omega
          have hjL : j < ks.length := by rw [HNK.out]; exact hlt
          obtain ⟨xb, xo, rfl, hcx⟩ : ∃ b off, ka = some ⟨b, off, none⟩ ∧ wr.cell? ⟨b, off + j, none⟩ = some (.int .i64 (ks.getD j 0)) := by
            rcases own_ints_at hR.tail.tail.tail.getOwn rfl with h | ⟨b, off, rfl, h⟩
            · rw [h] at hjL; simp at hjL
            · exact ⟨b, off, rfl, h j hjL⟩
          obtain ⟨kx, hkx⟩ : ∃ x, x = ks.getD j 0 := ⟨_, rfl⟩
          rw [← hkx] at hcx
          have hmx : kx ∈ ks := by rw [hkx, List.getD_eq_getElem?_getD, List.getElem?_eq_getElem hjL]; exact List.getElem_mem hjL
          obtain ⟨ie, himem, hiwho, hilk, hikv⟩ := HENT.out kx hmx
          obtain ⟨iw, iq, iv⟩ := ie
          obtain ⟨kv, kb, kby⟩ := iq
          obtain ⟨iA, iK, iC, hiv, -⟩ := (Sys.memOwn (E := 3) (size := 1) (v := iv) (n := kby.length) (xs := kby.map (Value.int .i64)) hR (by
            refine List.mem_cons_of_mem _ (List.mem_cons_of_mem _ (List.mem_cons_of_mem _ (List.mem_cons_of_mem _ (List.mem_cons_of_mem _ (List.mem_append_left _ (List.mem_map.2 ⟨_, himem, rfl⟩)))))))).slice
          subst hiv
          have HLK : Hid (alook (iMap I1) kx = some (.agg #[.int .i64 kv, .int .i64 kb, .slice iA iK iC])) := hilk
          have e16 := (Sys.memMap (K := intKey) (b := b) (x := iMap I1) hR (by simp)).lookup (P := Try.prog) Try.underlying153 Try.underlying3 (zeroQC wr) kx false
          rw [HLK.out] at e16
          simp only [Bool.false_eq_true, if_false, intKey, Option.getD] at e16
          have e17 := field_qc (.int .i64 kv) (.int .i64 kb) (.slice iA iK iC) wr
          have hbt := hR.getBlk
          have c1 : wr.cell? ⟨nt, 1, none⟩ = some (.slice bA j bC) := cell_of_blk hbt 1
          have c3 : wr.cell? ⟨nt, 3, none⟩ = some (.int .i64 gv) := cell_of_blk hbt 3
          have c4 : wr.cell? ⟨nt, 4, none⟩ = some (.int .i64 gb) := cell_of_blk hbt 4
          have c5 : wr.cell? ⟨nt, 5, none⟩ = some gy := cell_of_blk hbt 5
          have f3 := frozen_of_blk hbt 3
          have f4 := frozen_of_blk hbt 4
          have f5 := frozen_of_blk hbt 5
          have HR := Lib.hid hR
          have hvof : viewOf (iKv I1) kx = kv := by unfold viewOf; rw [hikv]; rfl
          have HTK : Hid (ks.take (j + 1) = ks.take j ++ [kx]) := by
            show _ = _
            rw [List.take_succ_eq_append_getElem hjL, hkx]; simp [List.getD, hjL]
          have HTV : Hid ((ks.map (viewOf (iKv I1))).take (j + 1) = (ks.map (viewOf (iKv I1))).take j ++ [kv]) := by
            show _ = _
            rw [← List.map_take, HTK.out, List.map_append, List.map_take]
            simp [hvof]
          have HMX : Hid (0 < j → maxI ((ks.map (viewOf (iKv I1))).take (j + 1)) = max (maxI ((ks.map (viewOf (iKv I1))).take j)) kv) := fun h0 => by
            rw [maxI_take h0 (by simpa using hjL)]
            congr 1
            rw [List.getD_eq_getElem?_getD, List.getElem?_map, List.getElem?_eq_getElem hjL]
            have : ks[j] = kx := by rw [hkx]; simp [List.getD, hjL]
            simp [this, hvof]
          have HIM := Lib.hid himem
          have HIW := Lib.hid hiwho
          have HIK := Lib.hid hikv
          have HMK := Lib.hid hmx
          have HKX := Lib.hid hkx
          clear hR hbt hilk hikv himem hiwho hmx hkx hvof hjL
          go_upto_region 16 with fail
          go_cut [89] (fun s89 wx => s89 = .bool (decide (j = 0) || decide (gv < kv)) ∧ wx = wr)
          case first =>
            by_cases h0 : j = 0
            · have hz0 : ((j : Int) == 0) = true := by simp [h0]
              have hd0 : decide (j = 0) = true := by simp [h0]
              clear h0
              go_wp2_with fail
              go_meet
              case rel => exact ⟨by rw [hd0, Bool.true_or], rfl⟩
            · have hz0 : ((j : Int) == 0) = false := by simp; omega
              have hd0 : decide (j = 0) = false := by simp [h0]
              clear h0
              go_wp2_with fail
              go_meet
              case rel => exact ⟨by rw [hd0, Bool.false_or], rfl⟩
          case rest =>
          obtain ⟨hsx, hwx⟩ := hcut
          subst hsx
          replace hwx := hwx.symm
          subst hwx
          generalize htb : (decide (j = 0) || decide (gv < kv)) = tb
          go_upto_if 89 with fail
          go_cut [] (fun wx => ∃ (g1 g2 : Int) (g3 : Value), Sys wx (upd m 0 (worldT p d X1)) (blk nt (.cells #[.int .i64 view, .slice bA j bC, .slice sA sK sC, .int .i64 g1, .int .i64 g2, g3] 30 (0, 0)) :: own 3 1 (.slice bA j bC) (j) ((ks.take j).map (Value.int .i64)) :: own 3 1 (.slice sA sK sC) (j) (((ks.map (viewOf (iKv I1))).take j).map (Value.int .i64)) :: own 3 1 (.slice (some ⟨xb, xo, none⟩) kk kc) (ks.length) ((ks).map (Value.int .i64)) :: (mapT intKey b (iMap I1) :: (I1.map OutI.row ++ (mapT intKey ob mq :: (R ++ (NVT :: blk q (.cells #[.pointer (some ⟨p, 0, none⟩), .int .i64 c.f, .int .i64 c.n, .int .i64 c.cl, .int .i64 c.ba, .int .i64 c.mo, .int .i64 c.bt, .int .i64 c.po, .int .i64 c.wi, .map (some vb), .map (some ob)] 143 (0, 0)) :: QT :: blk nr (.cells #[.int .i64 0, .slice none 0 0, .slice none 0 0, .int .i64 0, .int .i64 0, .slice none 0 0] 30 (0, 0)) :: votesT vb V :: l)))))) ∧ Hid (HiOk I1 ks (j + 1) g1 g2 g3))
          case first =>
            cases tb
            · have h0 : ¬ (j = 0 ∨ gv < kv) := by simpa using htb
              have HOK : Hid (HiOk I1 ks (j + 1) gv gb gy) := by
                rcases HOK0 with h9 | ⟨h8, i9, h1, h2, h3, h4, h5, h6, h7⟩
                · exact (h0 (.inl h9.1)).elim
                · refine .inr ⟨by omega, i9, h1, h2, h3, h4, h5, h6, ?_⟩
                  rw [HMX.out h8, h7]; omega
              clear h0 htb
              go_wp2_with fail
              go_meet
              case rel => exact ⟨_, _, _, HR.out, HOK.out⟩
            · have h0 : j = 0 ∨ gv < kv := by simpa using htb
              have HOK : Hid (HiOk I1 ks (j + 1) kv kb (.slice iA iK iC)) := by
                refine .inr ⟨by omega, ⟨iw, ⟨kv, kb, kby⟩, .slice iA iK iC⟩, HIM.out, ?_, ?_, rfl, rfl, rfl, ?_⟩
                · show iw ∈ ks; have h := HIW.out; rw [show iw = kx from h]; exact HMK.out
                · show alook (iKv I1) iw = _; have h := HIW.out; rw [show iw = kx from h]; exact HIK.out
                · show maxI _ = kv
                  by_cases hj0 : j = 0
                  · have h := HTV.out
                    rw [hj0] at h ⊢
                    rw [h]; simp [maxI]
                  · rw [HMX.out (by omega)]
                    have h7 := h0.resolve_left hj0
                    rcases HOK0 with h9 | ⟨-, i9, -, -, -, h9, -, -, h10⟩
                    · exact (hj0 h9.1).elim
                    · rw [h10]; omega
              have HTC := Lib.hid (((HR.out.setCell (i := 3) (.int .i64 kv)).setCell (i := 4) (.int .i64 kb)).setCell (i := 5) (.slice iA iK iC))
              clear h0 htb
              go_wp2_with fail
              go_meet
              case rel => exact ⟨_, _, _, HTC.out, HOK.out⟩
          case rest =>
          obtain ⟨g1, g2, g3, hRC, HOKC⟩ := hcut
          have HTC := Lib.hid hRC
          have HOK := Lib.hid HOKC
          clear hRC HOKC e16 e17 c1 c3 c4 c5 f3 f4 f5 HR
          go_upto_region 18 with fail
          have HZ0 : Hid (Sys wc.drew (upd m 0 (worldT p d X1)) (blk nt (.cells #[.int .i64 view, .slice bA j bC, .slice sA sK sC, .int .i64 g1, .int .i64 g2, g3] 30 (0, 0)) :: own 3 1 (.slice bA j bC) (j) ((ks.take j).map (Value.int .i64)) :: own 3 1 (.slice sA sK sC) (j) (((ks.map (viewOf (iKv I1))).take j).map (Value.int .i64)) :: own 3 1 (.slice (some ⟨xb, xo, none⟩) kk kc) (ks.length) ((ks).map (Value.int .i64)) :: (mapT intKey b (iMap I1) :: (I1.map OutI.row ++ (mapT intKey ob mq :: (R ++ (NVT :: blk q (.cells #[.pointer (some ⟨p, 0, none⟩), .int .i64 c.f, .int .i64 c.n, .int .i64 c.cl, .int .i64 c.ba, .int .i64 c.mo, .int .i64 c.bt, .int .i64 c.po, .int .i64 c.wi, .map (some vb), .map (some ob)] 143 (0, 0)) :: QT :: blk nr (.cells #[.int .i64 0, .slice none 0 0, .slice none 0 0, .int .i64 0, .int .i64 0, .slice none 0 0] 30 (0, 0)) :: votesT vb V :: l))))))) := Lib.hid HTC.out.drew
          refine wp_region_stage2 (fun x : World => x.heap[nt]? = some (.cells #[.int .i64 view, .slice bA j bC, .slice sA sK sC, .int .i64 g1, .int .i64 g2, g3] 30 (0, 0))) (fun x : World => MapOf intKey x b (iMap I1)) [14, 16] (by kernel_rfl) ?_
          generalize wc.drew = wE at *
          have hS1 := Sys.memBlk (n := nt) (o := .cells #[.int .i64 view, .slice bA j bC, .slice sA sK sC, .int .i64 g1, .int .i64 g2, g3] 30 (0, 0)) HZ0.out (by simp)
          have hP1 := Sys.memMap (K := intKey) (b := b) (x := iMap I1) HZ0.out (by simp)
          refine takeW2 0 (some 94) (v := ?_) rfl (by rfl) (by kernel_rfl) (by kernel_rfl) (by kernel_rfl) (fun _ _ _ h => h) (by kernel_rfl) (by kernel_rfl) ?_ (Stage2.still (by exact hP1) (by assumption)) ?_
          rotate_left
          · (intro w; go_simp; try (with_reducible rfl))
          try simp only [Act.put, List.setIfInBounds_toArray, List.set_cons_zero, List.set_cons_succ]
          refine takeS2 1 (some 95) (v := ?_) rfl (by rfl) (by kernel_rfl) (by kernel_rfl) (by kernel_rfl) (fun _ _ _ h => h) (by kernel_rfl) (by kernel_rfl) (by kernel_rfl) ?_ (by exact hP1) (by assumption) ?_
          rotate_left
          · (intro w hSw; have c : w.cell? ⟨nt, 1, none⟩ = some (.slice bA j bC) := cell_of_blk hSw 1; clear hSw; go_simp; try (with_reducible rfl))
          try simp only [Act.put, List.setIfInBounds_toArray, List.set_cons_zero, List.set_cons_succ]
          refine takeW2 2 (some 96) (v := ?_) rfl (by rfl) (by kernel_rfl) (by kernel_rfl) (by kernel_rfl) (fun _ _ _ h => h) (by kernel_rfl) (by kernel_rfl) ?_ (Stage2.still (by exact hP1) (by assumption)) ?_
          rotate_left
          · (intro w; go_simp; try (with_reducible rfl))
          try simp only [Act.put, List.setIfInBounds_toArray, List.set_cons_zero, List.set_cons_succ]
          refine takeW2 5 (some 99) (v := ?_) rfl (by rfl) (by kernel_rfl) (by kernel_rfl) (by kernel_rfl) (fun _ _ _ h => h) (by kernel_rfl) (by kernel_rfl) ?_ (Stage2.still (by exact hP1) (by assumption)) ?_
          rotate_left
          · (intro w; go_simp; try (with_reducible rfl))
          try simp only [Act.put, List.setIfInBounds_toArray, List.set_cons_zero, List.set_cons_succ]
          refine takeS2 6 (some 100) (v := ?_) rfl (by rfl) (by kernel_rfl) (by kernel_rfl) (by kernel_rfl) (fun _ _ _ h => h) (by kernel_rfl) (by kernel_rfl) (by kernel_rfl) ?_ (by exact hP1) (by assumption) ?_
          rotate_left
          · (intro w hSw; have c : w.cell? ⟨nt, 2, none⟩ = some (.slice sA sK sC) := cell_of_blk hSw 2; clear hSw; go_simp; try (with_reducible rfl))
          try simp only [Act.put, List.setIfInBounds_toArray, List.set_cons_zero, List.set_cons_succ]
          refine takeW2 7 (some 101) (v := ?_) rfl (by rfl) (by kernel_rfl) (by kernel_rfl) (by kernel_rfl) (fun _ _ _ h => h) (by kernel_rfl) (by kernel_rfl) ?_ (Stage2.still (by exact hP1) (by assumption)) ?_
          rotate_left
          · (intro w; go_simp; try (with_reducible rfl))
          try simp only [Act.put, List.setIfInBounds_toArray, List.set_cons_zero, List.set_cons_succ]
          refine takeW2 8 (some 102) (v := ?_) rfl (by rfl) (by kernel_rfl) (by kernel_rfl) (by kernel_rfl) (fun _ _ _ h => h) (by kernel_rfl) (by kernel_rfl) ?_ (Stage2.still (by exact hP1) (by assumption)) ?_
          rotate_left
          · (intro w; go_simp; try (with_reducible rfl))
          try simp only [Act.put, List.setIfInBounds_toArray, List.set_cons_zero, List.set_cons_succ]
          refine takeP2 9 (some 103) (v := ?_) rfl (by rfl) (by kernel_rfl) (by kernel_rfl) (by kernel_rfl) (fun _ _ _ h => h) (by kernel_rfl) (by kernel_rfl) ?_ (Stage2.still (by exact hP1) (by assumption)) ?_
          rotate_left
          · (intro w hSw; have e := hSw.lookup (P := Try.prog) Try.underlying153 Try.underlying3 (zeroQC w) kx false; rw [HLK.out] at e; simp only [Bool.false_eq_true, if_false, intKey, Option.getD] at e; clear hSw; go_simp; try (with_reducible rfl))
          try simp only [Act.put, List.setIfInBounds_toArray, List.set_cons_zero, List.set_cons_succ]
          refine takeP2 10 (some 104) (v := ?_) rfl (by rfl) (by kernel_rfl) (by kernel_rfl) (by kernel_rfl) (fun _ _ _ h => h) (by kernel_rfl) (by kernel_rfl) ?_ (Stage2.still (by exact hP1) (by assumption)) ?_
          rotate_left
          · (intro w hSw; clear hSw; have e := field_qc (.int .i64 kv) (.int .i64 kb) (.slice iA iK iC) w; go_simp; try (with_reducible rfl))
          try simp only [Act.put, List.setIfInBounds_toArray, List.set_cons_zero, List.set_cons_succ]
          refine twoT2 3 11 (by kernel_rfl) rfl rfl (fun K hK => ?_) (fun K hK => ?_)
          · go_simp
            obtain ⟨bx, Hbx⟩ : ∃ n, Hid (n = wE.heap.size) := ⟨_, rfl⟩
            have HZ1 := Lib.hid (HZ0.out.alloc (.cells #[.int .i64 kx] 3 (0, 0)) Hbx.out)
            rw [← Hbx.out]
            generalize wE.alloc (.cells #[.int .i64 kx] 3) = wEbx at *
            have hS1 := Sys.memBlk (n := nt) (o := .cells #[.int .i64 view, .slice bA j bC, .slice sA sK sC, .int .i64 g1, .int .i64 g2, g3] 30 (0, 0)) HZ1.out (by simp)
            have hP1 := Sys.memMap (K := intKey) (b := b) (x := iMap I1) HZ1.out (by simp)
            refine hK.out _ _ (Stage2.still ?_ ?_) (fun hSt => ?_)
            · (try dsimp only); exact hP1
            · (try dsimp only); exact hS1
            clear hK K hSt
            try simp only [Act.put, List.setIfInBounds_toArray, List.set_cons_zero, List.set_cons_succ]
            refine twoT2 4 11 (by kernel_rfl) rfl rfl (fun K hK => ?_) (fun K hK => ?_)
            · have HZ2 : Hid (Sys wEbx (upd m 0 (worldT p d X1)) (own 3 1 (.slice bA j bC) (j) ((ks.take j).map (Value.int .i64)) :: blk bx (.cells #[.int .i64 kx] 3 (0, 0)) :: blk nt (.cells #[.int .i64 view, .slice bA j bC, .slice sA sK sC, .int .i64 g1, .int .i64 g2, g3] 30 (0, 0)) :: own 3 1 (.slice sA sK sC) (j) (((ks.map (viewOf (iKv I1))).take j).map (Value.int .i64)) :: own 3 1 (.slice (some ⟨xb, xo, none⟩) kk kc) (ks.length) ((ks).map (Value.int .i64)) :: (mapT intKey b (iMap I1) :: (I1.map OutI.row ++ (mapT intKey ob mq :: (R ++ (NVT :: blk q (.cells #[.pointer (some ⟨p, 0, none⟩), .int .i64 c.f, .int .i64 c.n, .int .i64 c.cl, .int .i64 c.ba, .int .i64 c.mo, .int .i64 c.bt, .int .i64 c.po, .int .i64 c.wi, .map (some vb), .map (some ob)] 143 (0, 0)) :: QT :: blk nr (.cells #[.int .i64 0, .slice none 0 0, .slice none 0 0, .int .i64 0, .int .i64 0, .slice none 0 0] 30 (0, 0)) :: votesT vb V :: l))))))) := Lib.hid (HZ1.out.front 2 rfl)
              refine step_own_append rfl (.tmp 95) (.tmp 97) 23 rfl Try.underlying23 HI8.out HZ8.out HS8.out HBY8.out rfl (by decide) rfl (HZ2.out.getOwn) rfl [.int .i64 kx] (Sys.memBlk (n := bx) (o := .cells #[.int .i64 kx] 3 (0, 0)) HZ2.out (by simp)) rfl (by intro u hu; simp at hu; subst hu; rfl) (by have := HJN.out; omega) (by have := HJN.out; unfold maxLen; omega) ?_
              intro xv wEbxx hv' hw' hb'
              have hzz := HZ2.out.ownTo hv' hw' hb'
              obtain ⟨xa, xk, xc, rfl, -⟩ := hv'.slice
              have HZ3 : Hid (Sys wEbxx (upd m 0 (worldT p d X1)) (own 3 1 (.slice xa xk xc) (j + 1) ((ks.take j).map (Value.int .i64) ++ [.int .i64 kx]) :: blk bx (.cells #[.int .i64 kx] 3 (0, 0)) :: blk nt (.cells #[.int .i64 view, .slice bA j bC, .slice sA sK sC, .int .i64 g1, .int .i64 g2, g3] 30 (0, 0)) :: own 3 1 (.slice sA sK sC) (j) (((ks.map (viewOf (iKv I1))).take j).map (Value.int .i64)) :: own 3 1 (.slice (some ⟨xb, xo, none⟩) kk kc) (ks.length) ((ks).map (Value.int .i64)) :: (mapT intKey b (iMap I1) :: (I1.map OutI.row ++ (mapT intKey ob mq :: (R ++ (NVT :: blk q (.cells #[.pointer (some ⟨p, 0, none⟩), .int .i64 c.f, .int .i64 c.n, .int .i64 c.cl, .int .i64 c.ba, .int .i64 c.mo, .int .i64 c.bt, .int .i64 c.po, .int .i64 c.wi, .map (some vb), .map (some ob)] 143 (0, 0)) :: QT :: blk nr (.cells #[.int .i64 0, .slice none 0 0, .slice none 0 0, .int .i64 0, .int .i64 0, .slice none 0 0] 30 (0, 0)) :: votesT vb V :: l))))))) := hzz
              clear hzz hv' hw' hb'
              have hS1 := Sys.memBlk (n := nt) (o := .cells #[.int .i64 view, .slice bA j bC, .slice sA sK sC, .int .i64 g1, .int .i64 g2, g3] 30 (0, 0)) HZ3.out (by simp)
              have hP1 := Sys.memMap (K := intKey) (b := b) (x := iMap I1) HZ3.out (by simp)
              refine hK.out _ _ (Stage2.still ?_ ?_) (fun hSt => ?_)
              · (try dsimp only); exact hP1
              · (try dsimp only); exact hS1
              clear hK K hSt
              try simp only [Act.put, List.setIfInBounds_toArray, List.set_cons_zero, List.set_cons_succ]
              refine takeW2 13 (some 107) (v := ?_) rfl (by rfl) (by kernel_rfl) (by kernel_rfl) (by kernel_rfl) (fun _ _ _ h => h) (by kernel_rfl) (by kernel_rfl) ?_ (Stage2.still (by exact hP1) (by assumption)) ?_
              rotate_left
              · (intro w; go_simp; try (with_reducible rfl))
              try simp only [Act.put, List.setIfInBounds_toArray, List.set_cons_zero, List.set_cons_succ]
              refine oneT2 11 (by kernel_rfl) rfl (fun K hK => ?_)
              go_simp
              obtain ⟨bz, Hbz⟩ : ∃ n, Hid (n = wEbxx.heap.size) := ⟨_, rfl⟩
              have HZ4 := Lib.hid (HZ3.out.alloc (.cells #[.int .i64 kv] 3 (0, 0)) Hbz.out)
              rw [← Hbz.out]
              generalize wEbxx.alloc (.cells #[.int .i64 kv] 3) = wEbxxbz at *
              have hS1 := Sys.memBlk (n := nt) (o := .cells #[.int .i64 view, .slice bA j bC, .slice sA sK sC, .int .i64 g1, .int .i64 g2, g3] 30 (0, 0)) HZ4.out (by simp)
              have hP1 := Sys.memMap (K := intKey) (b := b) (x := iMap I1) HZ4.out (by simp)
              refine hK.out _ _ (Stage2.still ?_ ?_) (fun hSt => ?_)
              · (try dsimp only); exact hP1
              · (try dsimp only); exact hS1
              clear hK K hSt
              try simp only [Act.put, List.setIfInBounds_toArray, List.set_cons_zero, List.set_cons_succ]
              refine oneT2 12 (by kernel_rfl) rfl (fun K hK => ?_)
              have HZ5 : Hid (Sys wEbxxbz (upd m 0 (worldT p d X1)) (own 3 1 (.slice sA sK sC) (j) (((ks.map (viewOf (iKv I1))).take j).map (Value.int .i64)) :: blk bz (.cells #[.int .i64 kv] 3 (0, 0)) :: own 3 1 (.slice xa xk xc) (j + 1) ((ks.take j).map (Value.int .i64) ++ [.int .i64 kx]) :: blk bx (.cells #[.int .i64 kx] 3 (0, 0)) :: blk nt (.cells #[.int .i64 view, .slice bA j bC, .slice sA sK sC, .int .i64 g1, .int .i64 g2, g3] 30 (0, 0)) :: own 3 1 (.slice (some ⟨xb, xo, none⟩) kk kc) (ks.length) ((ks).map (Value.int .i64)) :: (mapT intKey b (iMap I1) :: (I1.map OutI.row ++ (mapT intKey ob mq :: (R ++ (NVT :: blk q (.cells #[.pointer (some ⟨p, 0, none⟩), .int .i64 c.f, .int .i64 c.n, .int .i64 c.cl, .int .i64 c.ba, .int .i64 c.mo, .int .i64 c.bt, .int .i64 c.po, .int .i64 c.wi, .map (some vb), .map (some ob)] 143 (0, 0)) :: QT :: blk nr (.cells #[.int .i64 0, .slice none 0 0, .slice none 0 0, .int .i64 0, .int .i64 0, .slice none 0 0] 30 (0, 0)) :: votesT vb V :: l))))))) := Lib.hid (HZ4.out.front 4 rfl)
              refine step_own_append rfl (.tmp 100) (.tmp 105) 23 rfl Try.underlying23 HI8.out HZ8.out HS8.out HBY8.out rfl (by decide) rfl (HZ5.out.getOwn) rfl [.int .i64 kv] (Sys.memBlk (n := bz) (o := .cells #[.int .i64 kv] 3 (0, 0)) HZ5.out (by simp)) rfl (by intro u hu; simp at hu; subst hu; rfl) (by have := HJN.out; omega) (by have := HJN.out; unfold maxLen; omega) ?_
              intro yv wEbxxbzy hv' hw' hb'
              have hzz := HZ5.out.ownTo hv' hw' hb'
              obtain ⟨ya, yk, yc, rfl, -⟩ := hv'.slice
              have HZ6 : Hid (Sys wEbxxbzy (upd m 0 (worldT p d X1)) (own 3 1 (.slice ya yk yc) (j + 1) (((ks.map (viewOf (iKv I1))).take j).map (Value.int .i64) ++ [.int .i64 kv]) :: blk bz (.cells #[.int .i64 kv] 3 (0, 0)) :: own 3 1 (.slice xa xk xc) (j + 1) ((ks.take j).map (Value.int .i64) ++ [.int .i64 kx]) :: blk bx (.cells #[.int .i64 kx] 3 (0, 0)) :: blk nt (.cells #[.int .i64 view, .slice bA j bC, .slice sA sK sC, .int .i64 g1, .int .i64 g2, g3] 30 (0, 0)) :: own 3 1 (.slice (some ⟨xb, xo, none⟩) kk kc) (ks.length) ((ks).map (Value.int .i64)) :: (mapT intKey b (iMap I1) :: (I1.map OutI.row ++ (mapT intKey ob mq :: (R ++ (NVT :: blk q (.cells #[.pointer (some ⟨p, 0, none⟩), .int .i64 c.f, .int .i64 c.n, .int .i64 c.cl, .int .i64 c.ba, .int .i64 c.mo, .int .i64 c.bt, .int .i64 c.po, .int .i64 c.wi, .map (some vb), .map (some ob)] 143 (0, 0)) :: QT :: blk nr (.cells #[.int .i64 0, .slice none 0 0, .slice none 0 0, .int .i64 0, .int .i64 0, .slice none 0 0] 30 (0, 0)) :: votesT vb V :: l))))))) := hzz
              clear hzz hv' hw' hb'
              have hS1 := Sys.memBlk (n := nt) (o := .cells #[.int .i64 view, .slice bA j bC, .slice sA sK sC, .int .i64 g1, .int .i64 g2, g3] 30 (0, 0)) HZ6.out (by simp)
              have hP1 := Sys.memMap (K := intKey) (b := b) (x := iMap I1) HZ6.out (by simp)
              refine hK.out _ _ (Stage2.still ?_ ?_) (fun hSt => ?_)
              · (try dsimp only); exact hP1
              · (try dsimp only); exact hS1
              clear hK K hSt
              try simp only [Act.put, List.setIfInBounds_toArray, List.set_cons_zero, List.set_cons_succ]
              refine oneT2 14 (by kernel_rfl) rfl (fun K hK => ?_)
              have HZ7 : Hid (Sys wEbxxbzy (upd m 0 (worldT p d X1)) (blk nt (.cells #[.int .i64 view, .slice bA j bC, .slice sA sK sC, .int .i64 g1, .int .i64 g2, g3] 30 (0, 0)) :: own 3 1 (.slice ya yk yc) (j + 1) (((ks.map (viewOf (iKv I1))).take j).map (Value.int .i64) ++ [.int .i64 kv]) :: blk bz (.cells #[.int .i64 kv] 3 (0, 0)) :: own 3 1 (.slice xa xk xc) (j + 1) ((ks.take j).map (Value.int .i64) ++ [.int .i64 kx]) :: blk bx (.cells #[.int .i64 kx] 3 (0, 0)) :: own 3 1 (.slice (some ⟨xb, xo, none⟩) kk kc) (ks.length) ((ks).map (Value.int .i64)) :: (mapT intKey b (iMap I1) :: (I1.map OutI.row ++ (mapT intKey ob mq :: (R ++ (NVT :: blk q (.cells #[.pointer (some ⟨p, 0, none⟩), .int .i64 c.f, .int .i64 c.n, .int .i64 c.cl, .int .i64 c.ba, .int .i64 c.mo, .int .i64 c.bt, .int .i64 c.po, .int .i64 c.wi, .map (some vb), .map (some ob)] 143 (0, 0)) :: QT :: blk nr (.cells #[.int .i64 0, .slice none 0 0, .slice none 0 0, .int .i64 0, .int .i64 0, .slice none 0 0] 30 (0, 0)) :: votesT vb V :: l))))))) := Lib.hid (HZ6.out.front 4 rfl)
              have hbt1 := HZ7.out.getBlk
              have ct1 := cell_of_blk hbt1 1
              simp at ct1
              have ft1 := frozen_of_blk hbt1 1
              have hst1 := HZ7.out.setCell (i := 1) (.slice xa xk xc)
              go_simp
              generalize wEbxxbzy.setCell ⟨nt, 1, none⟩ (.slice xa xk xc) = wS1 at *
              have HZ8 : Hid (Sys wS1 (upd m 0 (worldT p d X1)) (blk nt (.cells #[.int .i64 view, .slice xa xk xc, .slice sA sK sC, .int .i64 g1, .int .i64 g2, g3] 30 (0, 0)) :: own 3 1 (.slice ya yk yc) (j + 1) (((ks.map (viewOf (iKv I1))).take j).map (Value.int .i64) ++ [.int .i64 kv]) :: blk bz (.cells #[.int .i64 kv] 3 (0, 0)) :: own 3 1 (.slice xa xk xc) (j + 1) ((ks.take j).map (Value.int .i64) ++ [.int .i64 kx]) :: blk bx (.cells #[.int .i64 kx] 3 (0, 0)) :: own 3 1 (.slice (some ⟨xb, xo, none⟩) kk kc) (ks.length) ((ks).map (Value.int .i64)) :: (mapT intKey b (iMap I1) :: (I1.map OutI.row ++ (mapT intKey ob mq :: (R ++ (NVT :: blk q (.cells #[.pointer (some ⟨p, 0, none⟩), .int .i64 c.f, .int .i64 c.n, .int .i64 c.cl, .int .i64 c.ba, .int .i64 c.mo, .int .i64 c.bt, .int .i64 c.po, .int .i64 c.wi, .map (some vb), .map (some ob)] 143 (0, 0)) :: QT :: blk nr (.cells #[.int .i64 0, .slice none 0 0, .slice none 0 0, .int .i64 0, .int .i64 0, .slice none 0 0] 30 (0, 0)) :: votesT vb V :: l))))))) := hst1
              clear hbt1 ct1 ft1 hst1
              have hP1 := Sys.memMap (K := intKey) (b := b) (x := iMap I1) HZ8.out (by simp)
              refine hK.out _ _ (Stage2.past (by exact hP1) (by kernel_rfl)) (fun hSt => ?_)
              clear hK K hSt
              try simp only [Act.put, List.setIfInBounds_toArray, List.set_cons_zero, List.set_cons_succ]
              refine takeW2 15 (some 108) (v := ?_) rfl (by rfl) (by kernel_rfl) (by kernel_rfl) (by kernel_rfl) (fun _ _ _ h => h) (by kernel_rfl) (by kernel_rfl) ?_ (Stage2.past (by exact hP1) (by kernel_rfl)) ?_
              rotate_left
              · (intro w; go_simp; try (with_reducible rfl))
              try simp only [Act.put, List.setIfInBounds_toArray, List.set_cons_zero, List.set_cons_succ]
              refine oneT2 16 (by kernel_rfl) rfl (fun K hK => ?_)
              have hbt2 := HZ8.out.getBlk
              have ct2 := cell_of_blk hbt2 2
              simp at ct2
              have ft2 := frozen_of_blk hbt2 2
              have hst2 := HZ8.out.setCell (i := 2) (.slice ya yk yc)
              go_simp
              generalize wS1.setCell ⟨nt, 2, none⟩ (.slice ya yk yc) = wS2 at *
              have HZ9 : Hid (Sys wS2 (upd m 0 (worldT p d X1)) (blk nt (.cells #[.int .i64 view, .slice xa xk xc, .slice ya yk yc, .int .i64 g1, .int .i64 g2, g3] 30 (0, 0)) :: own 3 1 (.slice ya yk yc) (j + 1) (((ks.map (viewOf (iKv I1))).take j).map (Value.int .i64) ++ [.int .i64 kv]) :: blk bz (.cells #[.int .i64 kv] 3 (0, 0)) :: own 3 1 (.slice xa xk xc) (j + 1) ((ks.take j).map (Value.int .i64) ++ [.int .i64 kx]) :: blk bx (.cells #[.int .i64 kx] 3 (0, 0)) :: own 3 1 (.slice (some ⟨xb, xo, none⟩) kk kc) (ks.length) ((ks).map (Value.int .i64)) :: (mapT intKey b (iMap I1) :: (I1.map OutI.row ++ (mapT intKey ob mq :: (R ++ (NVT :: blk q (.cells #[.pointer (some ⟨p, 0, none⟩), .int .i64 c.f, .int .i64 c.n, .int .i64 c.cl, .int .i64 c.ba, .int .i64 c.mo, .int .i64 c.bt, .int .i64 c.po, .int .i64 c.wi, .map (some vb), .map (some ob)] 143 (0, 0)) :: QT :: blk nr (.cells #[.int .i64 0, .slice none 0 0, .slice none 0 0, .int .i64 0, .int .i64 0, .slice none 0 0] 30 (0, 0)) :: votesT vb V :: l))))))) := hst2
              clear hbt2 ct2 ft2 hst2
              have hP1 := Sys.memMap (K := intKey) (b := b) (x := iMap I1) HZ9.out (by simp)
              refine hK.out _ _ (Stage2.past (by exact hP1) (by kernel_rfl)) (fun hSt => ?_)
              clear hK K hSt
              try simp only [Act.put, List.setIfInBounds_toArray, List.set_cons_zero, List.set_cons_succ]
              refine doneT2 (by kernel_rfl) ?_ _
              have HZ10 : Hid (Sys wS2 (upd m 0 (worldT p d X1)) (own 3 1 (.slice (some ⟨xb, xo, none⟩) kk kc) (ks.length) ((ks).map (Value.int .i64)) :: blk nt (.cells #[.int .i64 view, .slice xa xk xc, .slice ya yk yc, .int .i64 g1, .int .i64 g2, g3] 30 (0, 0)) :: own 3 1 (.slice ya yk yc) (j + 1) (((ks.map (viewOf (iKv I1))).take j).map (Value.int .i64) ++ [.int .i64 kv]) :: blk bz (.cells #[.int .i64 kv] 3 (0, 0)) :: own 3 1 (.slice xa xk xc) (j + 1) ((ks.take j).map (Value.int .i64) ++ [.int .i64 kx]) :: blk bx (.cells #[.int .i64 kx] 3 (0, 0)) :: (mapT intKey b (iMap I1) :: (I1.map OutI.row ++ (mapT intKey ob mq :: (R ++ (NVT :: blk q (.cells #[.pointer (some ⟨p, 0, none⟩), .int .i64 c.f, .int .i64 c.n, .int .i64 c.cl, .int .i64 c.ba, .int .i64 c.mo, .int .i64 c.bt, .int .i64 c.po, .int .i64 c.wi, .map (some vb), .map (some ob)] 143 (0, 0)) :: QT :: blk nr (.cells #[.int .i64 0, .slice none 0 0, .slice none 0 0, .int .i64 0, .int .i64 0, .slice none 0 0] 30 (0, 0)) :: votesT vb V :: l))))))) := Lib.hid (HZ9.out.front 5 rfl)
              have HZ11 : Hid (Sys wS2 (upd m 0 (worldT p d X1)) (own 3 1 (.slice ya yk yc) (j + 1) (((ks.map (viewOf (iKv I1))).take j).map (Value.int .i64) ++ [.int .i64 kv]) :: own 3 1 (.slice (some ⟨xb, xo, none⟩) kk kc) (ks.length) ((ks).map (Value.int .i64)) :: blk nt (.cells #[.int .i64 view, .slice xa xk xc, .slice ya yk yc, .int .i64 g1, .int .i64 g2, g3] 30 (0, 0)) :: blk bz (.cells #[.int .i64 kv] 3 (0, 0)) :: own 3 1 (.slice xa xk xc) (j + 1) ((ks.take j).map (Value.int .i64) ++ [.int .i64 kx]) :: blk bx (.cells #[.int .i64 kx] 3 (0, 0)) :: (mapT intKey b (iMap I1) :: (I1.map OutI.row ++ (mapT intKey ob mq :: (R ++ (NVT :: blk q (.cells #[.pointer (some ⟨p, 0, none⟩), .int .i64 c.f, .int .i64 c.n, .int .i64 c.cl, .int .i64 c.ba, .int .i64 c.mo, .int .i64 c.bt, .int .i64 c.po, .int .i64 c.wi, .map (some vb), .map (some ob)] 143 (0, 0)) :: QT :: blk nr (.cells #[.int .i64 0, .slice none 0 0, .slice none 0 0, .int .i64 0, .int .i64 0, .slice none 0 0] 30 (0, 0)) :: votesT vb V :: l))))))) := Lib.hid (HZ10.out.front 2 rfl)
              have HZ12 : Hid (Sys wS2 (upd m 0 (worldT p d X1)) (own 3 1 (.slice xa xk xc) (j + 1) ((ks.take j).map (Value.int .i64) ++ [.int .i64 kx]) :: own 3 1 (.slice ya yk yc) (j + 1) (((ks.map (viewOf (iKv I1))).take j).map (Value.int .i64) ++ [.int .i64 kv]) :: own 3 1 (.slice (some ⟨xb, xo, none⟩) kk kc) (ks.length) ((ks).map (Value.int .i64)) :: blk nt (.cells #[.int .i64 view, .slice xa xk xc, .slice ya yk yc, .int .i64 g1, .int .i64 g2, g3] 30 (0, 0)) :: blk bz (.cells #[.int .i64 kv] 3 (0, 0)) :: blk bx (.cells #[.int .i64 kx] 3 (0, 0)) :: (mapT intKey b (iMap I1) :: (I1.map OutI.row ++ (mapT intKey ob mq :: (R ++ (NVT :: blk q (.cells #[.pointer (some ⟨p, 0, none⟩), .int .i64 c.f, .int .i64 c.n, .int .i64 c.cl, .int .i64 c.ba, .int .i64 c.mo, .int .i64 c.bt, .int .i64 c.po, .int .i64 c.wi, .map (some vb), .map (some ob)] 143 (0, 0)) :: QT :: blk nr (.cells #[.int .i64 0, .slice none 0 0, .slice none 0 0, .int .i64 0, .int .i64 0, .slice none 0 0] 30 (0, 0)) :: votesT vb V :: l))))))) := Lib.hid (HZ11.out.front 4 rfl)
              have HZ13 : Hid (Sys wS2 (upd m 0 (worldT p d X1)) (blk nt (.cells #[.int .i64 view, .slice xa xk xc, .slice ya yk yc, .int .i64 g1, .int .i64 g2, g3] 30 (0, 0)) :: own 3 1 (.slice xa xk xc) (j + 1) ((ks.take j).map (Value.int .i64) ++ [.int .i64 kx]) :: own 3 1 (.slice ya yk yc) (j + 1) (((ks.map (viewOf (iKv I1))).take j).map (Value.int .i64) ++ [.int .i64 kv]) :: own 3 1 (.slice (some ⟨xb, xo, none⟩) kk kc) (ks.length) ((ks).map (Value.int .i64)) :: blk bz (.cells #[.int .i64 kv] 3 (0, 0)) :: blk bx (.cells #[.int .i64 kx] 3 (0, 0)) :: (mapT intKey b (iMap I1) :: (I1.map OutI.row ++ (mapT intKey ob mq :: (R ++ (NVT :: blk q (.cells #[.pointer (some ⟨p, 0, none⟩), .int .i64 c.f, .int .i64 c.n, .int .i64 c.cl, .int .i64 c.ba, .int .i64 c.mo, .int .i64 c.bt, .int .i64 c.po, .int .i64 c.wi, .map (some vb), .map (some ob)] 143 (0, 0)) :: QT :: blk nr (.cells #[.int .i64 0, .slice none 0 0, .slice none 0 0, .int .i64 0, .int .i64 0, .slice none 0 0] 30 (0, 0)) :: votesT vb V :: l))))))) := Lib.hid (HZ12.out.front 3 rfl)
              have HZ14 : Hid (Sys wS2 (upd m 0 (worldT p d X1)) (blk bx (.cells #[.int .i64 kx] 3 (0, 0)) :: blk nt (.cells #[.int .i64 view, .slice xa xk xc, .slice ya yk yc, .int .i64 g1, .int .i64 g2, g3] 30 (0, 0)) :: own 3 1 (.slice xa xk xc) (j + 1) ((ks.take j).map (Value.int .i64) ++ [.int .i64 kx]) :: own 3 1 (.slice ya yk yc) (j + 1) (((ks.map (viewOf (iKv I1))).take j).map (Value.int .i64) ++ [.int .i64 kv]) :: own 3 1 (.slice (some ⟨xb, xo, none⟩) kk kc) (ks.length) ((ks).map (Value.int .i64)) :: blk bz (.cells #[.int .i64 kv] 3 (0, 0)) :: (mapT intKey b (iMap I1) :: (I1.map OutI.row ++ (mapT intKey ob mq :: (R ++ (NVT :: blk q (.cells #[.pointer (some ⟨p, 0, none⟩), .int .i64 c.f, .int .i64 c.n, .int .i64 c.cl, .int .i64 c.ba, .int .i64 c.mo, .int .i64 c.bt, .int .i64 c.po, .int .i64 c.wi, .map (some vb), .map (some ob)] 143 (0, 0)) :: QT :: blk nr (.cells #[.int .i64 0, .slice none 0 0, .slice none 0 0, .int .i64 0, .int .i64 0, .slice none 0 0] 30 (0, 0)) :: votesT vb V :: l))))))) := Lib.hid (HZ13.out.front 5 rfl)
              have HZ15 : Hid (Sys wS2 (upd m 0 (worldT p d X1)) (blk nt (.cells #[.int .i64 view, .slice xa xk xc, .slice ya yk yc, .int .i64 g1, .int .i64 g2, g3] 30 (0, 0)) :: own 3 1 (.slice xa xk xc) (j + 1) ((ks.take j).map (Value.int .i64) ++ [.int .i64 kx]) :: own 3 1 (.slice ya yk yc) (j + 1) (((ks.map (viewOf (iKv I1))).take j).map (Value.int .i64) ++ [.int .i64 kv]) :: own 3 1 (.slice (some ⟨xb, xo, none⟩) kk kc) (ks.length) ((ks).map (Value.int .i64)) :: blk bz (.cells #[.int .i64 kv] 3 (0, 0)) :: (mapT intKey b (iMap I1) :: (I1.map OutI.row ++ (mapT intKey ob mq :: (R ++ (NVT :: blk q (.cells #[.pointer (some ⟨p, 0, none⟩), .int .i64 c.f, .int .i64 c.n, .int .i64 c.cl, .int .i64 c.ba, .int .i64 c.mo, .int .i64 c.bt, .int .i64 c.po, .int .i64 c.wi, .map (some vb), .map (some ob)] 143 (0, 0)) :: QT :: blk nr (.cells #[.int .i64 0, .slice none 0 0, .slice none 0 0, .int .i64 0, .int .i64 0, .slice none 0 0] 30 (0, 0)) :: votesT vb V :: l))))))) := Lib.hid HZ14.out.tail
              have HZ16 : Hid (Sys wS2 (upd m 0 (worldT p d X1)) (blk bz (.cells #[.int .i64 kv] 3 (0, 0)) :: blk nt (.cells #[.int .i64 view, .slice xa xk xc, .slice ya yk yc, .int .i64 g1, .int .i64 g2, g3] 30 (0, 0)) :: own 3 1 (.slice xa xk xc) (j + 1) ((ks.take j).map (Value.int .i64) ++ [.int .i64 kx]) :: own 3 1 (.slice ya yk yc) (j + 1) (((ks.map (viewOf (iKv I1))).take j).map (Value.int .i64) ++ [.int .i64 kv]) :: own 3 1 (.slice (some ⟨xb, xo, none⟩) kk kc) (ks.length) ((ks).map (Value.int .i64)) :: (mapT intKey b (iMap I1) :: (I1.map OutI.row ++ (mapT intKey ob mq :: (R ++ (NVT :: blk q (.cells #[.pointer (some ⟨p, 0, none⟩), .int .i64 c.f, .int .i64 c.n, .int .i64 c.cl, .int .i64 c.ba, .int .i64 c.mo, .int .i64 c.bt, .int .i64 c.po, .int .i64 c.wi, .map (some vb), .map (some ob)] 143 (0, 0)) :: QT :: blk nr (.cells #[.int .i64 0, .slice none 0 0, .slice none 0 0, .int .i64 0, .int .i64 0, .slice none 0 0] 30 (0, 0)) :: votesT vb V :: l))))))) := Lib.hid (HZ15.out.front 4 rfl)
              have HZ17 : Hid (Sys wS2 (upd m 0 (worldT p d X1)) (blk nt (.cells #[.int .i64 view, .slice xa xk xc, .slice ya yk yc, .int .i64 g1, .int .i64 g2, g3] 30 (0, 0)) :: own 3 1 (.slice xa xk xc) (j + 1) ((ks.take j).map (Value.int .i64) ++ [.int .i64 kx]) :: own 3 1 (.slice ya yk yc) (j + 1) (((ks.map (viewOf (iKv I1))).take j).map (Value.int .i64) ++ [.int .i64 kv]) :: own 3 1 (.slice (some ⟨xb, xo, none⟩) kk kc) (ks.length) ((ks).map (Value.int .i64)) :: (mapT intKey b (iMap I1) :: (I1.map OutI.row ++ (mapT intKey ob mq :: (R ++ (NVT :: blk q (.cells #[.pointer (some ⟨p, 0, none⟩), .int .i64 c.f, .int .i64 c.n, .int .i64 c.cl, .int .i64 c.ba, .int .i64 c.mo, .int .i64 c.bt, .int .i64 c.po, .int .i64 c.wi, .map (some vb), .map (some ob)] 143 (0, 0)) :: QT :: blk nr (.cells #[.int .i64 0, .slice none 0 0, .slice none 0 0, .int .i64 0, .int .i64 0, .slice none 0 0] 30 (0, 0)) :: votesT vb V :: l))))))) := Lib.hid HZ16.out.tail
              have HRF := Lib.hid HZ17.out
              clear HZ1 HZ2 HZ3 HZ4 HZ5 HZ6 HZ7 HZ8 HZ9 HZ10 HZ11 HZ12 HZ13 HZ14 HZ15 HZ16 HZ17
              go_wp2_with fail
              go_roundw
              case rel => exact ⟨j + 1, by omega, by go_num, .slice xa xk xc, .slice ya yk yc, g1, g2, g3, by rw [HTK.out, HTV.out, List.map_append, List.map_append]; exact HRF.out, HOK.out⟩
              case measure => simp [intOf]; omega
            · go_simp
              obtain ⟨bz, Hbz⟩ : ∃ n, Hid (n = wEbx.heap.size) := ⟨_, rfl⟩
              have HZ2 := Lib.hid (HZ1.out.alloc (.cells #[.int .i64 kv] 3 (0, 0)) Hbz.out)
              rw [← Hbz.out]
              generalize wEbx.alloc (.cells #[.int .i64 kv] 3) = wEbxbz at *
              have hS1 := Sys.memBlk (n := nt) (o := .cells #[.int .i64 view, .slice bA j bC, .slice sA sK sC, .int .i64 g1, .int .i64 g2, g3] 30 (0, 0)) HZ2.out (by simp)
              have hP1 := Sys.memMap (K := intKey) (b := b) (x := iMap I1) HZ2.out (by simp)
              refine hK.out _ _ (Stage2.still ?_ ?_) (fun hSt => ?_)
              · (try dsimp only); exact hP1
              · (try dsimp only); exact hS1
              clear hK K hSt
              try simp only [Act.put, List.setIfInBounds_toArray, List.set_cons_zero, List.set_cons_succ]
              refine oneT2 4 (by kernel_rfl) rfl (fun K hK => ?_)
              have HZ3 : Hid (Sys wEbxbz (upd m 0 (worldT p d X1)) (own 3 1 (.slice bA j bC) (j) ((ks.take j).map (Value.int .i64)) :: blk bz (.cells #[.int .i64 kv] 3 (0, 0)) :: blk bx (.cells #[.int .i64 kx] 3 (0, 0)) :: blk nt (.cells #[.int .i64 view, .slice bA j bC, .slice sA sK sC, .int .i64 g1, .int .i64 g2, g3] 30 (0, 0)) :: own 3 1 (.slice sA sK sC) (j) (((ks.map (viewOf (iKv I1))).take j).map (Value.int .i64)) :: own 3 1 (.slice (some ⟨xb, xo, none⟩) kk kc) (ks.length) ((ks).map (Value.int .i64)) :: (mapT intKey b (iMap I1) :: (I1.map OutI.row ++ (mapT intKey ob mq :: (R ++ (NVT :: blk q (.cells #[.pointer (some ⟨p, 0, none⟩), .int .i64 c.f, .int .i64 c.n, .int .i64 c.cl, .int .i64 c.ba, .int .i64 c.mo, .int .i64 c.bt, .int .i64 c.po, .int .i64 c.wi, .map (some vb), .map (some ob)] 143 (0, 0)) :: QT :: blk nr (.cells #[.int .i64 0, .slice none 0 0, .slice none 0 0, .int .i64 0, .int .i64 0, .slice none 0 0] 30 (0, 0)) :: votesT vb V :: l))))))) := Lib.hid (HZ2.out.front 3 rfl)
              refine step_own_append rfl (.tmp 95) (.tmp 97) 23 rfl Try.underlying23 HI8.out HZ8.out HS8.out HBY8.out rfl (by decide) rfl (HZ3.out.getOwn) rfl [.int .i64 kx] (Sys.memBlk (n := bx) (o := .cells #[.int .i64 kx] 3 (0, 0)) HZ3.out (by simp)) rfl (by intro u hu; simp at hu; subst hu; rfl) (by have := HJN.out; omega) (by have := HJN.out; unfold maxLen; omega) ?_
              intro xv wEbxbzx hv' hw' hb'
              have hzz := HZ3.out.ownTo hv' hw' hb'
              obtain ⟨xa, xk, xc, rfl, -⟩ := hv'.slice
              have HZ4 : Hid (Sys wEbxbzx (upd m 0 (worldT p d X1)) (own 3 1 (.slice xa xk xc) (j + 1) ((ks.take j).map (Value.int .i64) ++ [.int .i64 kx]) :: blk bz (.cells #[.int .i64 kv] 3 (0, 0)) :: blk bx (.cells #[.int .i64 kx] 3 (0, 0)) :: blk nt (.cells #[.int .i64 view, .slice bA j bC, .slice sA sK sC, .int .i64 g1, .int .i64 g2, g3] 30 (0, 0)) :: own 3 1 (.slice sA sK sC) (j) (((ks.map (viewOf (iKv I1))).take j).map (Value.int .i64)) :: own 3 1 (.slice (some ⟨xb, xo, none⟩) kk kc) (ks.length) ((ks).map (Value.int .i64)) :: (mapT intKey b (iMap I1) :: (I1.map OutI.row ++ (mapT intKey ob mq :: (R ++ (NVT :: blk q (.cells #[.pointer (some ⟨p, 0, none⟩), .int .i64 c.f, .int .i64 c.n, .int .i64 c.cl, .int .i64 c.ba, .int .i64 c.mo, .int .i64 c.bt, .int .i64 c.po, .int .i64 c.wi, .map (some vb), .map (some ob)] 143 (0, 0)) :: QT :: blk nr (.cells #[.int .i64 0, .slice none 0 0, .slice none 0 0, .int .i64 0, .int .i64 0, .slice none 0 0] 30 (0, 0)) :: votesT vb V :: l))))))) := hzz
              clear hzz hv' hw' hb'
              have hS1 := Sys.memBlk (n := nt) (o := .cells #[.int .i64 view, .slice bA j bC, .slice sA sK sC, .int .i64 g1, .int .i64 g2, g3] 30 (0, 0)) HZ4.out (by simp)
              have hP1 := Sys.memMap (K := intKey) (b := b) (x := iMap I1) HZ4.out (by simp)
              refine hK.out _ _ (Stage2.still ?_ ?_) (fun hSt => ?_)
              · (try dsimp only); exact hP1
              · (try dsimp only); exact hS1
              clear hK K hSt
              try simp only [Act.put, List.setIfInBounds_toArray, List.set_cons_zero, List.set_cons_succ]
              refine takeW2 13 (some 107) (v := ?_) rfl (by rfl) (by kernel_rfl) (by kernel_rfl) (by kernel_rfl) (fun _ _ _ h => h) (by kernel_rfl) (by kernel_rfl) ?_ (Stage2.still (by exact hP1) (by assumption)) ?_
              rotate_left
              · (intro w; go_simp; try (with_reducible rfl))
              try simp only [Act.put, List.setIfInBounds_toArray, List.set_cons_zero, List.set_cons_succ]
              refine oneT2 12 (by kernel_rfl) rfl (fun K hK => ?_)
              have HZ5 : Hid (Sys wEbxbzx (upd m 0 (worldT p d X1)) (own 3 1 (.slice sA sK sC) (j) (((ks.map (viewOf (iKv I1))).take j).map (Value.int .i64)) :: own 3 1 (.slice xa xk xc) (j + 1) ((ks.take j).map (Value.int .i64) ++ [.int .i64 kx]) :: blk bz (.cells #[.int .i64 kv] 3 (0, 0)) :: blk bx (.cells #[.int .i64 kx] 3 (0, 0)) :: blk nt (.cells #[.int .i64 view, .slice bA j bC, .slice sA sK sC, .int .i64 g1, .int .i64 g2, g3] 30 (0, 0)) :: own 3 1 (.slice (some ⟨xb, xo, none⟩) kk kc) (ks.length) ((ks).map (Value.int .i64)) :: (mapT intKey b (iMap I1) :: (I1.map OutI.row ++ (mapT intKey ob mq :: (R ++ (NVT :: blk q (.cells #[.pointer (some ⟨p, 0, none⟩), .int .i64 c.f, .int .i64 c.n, .int .i64 c.cl, .int .i64 c.ba, .int .i64 c.mo, .int .i64 c.bt, .int .i64 c.po, .int .i64 c.wi, .map (some vb), .map (some ob)] 143 (0, 0)) :: QT :: blk nr (.cells #[.int .i64 0, .slice none 0 0, .slice none 0 0, .int .i64 0, .int .i64 0, .slice none 0 0] 30 (0, 0)) :: votesT vb V :: l))))))) := Lib.hid (HZ4.out.front 4 rfl)
              refine step_own_append rfl (.tmp 100) (.tmp 105) 23 rfl Try.underlying23 HI8.out HZ8.out HS8.out HBY8.out rfl (by decide) rfl (HZ5.out.getOwn) rfl [.int .i64 kv] (Sys.memBlk (n := bz) (o := .cells #[.int .i64 kv] 3 (0, 0)) HZ5.out (by simp)) rfl (by intro u hu; simp at hu; subst hu; rfl) (by have := HJN.out; omega) (by have := HJN.out; unfold maxLen; omega) ?_
              intro yv wEbxbzxy hv' hw' hb'
              have hzz := HZ5.out.ownTo hv' hw' hb'
              obtain ⟨ya, yk, yc, rfl, -⟩ := hv'.slice
              have HZ6 : Hid (Sys wEbxbzxy (upd m 0 (worldT p d X1)) (own 3 1 (.slice ya yk yc) (j + 1) (((ks.map (viewOf (iKv I1))).take j).map (Value.int .i64) ++ [.int .i64 kv]) :: own 3 1 (.slice xa xk xc) (j + 1) ((ks.take j).map (Value.int .i64) ++ [.int .i64 kx]) :: blk bz (.cells #[.int .i64 kv] 3 (0, 0)) :: blk bx (.cells #[.int .i64 kx] 3 (0, 0)) :: blk nt (.cells #[.int .i64 view, .slice bA j bC, .slice sA sK sC, .int .i64 g1, .int .i64 g2, g3] 30 (0, 0)) :: own 3 1 (.slice (some ⟨xb, xo, none⟩) kk kc) (ks.length) ((ks).map (Value.int .i64)) :: (mapT intKey b (iMap I1) :: (I1.map OutI.row ++ (mapT intKey ob mq :: (R ++ (NVT :: blk q (.cells #[.pointer (some ⟨p, 0, none⟩), .int .i64 c.f, .int .i64 c.n, .int .i64 c.cl, .int .i64 c.ba, .int .i64 c.mo, .int .i64 c.bt, .int .i64 c.po, .int .i64 c.wi, .map (some vb), .map (some ob)] 143 (0, 0)) :: QT :: blk nr (.cells #[.int .i64 0, .slice none 0 0, .slice none 0 0, .int .i64 0, .int .i64 0, .slice none 0 0] 30 (0, 0)) :: votesT vb V :: l))))))) := hzz
              clear hzz hv' hw' hb'
              have hS1 := Sys.memBlk (n := nt) (o := .cells #[.int .i64 view, .slice bA j bC, .slice sA sK sC, .int .i64 g1, .int .i64 g2, g3] 30 (0, 0)) HZ6.out (by simp)
              have hP1 := Sys.memMap (K := intKey) (b := b) (x := iMap I1) HZ6.out (by simp)
              refine hK.out _ _ (Stage2.still ?_ ?_) (fun hSt => ?_)
              · (try dsimp only); exact hP1
              · (try dsimp only); exact hS1
              clear hK K hSt
              try simp only [Act.put, List.setIfInBounds_toArray, List.set_cons_zero, List.set_cons_succ]
              refine oneT2 14 (by kernel_rfl) rfl (fun K hK => ?_)
              have HZ7 : Hid (Sys wEbxbzxy (upd m 0 (worldT p d X1)) (blk nt (.cells #[.int .i64 view, .slice bA j bC, .slice sA sK sC, .int .i64 g1, .int .i64 g2, g3] 30 (0, 0)) :: own 3 1 (.slice ya yk yc) (j + 1) (((ks.map (viewOf (iKv I1))).take j).map (Value.int .i64) ++ [.int .i64 kv]) :: own 3 1 (.slice xa xk xc) (j + 1) ((ks.take j).map (Value.int .i64) ++ [.int .i64 kx]) :: blk bz (.cells #[.int .i64 kv] 3 (0, 0)) :: blk bx (.cells #[.int .i64 kx] 3 (0, 0)) :: own 3 1 (.slice (some ⟨xb, xo, none⟩) kk kc) (ks.length) ((ks).map (Value.int .i64)) :: (mapT intKey b (iMap I1) :: (I1.map OutI.row ++ (mapT intKey ob mq :: (R ++ (NVT :: blk q (.cells #[.pointer (some ⟨p, 0, none⟩), .int .i64 c.f, .int .i64 c.n, .int .i64 c.cl, .int .i64 c.ba, .int .i64 c.mo, .int .i64 c.bt, .int .i64 c.po, .int .i64 c.wi, .map (some vb), .map (some ob)] 143 (0, 0)) :: QT :: blk nr (.cells #[.int .i64 0, .slice none 0 0, .slice none 0 0, .int .i64 0, .int .i64 0, .slice none 0 0] 30 (0, 0)) :: votesT vb V :: l))))))) := Lib.hid (HZ6.out.front 4 rfl)
              have hbt1 := HZ7.out.getBlk
              have ct1 := cell_of_blk hbt1 1
              simp at ct1
              have ft1 := frozen_of_blk hbt1 1
              have hst1 := HZ7.out.setCell (i := 1) (.slice xa xk xc)
              go_simp
              generalize wEbxbzxy.setCell ⟨nt, 1, none⟩ (.slice xa xk xc) = wS1 at *
              have HZ8 : Hid (Sys wS1 (upd m 0 (worldT p d X1)) (blk nt (.cells #[.int .i64 view, .slice xa xk xc, .slice sA sK sC, .int .i64 g1, .int .i64 g2, g3] 30 (0, 0)) :: own 3 1 (.slice ya yk yc) (j + 1) (((ks.map (viewOf (iKv I1))).take j).map (Value.int .i64) ++ [.int .i64 kv]) :: own 3 1 (.slice xa xk xc) (j + 1) ((ks.take j).map (Value.int .i64) ++ [.int .i64 kx]) :: blk bz (.cells #[.int .i64 kv] 3 (0, 0)) :: blk bx (.cells #[.int .i64 kx] 3 (0, 0)) :: own 3 1 (.slice (some ⟨xb, xo, none⟩) kk kc) (ks.length) ((ks).map (Value.int .i64)) :: (mapT intKey b (iMap I1) :: (I1.map OutI.row ++ (mapT intKey ob mq :: (R ++ (NVT :: blk q (.cells #[.pointer (some ⟨p, 0, none⟩), .int .i64 c.f, .int .i64 c.n, .int .i64 c.cl, .int .i64 c.ba, .int .i64 c.mo, .int .i64 c.bt, .int .i64 c.po, .int .i64 c.wi, .map (some vb), .map (some ob)] 143 (0, 0)) :: QT :: blk nr (.cells #[.int .i64 0, .slice none 0 0, .slice none 0 0, .int .i64 0, .int .i64 0, .slice none 0 0] 30 (0, 0)) :: votesT vb V :: l))))))) := hst1
              clear hbt1 ct1 ft1 hst1
              have hP1 := Sys.memMap (K := intKey) (b := b) (x := iMap I1) HZ8.out (by simp)
              refine hK.out _ _ (Stage2.past (by exact hP1) (by kernel_rfl)) (fun hSt => ?_)
              clear hK K hSt
              try simp only [Act.put, List.setIfInBounds_toArray, List.set_cons_zero, List.set_cons_succ]
              refine takeW2 15 (some 108) (v := ?_) rfl (by rfl) (by kernel_rfl) (by kernel_rfl) (by kernel_rfl) (fun _ _ _ h => h) (by kernel_rfl) (by kernel_rfl) ?_ (Stage2.past (by exact hP1) (by kernel_rfl)) ?_
              rotate_left
              · (intro w; go_simp; try (with_reducible rfl))
              try simp only [Act.put, List.setIfInBounds_toArray, List.set_cons_zero, List.set_cons_succ]
              refine oneT2 16 (by kernel_rfl) rfl (fun K hK => ?_)
              have hbt2 := HZ8.out.getBlk
              have ct2 := cell_of_blk hbt2 2
              simp at ct2
              have ft2 := frozen_of_blk hbt2 2
              have hst2 := HZ8.out.setCell (i := 2) (.slice ya yk yc)
              go_simp
              generalize wS1.setCell ⟨nt, 2, none⟩ (.slice ya yk yc) = wS2 at *
              have HZ9 : Hid (Sys wS2 (upd m 0 (worldT p d X1)) (blk nt (.cells #[.int .i64 view, .slice xa xk xc, .slice ya yk yc, .int .i64 g1, .int .i64 g2, g3] 30 (0, 0)) :: own 3 1 (.slice ya yk yc) (j + 1) (((ks.map (viewOf (iKv I1))).take j).map (Value.int .i64) ++ [.int .i64 kv]) :: own 3 1 (.slice xa xk xc) (j + 1) ((ks.take j).map (Value.int .i64) ++ [.int .i64 kx]) :: blk bz (.cells #[.int .i64 kv] 3 (0, 0)) :: blk bx (.cells #[.int .i64 kx] 3 (0, 0)) :: own 3 1 (.slice (some ⟨xb, xo, none⟩) kk kc) (ks.length) ((ks).map (Value.int .i64)) :: (mapT intKey b (iMap I1) :: (I1.map OutI.row ++ (mapT intKey ob mq :: (R ++ (NVT :: blk q (.cells #[.pointer (some ⟨p, 0, none⟩), .int .i64 c.f, .int .i64 c.n, .int .i64 c.cl, .int .i64 c.ba, .int .i64 c.mo, .int .i64 c.bt, .int .i64 c.po, .int .i64 c.wi, .map (some vb), .map (some ob)] 143 (0, 0)) :: QT :: blk nr (.cells #[.int .i64 0, .slice none 0 0, .slice none 0 0, .int .i64 0, .int .i64 0, .slice none 0 0] 30 (0, 0)) :: votesT vb V :: l))))))) := hst2
              clear hbt2 ct2 ft2 hst2
              have hP1 := Sys.memMap (K := intKey) (b := b) (x := iMap I1) HZ9.out (by simp)
              refine hK.out _ _ (Stage2.past (by exact hP1) (by kernel_rfl)) (fun hSt => ?_)
              clear hK K hSt
              try simp only [Act.put, List.setIfInBounds_toArray, List.set_cons_zero, List.set_cons_succ]
              refine doneT2 (by kernel_rfl) ?_ _
              have HZ10 : Hid (Sys wS2 (upd m 0 (worldT p d X1)) (own 3 1 (.slice (some ⟨xb, xo, none⟩) kk kc) (ks.length) ((ks).map (Value.int .i64)) :: blk nt (.cells #[.int .i64 view, .slice xa xk xc, .slice ya yk yc, .int .i64 g1, .int .i64 g2, g3] 30 (0, 0)) :: own 3 1 (.slice ya yk yc) (j + 1) (((ks.map (viewOf (iKv I1))).take j).map (Value.int .i64) ++ [.int .i64 kv]) :: own 3 1 (.slice xa xk xc) (j + 1) ((ks.take j).map (Value.int .i64) ++ [.int .i64 kx]) :: blk bz (.cells #[.int .i64 kv] 3 (0, 0)) :: blk bx (.cells #[.int .i64 kx] 3 (0, 0)) :: (mapT intKey b (iMap I1) :: (I1.map OutI.row ++ (mapT intKey ob mq :: (R ++ (NVT :: blk q (.cells #[.pointer (some ⟨p, 0, none⟩), .int .i64 c.f, .int .i64 c.n, .int .i64 c.cl, .int .i64 c.ba, .int .i64 c.mo, .int .i64 c.bt, .int .i64 c.po, .int .i64 c.wi, .map (some vb), .map (some ob)] 143 (0, 0)) :: QT :: blk nr (.cells #[.int .i64 0, .slice none 0 0, .slice none 0 0, .int .i64 0, .int .i64 0, .slice none 0 0] 30 (0, 0)) :: votesT vb V :: l))))))) := Lib.hid (HZ9.out.front 5 rfl)
              have HZ11 : Hid (Sys wS2 (upd m 0 (worldT p d X1)) (own 3 1 (.slice ya yk yc) (j + 1) (((ks.map (viewOf (iKv I1))).take j).map (Value.int .i64) ++ [.int .i64 kv]) :: own 3 1 (.slice (some ⟨xb, xo, none⟩) kk kc) (ks.length) ((ks).map (Value.int .i64)) :: blk nt (.cells #[.int .i64 view, .slice xa xk xc, .slice ya yk yc, .int .i64 g1, .int .i64 g2, g3] 30 (0, 0)) :: own 3 1 (.slice xa xk xc) (j + 1) ((ks.take j).map (Value.int .i64) ++ [.int .i64 kx]) :: blk bz (.cells #[.int .i64 kv] 3 (0, 0)) :: blk bx (.cells #[.int .i64 kx] 3 (0, 0)) :: (mapT intKey b (iMap I1) :: (I1.map OutI.row ++ (mapT intKey ob mq :: (R ++ (NVT :: blk q (.cells #[.pointer (some ⟨p, 0, none⟩), .int .i64 c.f, .int .i64 c.n, .int .i64 c.cl, .int .i64 c.ba, .int .i64 c.mo, .int .i64 c.bt, .int .i64 c.po, .int .i64 c.wi, .map (some vb), .map (some ob)] 143 (0, 0)) :: QT :: blk nr (.cells #[.int .i64 0, .slice none 0 0, .slice none 0 0, .int .i64 0, .int .i64 0, .slice none 0 0] 30 (0, 0)) :: votesT vb V :: l))))))) := Lib.hid (HZ10.out.front 2 rfl)
              have HZ12 : Hid (Sys wS2 (upd m 0 (worldT p d X1)) (own 3 1 (.slice xa xk xc) (j + 1) ((ks.take j).map (Value.int .i64) ++ [.int .i64 kx]) :: own 3 1 (.slice ya yk yc) (j + 1) (((ks.map (viewOf (iKv I1))).take j).map (Value.int .i64) ++ [.int .i64 kv]) :: own 3 1 (.slice (some ⟨xb, xo, none⟩) kk kc) (ks.length) ((ks).map (Value.int .i64)) :: blk nt (.cells #[.int .i64 view, .slice xa xk xc, .slice ya yk yc, .int .i64 g1, .int .i64 g2, g3] 30 (0, 0)) :: blk bz (.cells #[.int .i64 kv] 3 (0, 0)) :: blk bx (.cells #[.int .i64 kx] 3 (0, 0)) :: (mapT intKey b (iMap I1) :: (I1.map OutI.row ++ (mapT intKey ob mq :: (R ++ (NVT :: blk q (.cells #[.pointer (some ⟨p, 0, none⟩), .int .i64 c.f, .int .i64 c.n, .int .i64 c.cl, .int .i64 c.ba, .int .i64 c.mo, .int .i64 c.bt, .int .i64 c.po, .int .i64 c.wi, .map (some vb), .map (some ob)] 143 (0, 0)) :: QT :: blk nr (.cells #[.int .i64 0, .slice none 0 0, .slice none 0 0, .int .i64 0, .int .i64 0, .slice none 0 0] 30 (0, 0)) :: votesT vb V :: l))))))) := Lib.hid (HZ11.out.front 3 rfl)
              have HZ13 : Hid (Sys wS2 (upd m 0 (worldT p d X1)) (blk nt (.cells #[.int .i64 view, .slice xa xk xc, .slice ya yk yc, .int .i64 g1, .int .i64 g2, g3] 30 (0, 0)) :: own 3 1 (.slice xa xk xc) (j + 1) ((ks.take j).map (Value.int .i64) ++ [.int .i64 kx]) :: own 3 1 (.slice ya yk yc) (j + 1) (((ks.map (viewOf (iKv I1))).take j).map (Value.int .i64) ++ [.int .i64 kv]) :: own 3 1 (.slice (some ⟨xb, xo, none⟩) kk kc) (ks.length) ((ks).map (Value.int .i64)) :: blk bz (.cells #[.int .i64 kv] 3 (0, 0)) :: blk bx (.cells #[.int .i64 kx] 3 (0, 0)) :: (mapT intKey b (iMap I1) :: (I1.map OutI.row ++ (mapT intKey ob mq :: (R ++ (NVT :: blk q (.cells #[.pointer (some ⟨p, 0, none⟩), .int .i64 c.f, .int .i64 c.n, .int .i64 c.cl, .int .i64 c.ba, .int .i64 c.mo, .int .i64 c.bt, .int .i64 c.po, .int .i64 c.wi, .map (some vb), .map (some ob)] 143 (0, 0)) :: QT :: blk nr (.cells #[.int .i64 0, .slice none 0 0, .slice none 0 0, .int .i64 0, .int .i64 0, .slice none 0 0] 30 (0, 0)) :: votesT vb V :: l))))))) := Lib.hid (HZ12.out.front 3 rfl)
              have HZ14 : Hid (Sys wS2 (upd m 0 (worldT p d X1)) (blk bx (.cells #[.int .i64 kx] 3 (0, 0)) :: blk nt (.cells #[.int .i64 view, .slice xa xk xc, .slice ya yk yc, .int .i64 g1, .int .i64 g2, g3] 30 (0, 0)) :: own 3 1 (.slice xa xk xc) (j + 1) ((ks.take j).map (Value.int .i64) ++ [.int .i64 kx]) :: own 3 1 (.slice ya yk yc) (j + 1) (((ks.map (viewOf (iKv I1))).take j).map (Value.int .i64) ++ [.int .i64 kv]) :: own 3 1 (.slice (some ⟨xb, xo, none⟩) kk kc) (ks.length) ((ks).map (Value.int .i64)) :: blk bz (.cells #[.int .i64 kv] 3 (0, 0)) :: (mapT intKey b (iMap I1) :: (I1.map OutI.row ++ (mapT intKey ob mq :: (R ++ (NVT :: blk q (.cells #[.pointer (some ⟨p, 0, none⟩), .int .i64 c.f, .int .i64 c.n, .int .i64 c.cl, .int .i64 c.ba, .int .i64 c.mo, .int .i64 c.bt, .int .i64 c.po, .int .i64 c.wi, .map (some vb), .map (some ob)] 143 (0, 0)) :: QT :: blk nr (.cells #[.int .i64 0, .slice none 0 0, .slice none 0 0, .int .i64 0, .int .i64 0, .slice none 0 0] 30 (0, 0)) :: votesT vb V :: l))))))) := Lib.hid (HZ13.out.front 5 rfl)
              have HZ15 : Hid (Sys wS2 (upd m 0 (worldT p d X1)) (blk nt (.cells #[.int .i64 view, .slice xa xk xc, .slice ya yk yc, .int .i64 g1, .int .i64 g2, g3] 30 (0, 0)) :: own 3 1 (.slice xa xk xc) (j + 1) ((ks.take j).map (Value.int .i64) ++ [.int .i64 kx]) :: own 3 1 (.slice ya yk yc) (j + 1) (((ks.map (viewOf (iKv I1))).take j).map (Value.int .i64) ++ [.int .i64 kv]) :: own 3 1 (.slice (some ⟨xb, xo, none⟩) kk kc) (ks.length) ((ks).map (Value.int .i64)) :: blk bz (.cells #[.int .i64 kv] 3 (0, 0)) :: (mapT intKey b (iMap I1) :: (I1.map OutI.row ++ (mapT intKey ob mq :: (R ++ (NVT :: blk q (.cells #[.pointer (some ⟨p, 0, none⟩), .int .i64 c.f, .int .i64 c.n, .int .i64 c.cl, .int .i64 c.ba, .int .i64 c.mo, .int .i64 c.bt, .int .i64 c.po, .int .i64 c.wi, .map (some vb), .map (some ob)] 143 (0, 0)) :: QT :: blk nr (.cells #[.int .i64 0, .slice none 0 0, .slice none 0 0, .int .i64 0, .int .i64 0, .slice none 0 0] 30 (0, 0)) :: votesT vb V :: l))))))) := Lib.hid HZ14.out.tail
              have HZ16 : Hid (Sys wS2 (upd m 0 (worldT p d X1)) (blk bz (.cells #[.int .i64 kv] 3 (0, 0)) :: blk nt (.cells #[.int .i64 view, .slice xa xk xc, .slice ya yk yc, .int .i64 g1, .int .i64 g2, g3] 30 (0, 0)) :: own 3 1 (.slice xa xk xc) (j + 1) ((ks.take j).map (Value.int .i64) ++ [.int .i64 kx]) :: own 3 1 (.slice ya yk yc) (j + 1) (((ks.map (viewOf (iKv I1))).take j).map (Value.int .i64) ++ [.int .i64 kv]) :: own 3 1 (.slice (some ⟨xb, xo, none⟩) kk kc) (ks.length) ((ks).map (Value.int .i64)) :: (mapT intKey b (iMap I1) :: (I1.map OutI.row ++ (mapT intKey ob mq :: (R ++ (NVT :: blk q (.cells #[.pointer (some ⟨p, 0, none⟩), .int .i64 c.f, .int .i64 c.n, .int .i64 c.cl, .int .i64 c.ba, .int .i64 c.mo, .int .i64 c.bt, .int .i64 c.po, .int .i64 c.wi, .map (some vb), .map (some ob)] 143 (0, 0)) :: QT :: blk nr (.cells #[.int .i64 0, .slice none 0 0, .slice none 0 0, .int .i64 0, .int .i64 0, .slice none 0 0] 30 (0, 0)) :: votesT vb V :: l))))))) := Lib.hid (HZ15.out.front 4 rfl)
              have HZ17 : Hid (Sys wS2 (upd m 0 (worldT p d X1)) (blk nt (.cells #[.int .i64 view, .slice xa xk xc, .slice ya yk yc, .int .i64 g1, .int .i64 g2, g3] 30 (0, 0)) :: own 3 1 (.slice xa xk xc) (j + 1) ((ks.take j).map (Value.int .i64) ++ [.int .i64 kx]) :: own 3 1 (.slice ya yk yc) (j + 1) (((ks.map (viewOf (iKv I1))).take j).map (Value.int .i64) ++ [.int .i64 kv]) :: own 3 1 (.slice (some ⟨xb, xo, none⟩) kk kc) (ks.length) ((ks).map (Value.int .i64)) :: (mapT intKey b (iMap I1) :: (I1.map OutI.row ++ (mapT intKey ob mq :: (R ++ (NVT :: blk q (.cells #[.pointer (some ⟨p, 0, none⟩), .int .i64 c.f, .int .i64 c.n, .int .i64 c.cl, .int .i64 c.ba, .int .i64 c.mo, .int .i64 c.bt, .int .i64 c.po, .int .i64 c.wi, .map (some vb), .map (some ob)] 143 (0, 0)) :: QT :: blk nr (.cells #[.int .i64 0, .slice none 0 0, .slice none 0 0, .int .i64 0, .int .i64 0, .slice none 0 0] 30 (0, 0)) :: votesT vb V :: l))))))) := Lib.hid HZ16.out.tail
              have HRF := Lib.hid HZ17.out
              clear HZ1 HZ2 HZ3 HZ4 HZ5 HZ6 HZ7 HZ8 HZ9 HZ10 HZ11 HZ12 HZ13 HZ14 HZ15 HZ16 HZ17
              go_wp2_with fail
              go_roundw
              case rel => exact ⟨j + 1, by omega, by go_num, .slice xa xk xc, .slice ya yk yc, g1, g2, g3, by rw [HTK.out, HTV.out, List.map_append, List.map_append]; exact HRF.out, HOK.out⟩
              case measure => simp [intOf]; omega
          · go_simp
            obtain ⟨bz, Hbz⟩ : ∃ n, Hid (n = wE.heap.size) := ⟨_, rfl⟩
            have HZ1 := Lib.hid (HZ0.out.alloc (.cells #[.int .i64 kv] 3 (0, 0)) Hbz.out)
            rw [← Hbz.out]
            generalize wE.alloc (.cells #[.int .i64 kv] 3) = wEbz at *
            have hS1 := Sys.memBlk (n := nt) (o := .cells #[.int .i64 view, .slice bA j bC, .slice sA sK sC, .int .i64 g1, .int .i64 g2, g3] 30 (0, 0)) HZ1.out (by simp)
            have hP1 := Sys.memMap (K := intKey) (b := b) (x := iMap I1) HZ1.out (by simp)
            refine hK.out _ _ (Stage2.still ?_ ?_) (fun hSt => ?_)
            · (try dsimp only); exact hP1
            · (try dsimp only); exact hS1
            clear hK K hSt
            try simp only [Act.put, List.setIfInBounds_toArray, List.set_cons_zero, List.set_cons_succ]
            refine oneT2 3 (by kernel_rfl) rfl (fun K hK => ?_)
            go_simp
            obtain ⟨bx, Hbx⟩ : ∃ n, Hid (n = wEbz.heap.size) := ⟨_, rfl⟩
            have HZ2 := Lib.hid (HZ1.out.alloc (.cells #[.int .i64 kx] 3 (0, 0)) Hbx.out)
            rw [← Hbx.out]
            generalize wEbz.alloc (.cells #[.int .i64 kx] 3) = wEbzbx at *
            have hS1 := Sys.memBlk (n := nt) (o := .cells #[.int .i64 view, .slice bA j bC, .slice sA sK sC, .int .i64 g1, .int .i64 g2, g3] 30 (0, 0)) HZ2.out (by simp)
            have hP1 := Sys.memMap (K := intKey) (b := b) (x := iMap I1) HZ2.out (by simp)
            refine hK.out _ _ (Stage2.still ?_ ?_) (fun hSt => ?_)
            · (try dsimp only); exact hP1
            · (try dsimp only); exact hS1
            clear hK K hSt
            try simp only [Act.put, List.setIfInBounds_toArray, List.set_cons_zero, List.set_cons_succ]
            refine oneT2 4 (by kernel_rfl) rfl (fun K hK => ?_)
            have HZ3 : Hid (Sys wEbzbx (upd m 0 (worldT p d X1)) (own 3 1 (.slice bA j bC) (j) ((ks.take j).map (Value.int .i64)) :: blk bx (.cells #[.int .i64 kx] 3 (0, 0)) :: blk bz (.cells #[.int .i64 kv] 3 (0, 0)) :: blk nt (.cells #[.int .i64 view, .slice bA j bC, .slice sA sK sC, .int .i64 g1, .int .i64 g2, g3] 30 (0, 0)) :: own 3 1 (.slice sA sK sC) (j) (((ks.map (viewOf (iKv I1))).take j).map (Value.int .i64)) :: own 3 1 (.slice (some ⟨xb, xo, none⟩) kk kc) (ks.length) ((ks).map (Value.int .i64)) :: (mapT intKey b (iMap I1) :: (I1.map OutI.row ++ (mapT intKey ob mq :: (R ++ (NVT :: blk q (.cells #[.pointer (some ⟨p, 0, none⟩), .int .i64 c.f, .int .i64 c.n, .int .i64 c.cl, .int .i64 c.ba, .int .i64 c.mo, .int .i64 c.bt, .int .i64 c.po, .int .i64 c.wi, .map (some vb), .map (some ob)] 143 (0, 0)) :: QT :: blk nr (.cells #[.int .i64 0, .slice none 0 0, .slice none 0 0, .int .i64 0, .int .i64 0, .slice none 0 0] 30 (0, 0)) :: votesT vb V :: l))))))) := Lib.hid (HZ2.out.front 3 rfl)
            refine step_own_append rfl (.tmp 95) (.tmp 97) 23 rfl Try.underlying23 HI8.out HZ8.out HS8.out HBY8.out rfl (by decide) rfl (HZ3.out.getOwn) rfl [.int .i64 kx] (Sys.memBlk (n := bx) (o := .cells #[.int .i64 kx] 3 (0, 0)) HZ3.out (by simp)) rfl (by intro u hu; simp at hu; subst hu; rfl) (by have := HJN.out; omega) (by have := HJN.out; unfold maxLen; omega) ?_
            intro xv wEbzbxx hv' hw' hb'
            have hzz := HZ3.out.ownTo hv' hw' hb'
            obtain ⟨xa, xk, xc, rfl, -⟩ := hv'.slice
            have HZ4 : Hid (Sys wEbzbxx (upd m 0 (worldT p d X1)) (own 3 1 (.slice xa xk xc) (j + 1) ((ks.take j).map (Value.int .i64) ++ [.int .i64 kx]) :: blk bx (.cells #[.int .i64 kx] 3 (0, 0)) :: blk bz (.cells #[.int .i64 kv] 3 (0, 0)) :: blk nt (.cells #[.int .i64 view, .slice bA j bC, .slice sA sK sC, .int .i64 g1, .int .i64 g2, g3] 30 (0, 0)) :: own 3 1 (.slice sA sK sC) (j) (((ks.map (viewOf (iKv I1))).take j).map (Value.int .i64)) :: own 3 1 (.slice (some ⟨xb, xo, none⟩) kk kc) (ks.length) ((ks).map (Value.int .i64)) :: (mapT intKey b (iMap I1) :: (I1.map OutI.row ++ (mapT intKey ob mq :: (R ++ (NVT :: blk q (.cells #[.pointer (some ⟨p, 0, none⟩), .int .i64 c.f, .int .i64 c.n, .int .i64 c.cl, .int .i64 c.ba, .int .i64 c.mo, .int .i64 c.bt, .int .i64 c.po, .int .i64 c.wi, .map (some vb), .map (some ob)] 143 (0, 0)) :: QT :: blk nr (.cells #[.int .i64 0, .slice none 0 0, .slice none 0 0, .int .i64 0, .int .i64 0, .slice none 0 0] 30 (0, 0)) :: votesT vb V :: l))))))) := hzz
            clear hzz hv' hw' hb'
            have hS1 := Sys.memBlk (n := nt) (o := .cells #[.int .i64 view, .slice bA j bC, .slice sA sK sC, .int .i64 g1, .int .i64 g2, g3] 30 (0, 0)) HZ4.out (by simp)
            have hP1 := Sys.memMap (K := intKey) (b := b) (x := iMap I1) HZ4.out (by simp)
            refine hK.out _ _ (Stage2.still ?_ ?_) (fun hSt => ?_)
            · (try dsimp only); exact hP1
            · (try dsimp only); exact hS1
            clear hK K hSt
            try simp only [Act.put, List.setIfInBounds_toArray, List.set_cons_zero, List.set_cons_succ]
            refine takeW2 13 (some 107) (v := ?_) rfl (by rfl) (by kernel_rfl) (by kernel_rfl) (by kernel_rfl) (fun _ _ _ h => h) (by kernel_rfl) (by kernel_rfl) ?_ (Stage2.still (by exact hP1) (by assumption)) ?_
            rotate_left
            · (intro w; go_simp; try (with_reducible rfl))
            try simp only [Act.put, List.setIfInBounds_toArray, List.set_cons_zero, List.set_cons_succ]
            refine oneT2 12 (by kernel_rfl) rfl (fun K hK => ?_)
            have HZ5 : Hid (Sys wEbzbxx (upd m 0 (worldT p d X1)) (own 3 1 (.slice sA sK sC) (j) (((ks.map (viewOf (iKv I1))).take j).map (Value.int .i64)) :: own 3 1 (.slice xa xk xc) (j + 1) ((ks.take j).map (Value.int .i64) ++ [.int .i64 kx]) :: blk bx (.cells #[.int .i64 kx] 3 (0, 0)) :: blk bz (.cells #[.int .i64 kv] 3 (0, 0)) :: blk nt (.cells #[.int .i64 view, .slice bA j bC, .slice sA sK sC, .int .i64 g1, .int .i64 g2, g3] 30 (0, 0)) :: own 3 1 (.slice (some ⟨xb, xo, none⟩) kk kc) (ks.length) ((ks).map (Value.int .i64)) :: (mapT intKey b (iMap I1) :: (I1.map OutI.row ++ (mapT intKey ob mq :: (R ++ (NVT :: blk q (.cells #[.pointer (some ⟨p, 0, none⟩), .int .i64 c.f, .int .i64 c.n, .int .i64 c.cl, .int .i64 c.ba, .int .i64 c.mo, .int .i64 c.bt, .int .i64 c.po, .int .i64 c.wi, .map (some vb), .map (some ob)] 143 (0, 0)) :: QT :: blk nr (.cells #[.int .i64 0, .slice none 0 0, .slice none 0 0, .int .i64 0, .int .i64 0, .slice none 0 0] 30 (0, 0)) :: votesT vb V :: l))))))) := Lib.hid (HZ4.out.front 4 rfl)
            refine step_own_append rfl (.tmp 100) (.tmp 105) 23 rfl Try.underlying23 HI8.out HZ8.out HS8.out HBY8.out rfl (by decide) rfl (HZ5.out.getOwn) rfl [.int .i64 kv] (Sys.memBlk (n := bz) (o := .cells #[.int .i64 kv] 3 (0, 0)) HZ5.out (by simp)) rfl (by intro u hu; simp at hu; subst hu; rfl) (by have := HJN.out; omega) (by have := HJN.out; unfold maxLen; omega) ?_
            intro yv wEbzbxxy hv' hw' hb'
            have hzz := HZ5.out.ownTo hv' hw' hb'
            obtain ⟨ya, yk, yc, rfl, -⟩ := hv'.slice
            have HZ6 : Hid (Sys wEbzbxxy (upd m 0 (worldT p d X1)) (own 3 1 (.slice ya yk yc) (j + 1) (((ks.map (viewOf (iKv I1))).take j).map (Value.int .i64) ++ [.int .i64 kv]) :: own 3 1 (.slice xa xk xc) (j + 1) ((ks.take j).map (Value.int .i64) ++ [.int .i64 kx]) :: blk bx (.cells #[.int .i64 kx] 3 (0, 0)) :: blk bz (.cells #[.int .i64 kv] 3 (0, 0)) :: blk nt (.cells #[.int .i64 view, .slice bA j bC, .slice sA sK sC, .int .i64 g1, .int .i64 g2, g3] 30 (0, 0)) :: own 3 1 (.slice (some ⟨xb, xo, none⟩) kk kc) (ks.length) ((ks).map (Value.int .i64)) :: (mapT intKey b (iMap I1) :: (I1.map OutI.row ++ (mapT intKey ob mq :: (R ++ (NVT :: blk q (.cells #[.pointer (some ⟨p, 0, none⟩), .int .i64 c.f, .int .i64 c.n, .int .i64 c.cl, .int .i64 c.ba, .int .i64 c.mo, .int .i64 c.bt, .int .i64 c.po, .int .i64 c.wi, .map (some vb), .map (some ob)] 143 (0, 0)) :: QT :: blk nr (.cells #[.int .i64 0, .slice none 0 0, .slice none 0 0, .int .i64 0, .int .i64 0, .slice none 0 0] 30 (0, 0)) :: votesT vb V :: l))))))) := hzz
            clear hzz hv' hw' hb'
            have hS1 := Sys.memBlk (n := nt) (o := .cells #[.int .i64 view, .slice bA j bC, .slice sA sK sC, .int .i64 g1, .int .i64 g2, g3] 30 (0, 0)) HZ6.out (by simp)
            have hP1 := Sys.memMap (K := intKey) (b := b) (x := iMap I1) HZ6.out (by simp)
            refine hK.out _ _ (Stage2.still ?_ ?_) (fun hSt => ?_)
            · (try dsimp only); exact hP1
            · (try dsimp only); exact hS1
            clear hK K hSt
            try simp only [Act.put, List.setIfInBounds_toArray, List.set_cons_zero, List.set_cons_succ]
            refine oneT2 14 (by kernel_rfl) rfl (fun K hK => ?_)
            have HZ7 : Hid (Sys wEbzbxxy (upd m 0 (worldT p d X1)) (blk nt (.cells #[.int .i64 view, .slice bA j bC, .slice sA sK sC, .int .i64 g1, .int .i64 g2, g3] 30 (0, 0)) :: own 3 1 (.slice ya yk yc) (j + 1) (((ks.map (viewOf (iKv I1))).take j).map (Value.int .i64) ++ [.int .i64 kv]) :: own 3 1 (.slice xa xk xc) (j + 1) ((ks.take j).map (Value.int .i64) ++ [.int .i64 kx]) :: blk bx (.cells #[.int .i64 kx] 3 (0, 0)) :: blk bz (.cells #[.int .i64 kv] 3 (0, 0)) :: own 3 1 (.slice (some ⟨xb, xo, none⟩) kk kc) (ks.length) ((ks).map (Value.int .i64)) :: (mapT intKey b (iMap I1) :: (I1.map OutI.row ++ (mapT intKey ob mq :: (R ++ (NVT :: blk q (.cells #[.pointer (some ⟨p, 0, none⟩), .int .i64 c.f, .int .i64 c.n, .int .i64 c.cl, .int .i64 c.ba, .int .i64 c.mo, .int .i64 c.bt, .int .i64 c.po, .int .i64 c.wi, .map (some vb), .map (some ob)] 143 (0, 0)) :: QT :: blk nr (.cells #[.int .i64 0, .slice none 0 0, .slice none 0 0, .int .i64 0, .int .i64 0, .slice none 0 0] 30 (0, 0)) :: votesT vb V :: l))))))) := Lib.hid (HZ6.out.front 4 rfl)
            have hbt1 := HZ7.out.getBlk
            have ct1 := cell_of_blk hbt1 1
            simp at ct1
            have ft1 := frozen_of_blk hbt1 1
            have hst1 := HZ7.out.setCell (i := 1) (.slice xa xk xc)
            go_simp
            generalize wEbzbxxy.setCell ⟨nt, 1, none⟩ (.slice xa xk xc) = wS1 at *
            have HZ8 : Hid (Sys wS1 (upd m 0 (worldT p d X1)) (blk nt (.cells #[.int .i64 view, .slice xa xk xc, .slice sA sK sC, .int .i64 g1, .int .i64 g2, g3] 30 (0, 0)) :: own 3 1 (.slice ya yk yc) (j + 1) (((ks.map (viewOf (iKv I1))).take j).map (Value.int .i64) ++ [.int .i64 kv]) :: own 3 1 (.slice xa xk xc) (j + 1) ((ks.take j).map (Value.int .i64) ++ [.int .i64 kx]) :: blk bx (.cells #[.int .i64 kx] 3 (0, 0)) :: blk bz (.cells #[.int .i64 kv] 3 (0, 0)) :: own 3 1 (.slice (some ⟨xb, xo, none⟩) kk kc) (ks.length) ((ks).map (Value.int .i64)) :: (mapT intKey b (iMap I1) :: (I1.map OutI.row ++ (mapT intKey ob mq :: (R ++ (NVT :: blk q (.cells #[.pointer (some ⟨p, 0, none⟩), .int .i64 c.f, .int .i64 c.n, .int .i64 c.cl, .int .i64 c.ba, .int .i64 c.mo, .int .i64 c.bt, .int .i64 c.po, .int .i64 c.wi, .map (some vb), .map (some ob)] 143 (0, 0)) :: QT :: blk nr (.cells #[.int .i64 0, .slice none 0 0, .slice none 0 0, .int .i64 0, .int .i64 0, .slice none 0 0] 30 (0, 0)) :: votesT vb V :: l))))))) := hst1
            clear hbt1 ct1 ft1 hst1
            have hP1 := Sys.memMap (K := intKey) (b := b) (x := iMap I1) HZ8.out (by simp)
            refine hK.out _ _ (Stage2.past (by exact hP1) (by kernel_rfl)) (fun hSt => ?_)
            clear hK K hSt
            try simp only [Act.put, List.setIfInBounds_toArray, List.set_cons_zero, List.set_cons_succ]
            refine takeW2 15 (some 108) (v := ?_) rfl (by rfl) (by kernel_rfl) (by kernel_rfl) (by kernel_rfl) (fun _ _ _ h => h) (by kernel_rfl) (by kernel_rfl) ?_ (Stage2.past (by exact hP1) (by kernel_rfl)) ?_
            rotate_left
            · (intro w; go_simp; try (with_reducible rfl))
            try simp only [Act.put, List.setIfInBounds_toArray, List.set_cons_zero, List.set_cons_succ]
            refine oneT2 16 (by kernel_rfl) rfl (fun K hK => ?_)
            have hbt2 := HZ8.out.getBlk
            have ct2 := cell_of_blk hbt2 2
            simp at ct2
            have ft2 := frozen_of_blk hbt2 2
            have hst2 := HZ8.out.setCell (i := 2) (.slice ya yk yc)
            go_simp
            generalize wS1.setCell ⟨nt, 2, none⟩ (.slice ya yk yc) = wS2 at *
            have HZ9 : Hid (Sys wS2 (upd m 0 (worldT p d X1)) (blk nt (.cells #[.int .i64 view, .slice xa xk xc, .slice ya yk yc, .int .i64 g1, .int .i64 g2, g3] 30 (0, 0)) :: own 3 1 (.slice ya yk yc) (j + 1) (((ks.map (viewOf (iKv I1))).take j).map (Value.int .i64) ++ [.int .i64 kv]) :: own 3 1 (.slice xa xk xc) (j + 1) ((ks.take j).map (Value.int .i64) ++ [.int .i64 kx]) :: blk bx (.cells #[.int .i64 kx] 3 (0, 0)) :: blk bz (.cells #[.int .i64 kv] 3 (0, 0)) :: own 3 1 (.slice (some ⟨xb, xo, none⟩) kk kc) (ks.length) ((ks).map (Value.int .i64)) :: (mapT intKey b (iMap I1) :: (I1.map OutI.row ++ (mapT intKey ob mq :: (R ++ (NVT :: blk q (.cells #[.pointer (some ⟨p, 0, none⟩), .int .i64 c.f, .int .i64 c.n, .int .i64 c.cl, .int .i64 c.ba, .int .i64 c.mo, .int .i64 c.bt, .int .i64 c.po, .int .i64 c.wi, .map (some vb), .map (some ob)] 143 (0, 0)) :: QT :: blk nr (.cells #[.int .i64 0, .slice none 0 0, .slice none 0 0, .int .i64 0, .int .i64 0, .slice none 0 0] 30 (0, 0)) :: votesT vb V :: l))))))) := hst2
            clear hbt2 ct2 ft2 hst2
            have hP1 := Sys.memMap (K := intKey) (b := b) (x := iMap I1) HZ9.out (by simp)
            refine hK.out _ _ (Stage2.past (by exact hP1) (by kernel_rfl)) (fun hSt => ?_)
            clear hK K hSt
            try simp only [Act.put, List.setIfInBounds_toArray, List.set_cons_zero, List.set_cons_succ]
            refine doneT2 (by kernel_rfl) ?_ _
            have HZ10 : Hid (Sys wS2 (upd m 0 (worldT p d X1)) (own 3 1 (.slice (some ⟨xb, xo, none⟩) kk kc) (ks.length) ((ks).map (Value.int .i64)) :: blk nt (.cells #[.int .i64 view, .slice xa xk xc, .slice ya yk yc, .int .i64 g1, .int .i64 g2, g3] 30 (0, 0)) :: own 3 1 (.slice ya yk yc) (j + 1) (((ks.map (viewOf (iKv I1))).take j).map (Value.int .i64) ++ [.int .i64 kv]) :: own 3 1 (.slice xa xk xc) (j + 1) ((ks.take j).map (Value.int .i64) ++ [.int .i64 kx]) :: blk bx (.cells #[.int .i64 kx] 3 (0, 0)) :: blk bz (.cells #[.int .i64 kv] 3 (0, 0)) :: (mapT intKey b (iMap I1) :: (I1.map OutI.row ++ (mapT intKey ob mq :: (R ++ (NVT :: blk q (.cells #[.pointer (some ⟨p, 0, none⟩), .int .i64 c.f, .int .i64 c.n, .int .i64 c.cl, .int .i64 c.ba, .int .i64 c.mo, .int .i64 c.bt, .int .i64 c.po, .int .i64 c.wi, .map (some vb), .map (some ob)] 143 (0, 0)) :: QT :: blk nr (.cells #[.int .i64 0, .slice none 0 0, .slice none 0 0, .int .i64 0, .int .i64 0, .slice none 0 0] 30 (0, 0)) :: votesT vb V :: l))))))) := Lib.hid (HZ9.out.front 5 rfl)
            have HZ11 : Hid (Sys wS2 (upd m 0 (worldT p d X1)) (own 3 1 (.slice ya yk yc) (j + 1) (((ks.map (viewOf (iKv I1))).take j).map (Value.int .i64) ++ [.int .i64 kv]) :: own 3 1 (.slice (some ⟨xb, xo, none⟩) kk kc) (ks.length) ((ks).map (Value.int .i64)) :: blk nt (.cells #[.int .i64 view, .slice xa xk xc, .slice ya yk yc, .int .i64 g1, .int .i64 g2, g3] 30 (0, 0)) :: own 3 1 (.slice xa xk xc) (j + 1) ((ks.take j).map (Value.int .i64) ++ [.int .i64 kx]) :: blk bx (.cells #[.int .i64 kx] 3 (0, 0)) :: blk bz (.cells #[.int .i64 kv] 3 (0, 0)) :: (mapT intKey b (iMap I1) :: (I1.map OutI.row ++ (mapT intKey ob mq :: (R ++ (NVT :: blk q (.cells #[.pointer (some ⟨p, 0, none⟩), .int .i64 c.f, .int .i64 c.n, .int .i64 c.cl, .int .i64 c.ba, .int .i64 c.mo, .int .i64 c.bt, .int .i64 c.po, .int .i64 c.wi, .map (some vb), .map (some ob)] 143 (0, 0)) :: QT :: blk nr (.cells #[.int .i64 0, .slice none 0 0, .slice none 0 0, .int .i64 0, .int .i64 0, .slice none 0 0] 30 (0, 0)) :: votesT vb V :: l))))))) := Lib.hid (HZ10.out.front 2 rfl)
            have HZ12 : Hid (Sys wS2 (upd m 0 (worldT p d X1)) (own 3 1 (.slice xa xk xc) (j + 1) ((ks.take j).map (Value.int .i64) ++ [.int .i64 kx]) :: own 3 1 (.slice ya yk yc) (j + 1) (((ks.map (viewOf (iKv I1))).take j).map (Value.int .i64) ++ [.int .i64 kv]) :: own 3 1 (.slice (some ⟨xb, xo, none⟩) kk kc) (ks.length) ((ks).map (Value.int .i64)) :: blk nt (.cells #[.int .i64 view, .slice xa xk xc, .slice ya yk yc, .int .i64 g1, .int .i64 g2, g3] 30 (0, 0)) :: blk bx (.cells #[.int .i64 kx] 3 (0, 0)) :: blk bz (.cells #[.int .i64 kv] 3 (0, 0)) :: (mapT intKey b (iMap I1) :: (I1.map OutI.row ++ (mapT intKey ob mq :: (R ++ (NVT :: blk q (.cells #[.pointer (some ⟨p, 0, none⟩), .int .i64 c.f, .int .i64 c.n, .int .i64 c.cl, .int .i64 c.ba, .int .i64 c.mo, .int .i64 c.bt, .int .i64 c.po, .int .i64 c.wi, .map (some vb), .map (some ob)] 143 (0, 0)) :: QT :: blk nr (.cells #[.int .i64 0, .slice none 0 0, .slice none 0 0, .int .i64 0, .int .i64 0, .slice none 0 0] 30 (0, 0)) :: votesT vb V :: l))))))) := Lib.hid (HZ11.out.front 3 rfl)
            have HZ13 : Hid (Sys wS2 (upd m 0 (worldT p d X1)) (blk nt (.cells #[.int .i64 view, .slice xa xk xc, .slice ya yk yc, .int .i64 g1, .int .i64 g2, g3] 30 (0, 0)) :: own 3 1 (.slice xa xk xc) (j + 1) ((ks.take j).map (Value.int .i64) ++ [.int .i64 kx]) :: own 3 1 (.slice ya yk yc) (j + 1) (((ks.map (viewOf (iKv I1))).take j).map (Value.int .i64) ++ [.int .i64 kv]) :: own 3 1 (.slice (some ⟨xb, xo, none⟩) kk kc) (ks.length) ((ks).map (Value.int .i64)) :: blk bx (.cells #[.int .i64 kx] 3 (0, 0)) :: blk bz (.cells #[.int .i64 kv] 3 (0, 0)) :: (mapT intKey b (iMap I1) :: (I1.map OutI.row ++ (mapT intKey ob mq :: (R ++ (NVT :: blk q (.cells #[.pointer (some ⟨p, 0, none⟩), .int .i64 c.f, .int .i64 c.n, .int .i64 c.cl, .int .i64 c.ba, .int .i64 c.mo, .int .i64 c.bt, .int .i64 c.po, .int .i64 c.wi, .map (some vb), .map (some ob)] 143 (0, 0)) :: QT :: blk nr (.cells #[.int .i64 0, .slice none 0 0, .slice none 0 0, .int .i64 0, .int .i64 0, .slice none 0 0] 30 (0, 0)) :: votesT vb V :: l))))))) := Lib.hid (HZ12.out.front 3 rfl)
            have HZ14 : Hid (Sys wS2 (upd m 0 (worldT p d X1)) (blk bz (.cells #[.int .i64 kv] 3 (0, 0)) :: blk nt (.cells #[.int .i64 view, .slice xa xk xc, .slice ya yk yc, .int .i64 g1, .int .i64 g2, g3] 30 (0, 0)) :: own 3 1 (.slice xa xk xc) (j + 1) ((ks.take j).map (Value.int .i64) ++ [.int .i64 kx]) :: own 3 1 (.slice ya yk yc) (j + 1) (((ks.map (viewOf (iKv I1))).take j).map (Value.int .i64) ++ [.int .i64 kv]) :: own 3 1 (.slice (some ⟨xb, xo, none⟩) kk kc) (ks.length) ((ks).map (Value.int .i64)) :: blk bx (.cells #[.int .i64 kx] 3 (0, 0)) :: (mapT intKey b (iMap I1) :: (I1.map OutI.row ++ (mapT intKey ob mq :: (R ++ (NVT :: blk q (.cells #[.pointer (some ⟨p, 0, none⟩), .int .i64 c.f, .int .i64 c.n, .int .i64 c.cl, .int .i64 c.ba, .int .i64 c.mo, .int .i64 c.bt, .int .i64 c.po, .int .i64 c.wi, .map (some vb), .map (some ob)] 143 (0, 0)) :: QT :: blk nr (.cells #[.int .i64 0, .slice none 0 0, .slice none 0 0, .int .i64 0, .int .i64 0, .slice none 0 0] 30 (0, 0)) :: votesT vb V :: l))))))) := Lib.hid (HZ13.out.front 5 rfl)
            have HZ15 : Hid (Sys wS2 (upd m 0 (worldT p d X1)) (blk nt (.cells #[.int .i64 view, .slice xa xk xc, .slice ya yk yc, .int .i64 g1, .int .i64 g2, g3] 30 (0, 0)) :: own 3 1 (.slice xa xk xc) (j + 1) ((ks.take j).map (Value.int .i64) ++ [.int .i64 kx]) :: own 3 1 (.slice ya yk yc) (j + 1) (((ks.map (viewOf (iKv I1))).take j).map (Value.int .i64) ++ [.int .i64 kv]) :: own 3 1 (.slice (some ⟨xb, xo, none⟩) kk kc) (ks.length) ((ks).map (Value.int .i64)) :: blk bx (.cells #[.int .i64 kx] 3 (0, 0)) :: (mapT intKey b (iMap I1) :: (I1.map OutI.row ++ (mapT intKey ob mq :: (R ++ (NVT :: blk q (.cells #[.pointer (some ⟨p, 0, none⟩), .int .i64 c.f, .int .i64 c.n, .int .i64 c.cl, .int .i64 c.ba, .int .i64 c.mo, .int .i64 c.bt, .int .i64 c.po, .int .i64 c.wi, .map (some vb), .map (some ob)] 143 (0, 0)) :: QT :: blk nr (.cells #[.int .i64 0, .slice none 0 0, .slice none 0 0, .int .i64 0, .int .i64 0, .slice none 0 0] 30 (0, 0)) :: votesT vb V :: l))))))) := Lib.hid HZ14.out.tail
            have HZ16 : Hid (Sys wS2 (upd m 0 (worldT p d X1)) (blk bx (.cells #[.int .i64 kx] 3 (0, 0)) :: blk nt (.cells #[.int .i64 view, .slice xa xk xc, .slice ya yk yc, .int .i64 g1, .int .i64 g2, g3] 30 (0, 0)) :: own 3 1 (.slice xa xk xc) (j + 1) ((ks.take j).map (Value.int .i64) ++ [.int .i64 kx]) :: own 3 1 (.slice ya yk yc) (j + 1) (((ks.map (viewOf (iKv I1))).take j).map (Value.int .i64) ++ [.int .i64 kv]) :: own 3 1 (.slice (some ⟨xb, xo, none⟩) kk kc) (ks.length) ((ks).map (Value.int .i64)) :: (mapT intKey b (iMap I1) :: (I1.map OutI.row ++ (mapT intKey ob mq :: (R ++ (NVT :: blk q (.cells #[.pointer (some ⟨p, 0, none⟩), .int .i64 c.f, .int .i64 c.n, .int .i64 c.cl, .int .i64 c.ba, .int .i64 c.mo, .int .i64 c.bt, .int .i64 c.po, .int .i64 c.wi, .map (some vb), .map (some ob)] 143 (0, 0)) :: QT :: blk nr (.cells #[.int .i64 0, .slice none 0 0, .slice none 0 0, .int .i64 0, .int .i64 0, .slice none 0 0] 30 (0, 0)) :: votesT vb V :: l))))))) := Lib.hid (HZ15.out.front 4 rfl)
            have HZ17 : Hid (Sys wS2 (upd m 0 (worldT p d X1)) (blk nt (.cells #[.int .i64 view, .slice xa xk xc, .slice ya yk yc, .int .i64 g1, .int .i64 g2, g3] 30 (0, 0)) :: own 3 1 (.slice xa xk xc) (j + 1) ((ks.take j).map (Value.int .i64) ++ [.int .i64 kx]) :: own 3 1 (.slice ya yk yc) (j + 1) (((ks.map (viewOf (iKv I1))).take j).map (Value.int .i64) ++ [.int .i64 kv]) :: own 3 1 (.slice (some ⟨xb, xo, none⟩) kk kc) (ks.length) ((ks).map (Value.int .i64)) :: (mapT intKey b (iMap I1) :: (I1.map OutI.row ++ (mapT intKey ob mq :: (R ++ (NVT :: blk q (.cells #[.pointer (some ⟨p, 0, none⟩), .int .i64 c.f, .int .i64 c.n, .int .i64 c.cl, .int .i64 c.ba, .int .i64 c.mo, .int .i64 c.bt, .int .i64 c.po, .int .i64 c.wi, .map (some vb), .map (some ob)] 143 (0, 0)) :: QT :: blk nr (.cells #[.int .i64 0, .slice none 0 0, .slice none 0 0, .int .i64 0, .int .i64 0, .slice none 0 0] 30 (0, 0)) :: votesT vb V :: l))))))) := Lib.hid HZ16.out.tail
            have HRF := Lib.hid HZ17.out
            clear HZ1 HZ2 HZ3 HZ4 HZ5 HZ6 HZ7 HZ8 HZ9 HZ10 HZ11 HZ12 HZ13 HZ14 HZ15 HZ16 HZ17
            go_wp2_with fail
            go_roundw
            case rel => exact ⟨j + 1, by omega, by go_num, .slice xa xk xc, .slice ya yk yc, g1, g2, g3, by rw [HTK.out, HTV.out, List.map_append, List.map_append]; exact HRF.out, HOK.out⟩
            case measure => simp [intOf]; omega
        · have hjl : ¬ (j : Int) < (kk : Int) := by omega
          rcases HOK0 with h9 | ⟨h8, ie, h1, h2, h3, h4, h5, h6, h7⟩
          · omega
          obtain ⟨iw, iq, iv⟩ := ie
          obtain ⟨kv, kb, kby⟩ := iq
          have hkb : kby.length ≤ 10000 := HBYS.out (iw, ⟨kv, kb, kby⟩) (by rw [← HL1.out]; exact List.mem_map.2 ⟨_, h1, rfl⟩)
          have hmo := Sys.memOwn (E := 3) (size := 1) (v := iv) (n := kby.length) (xs := kby.map (Value.int .i64)) hR (by
            refine List.mem_cons_of_mem _ (List.mem_cons_of_mem _ (List.mem_cons_of_mem _ (List.mem_cons_of_mem _ (List.mem_cons_of_mem _ (List.mem_append_left _ (List.mem_map.2 ⟨_, h1, rfl⟩)))))))
          obtain ⟨iA, iK, iC, hiv, hik⟩ := hmo.slice
          subst hiv
          have hik' := hik.out
          subst hik'
          dsimp only at h4 h5 h6
          subst h4 h5 h6
          have HCN := Lib.hid (clone_ints_at iA iC kby.length kby wr (own_ints_at hmo rfl) rfl (own_none hmo) (by omega))
          have c5 : wr.cell? ⟨nt, 5, none⟩ = some (.slice iA kby.length iC) := cell_of_blk hR.getBlk 5
          have HR := Lib.hid hR
          have HIM := Lib.hid h1
          have HIW := Lib.hid h2
          have HIK := Lib.hid h3
          have HIX := Lib.hid h7
          clear hR hmo h1 h2 h3 h7 hkb
          go_wp2_with fail
          refine HCN.out.mono ?_
          rintro e wF ⟨vc, rfl, hoC, hnC, hBC⟩
          obtain ⟨yA, yK, yC, rfl, HYK⟩ := hoC.slice
          have hF0 := (HR.out.pushOwn hBC hoC hnC).swap
          have hbF := hF0.getBlk
          have c5F : wF.cell? ⟨nt, 5, none⟩ = some (.slice iA kby.length iC) := cell_of_blk hbF 5
          have f5F := frozen_of_blk hbF 5
          have hF1 := hF0.setCell (i := 5) (.slice yA yK yC)
          obtain ⟨wG, hwG⟩ : ∃ y, y = wF.setCell ⟨nt, 5, none⟩ (.slice yA yK yC) := ⟨_, rfl⟩
          rw [← hwG] at hF1
          have HWG := Lib.hid hwG
          have HF1 : Hid (Sys wG (upd m 0 (worldT p d X1)) (blk nt (.cells #[.int .i64 view, .slice bA j bC, .slice sA sK sC, .int .i64 kv, .int .i64 kb, .slice yA yK yC] 30 (0, 0)) :: own 3 1 (.slice yA yK yC) kby.length (kby.map (Value.int .i64)) :: own 3 1 (.slice bA j bC) (j) ((ks.take j).map (Value.int .i64)) :: own 3 1 (.slice sA sK sC) (j) (((ks.map (viewOf (iKv I1))).take j).map (Value.int .i64)) :: own 3 1 (.slice ka kk kc) (ks.length) ((ks).map (Value.int .i64)) :: (mapT intKey b (iMap I1) :: (I1.map OutI.row ++ (mapT intKey ob mq :: (R ++ (NVT :: blk q (.cells #[.pointer (some ⟨p, 0, none⟩), .int .i64 c.f, .int .i64 c.n, .int .i64 c.cl, .int .i64 c.ba, .int .i64 c.mo, .int .i64 c.bt, .int .i64 c.po, .int .i64 c.wi, .map (some vb), .map (some ob)] 143 (0, 0)) :: QT :: blk nr (.cells #[.int .i64 0, .slice none 0 0, .slice none 0 0, .int .i64 0, .int .i64 0, .slice none 0 0] 30 (0, 0)) :: votesT vb V :: l))))))) := hF1
          clear hoC hnC hBC hF0 hbF hF1 hwG HCN c5
          go_upto_region 21 with fail
          rw [← HWG.out]
          clear c5F f5F
          have hz := HCL.out _ _ _ I1 HW1.out (HF1.out.perm (perm_in5 _ _ _ _ _ _ _ _ _ _))
          have HZA := Lib.hid (hz.front 9 rfl)
          have hbt := Sys.memBlk (n := nt) (o := .cells #[.int .i64 view, .slice bA j bC, .slice sA sK sC, .int .i64 kv, .int .i64 kb, .slice yA yK yC] 30 (0, 0)) hz (by simp)
          clear hz
          have hbr := HZA.out.getBlk
          have hzz := setRow_heap wG nr _ #[.int .i64 view, .slice bA j bC, .slice sA sK sC, .int .i64 kv, .int .i64 kb, .slice yA yK yC] _ _ hbr
          have HZB := Lib.hid (HZA.out.store ((Chg.refl (· = nr) wG).row #[.int .i64 view, .slice bA j bC, .slice sA sK sC, .int .i64 kv, .int .i64 kb, .slice yA yK yC]) hzz)
          go_wp2_with (first | refine wpList_load_row rfl 30 _ rfl nt rfl _ _ _ _ hbt Try.underlying30 rfl size6 ?_ | refine wpList_store_row rfl 30 _ _ rfl nr #[.int .i64 view, .slice bA j bC, .slice sA sK sC, .int .i64 kv, .int .i64 kb, .slice yA yK yC] rfl rfl _ _ hbr size6 rfl (by simp [Value.oneCell']) ?_)
          (try simp only [Exit.inBlock, Exit.then])
          refine bodyPost_ret (results_cell_tmp (cs := #[.int .i64 view, .slice bA j bC, .slice sA sK sC, .int .i64 kv, .int .i64 kb, .slice yA yK yC]) rfl _ _ nr _ _ _ rfl hzz Try.underlying30 rfl size6) rfl ?_
          have hjk : ks.length = j := by have h := HNK.out; omega
          have hE : YesOut m l p q d X c V (aset O view (outL ((alook O view).getD []) who qx)) view (outL ((alook O view).getD []) who qx) = YesOut m l p q d X c V (aset O view (iKv I1)) view (iKv I1) := by rw [HL1.out]
          rw [hE]
          refine ⟨.slice bA j bC, .slice sA sK sC, .slice yA yK yC, ⟨view, ks, ks.map (viewOf (iKv I1)), kv, kb, kby⟩, rfl, rfl, ?_, rfl, ?_, ?_, X1, HE.out, ?_⟩
          · show ks = _
            rw [HKS.out]; simp [iKv, List.map_map, Function.comp_def]
          · show maxI (ks.map _) = kv
            rw [← HIX.out, List.take_of_length_le (by simp; omega)]
          · exact ⟨iw, HIW.out, HIK.out⟩
          · show Sys _ _ (own 3 1 _ kby.length _ :: own 3 1 _ ks.length _ :: own 3 1 _ (ks.map (viewOf (iKv I1))).length _ :: _)
            have hzB := HZB.out
            rw [List.take_of_length_le (by omega), List.take_of_length_le (by simp; omega)] at hzB
            rw [List.length_map, hjk]
            exact (Sys.close (vb, ob) (sub_six (hzB.perm (perm_w _ _ _ _ _ _ _ _ _ _ _ _)))).perm (perm_v _ _ _ _ _)
    | some qs =>
      have HSI := Lib.hid hi
      clear hi
      exact absurd HCS.out (by rw [HV0.out]; simp [HSI.out])
end
end Go.Proofs.Ytcfhkpjheemkgaa
