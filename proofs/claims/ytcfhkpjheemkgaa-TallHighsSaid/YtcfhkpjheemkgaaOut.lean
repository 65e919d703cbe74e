/-
  tall.Out.
-/
import Derived.Test.YtcfhkpjheemkgaaOuts
import Derived.Test.YtcfhkpjheemkgaaSortedB
import Derived.Test.YtcfhkpjheemkgaaClone
namespace Go.Proofs.Ytcfhkpjheemkgaa
set_option linter.unusedSectionVars false
set_option linter.unnecessarySimpa false
set_option linter.unusedSimpArgs false
set_option linter.unusedVariables false
open Go.RowKit Go.MapKept

theorem size6 : (Try.prog.info? 30).map (·.size) = some 6 := by kernel_rfl
theorem zeroMapB (w : World) : (zeroValue 153).run Try.prog w = .ok (.map none) w := by kernel_rfl
theorem zeroQC (w : World) : (zeroValue 28).run Try.prog w = .ok (.agg #[.int .i64 0, .int .i64 0, .slice none 0 0]) w := by kernel_rfl
theorem Sys.drop_left {w : World} {m : Nat → Thing} {a l : List Thing} (h : Sys w m (a ++ l)) : Sys w m l := by
  induction a with
  | nil => exact h
  | cons t a ih => exact ih h.tail
theorem sub_out {w : World} {m : Nat → Thing} {n mi mo h qb r v : Thing} {Is R l : List Thing} (hs : Sys w m (n :: mi :: (Is ++ (mo :: (R ++ (h :: qb :: r :: v :: l)))))) : Sys w m l :=
  Sys.drop_left (a := n :: mi :: (Is ++ (mo :: (R ++ [h, qb, r, v])))) (by simpa using hs)
/-- One more who gave up, if it is a new one. -/
def outL (L : List (Int × QcX)) (who : Int) (q : QcX) : List (Int × QcX) := match alook L who with
  | some _ => L
  | none => L ++ [(who, q)]
theorem perm_n (qb o n mi mo h r v : Thing) (Is R l : List Thing) : (qb :: o :: n :: (mi :: (Is ++ (mo :: (R ++ (h :: r :: v :: l)))))).Perm (mi :: (Is ++ (o :: mo :: (R ++ (n :: h :: qb :: r :: v :: l))))) := by
  have h1 := (to_front (a := o) (mi :: Is) (mo :: (R ++ (n :: h :: qb :: r :: v :: l)))).symm
  have h2 := (to_front (a := n) (mi :: (Is ++ (mo :: R))) (h :: qb :: r :: v :: l)).symm
  have h3 := (to_front (a := qb) (mi :: (Is ++ (mo :: (R ++ [h])))) (r :: v :: l)).symm
  refine List.Perm.trans ?_ (by simpa using h1)
  refine List.Perm.trans ?_ (List.Perm.cons o (by simpa using h2))
  refine List.Perm.trans (List.Perm.swap _ _ _) (List.Perm.cons o ?_)
  refine List.Perm.trans (List.Perm.swap _ _ _) (List.Perm.cons n ?_)
  simpa using h3
theorem perm_i (n mi mo h qb r v : Thing) (Is R l : List Thing) : (n :: (mi :: (Is ++ (mo :: (R ++ (h :: qb :: r :: v :: l)))))).Perm (mi :: (Is ++ (mo :: (R ++ (n :: h :: qb :: r :: v :: l))))) := by
  have h1 := (to_front (a := n) (mi :: (Is ++ (mo :: R))) (h :: qb :: r :: v :: l)).symm
  simpa using h1
theorem perm_r (mi mo n h qb r v : Thing) (Is R l : List Thing) : (mi :: (Is ++ (mo :: (R ++ (n :: h :: qb :: r :: v :: l))))).Perm (r :: (mi :: (Is ++ (mo :: (R ++ (n :: h :: qb :: v :: l)))))) := by
  have h1 := (to_front (a := r) (mi :: (Is ++ (mo :: (R ++ [n, h, qb])))) (v :: l))
  simpa using h1
theorem perm_z (o n h qb v : Thing) (l : List Thing) : (o :: n :: h :: qb :: v :: l).Perm (n :: qb :: h :: v :: o :: l) := by
  have h1 := (to_front (a := o) [n, qb, h, v] l).symm
  refine List.Perm.trans (List.Perm.cons o (List.Perm.cons n (List.Perm.swap _ _ _))) ?_
  simpa using h1
theorem sub_two {w : World} {m : Nat → Thing} {a b : Thing} {l : List Thing} (h : Sys w m (a :: b :: l)) : Sys w m l := h.tail.tail
/-- The view of one's highest. -/
def viewOf (L : List (Int × QcX)) (x : Int) : Int := ((alook L x).map (·.view)).getD 0
def HiOk (I : List OutI) (ks : List Int) (j : Nat) (hv hb : Int) (v : Value) : Prop := (j = 0 ∧ hv = 0 ∧ hb = 0 ∧ v = .slice none 0 0) ∨
  (0 < j ∧ ∃ i, i ∈ I ∧ i.who ∈ ks ∧ alook (iKv I) i.who = some i.q ∧ i.q.view = hv ∧ i.q.block = hb ∧ i.v = v ∧ maxI ((ks.map (viewOf (iKv I))).take j) = hv)
theorem own_ints_at {w : World} {a : Option Addr} {k c n : Nat} {l : List Int} (h : Own 3 1 w (.slice a k c) n (l.map (Value.int .i64))) (_ : n = n) : IntsAt w a l := by
  obtain ⟨a', cap, e, hc, hm, hl, ha⟩ := h.open
  cases e
  rw [List.length_map] at hl
  rcases ha with ⟨_, h0, _⟩ | ⟨g, cs, rfl, hg, _, ht⟩
  · exact .inl (List.length_eq_zero_iff.1 (by omega))
  · refine .inr ⟨g, 0, rfl, fun i hi => ?_⟩
    rw [Nat.zero_add]
    exact own_cell hg ht (by omega) (by simp [hi, List.getD])
theorem field_qc (a b c : Value) (w : World) : (Instr.field 28 (.agg #[a, b, c]) 0).run Try.prog w = .ok a w := by kernel_rfl
theorem perm_c (r qb h v o : Thing) (l : List Thing) : (r :: qb :: h :: v :: o :: l).Perm (h :: r :: qb :: v :: o :: l) := to_front (a := h) [r, qb] (v :: o :: l)
theorem perm_d (h r qb v o : Thing) (l : List Thing) : (h :: r :: qb :: v :: o :: l).Perm (o :: h :: qb :: r :: v :: l) :=
  (to_front (a := o) [h, r, qb, v] l).trans (List.Perm.cons _ (List.Perm.cons _ (List.Perm.swap _ _ _)))
theorem perm_q (o n mi mo h qb r v : Thing) (Is R l : List Thing) : (o :: n :: (mi :: (Is ++ (mo :: (R ++ (h :: qb :: r :: v :: l)))))).Perm (qb :: o :: n :: (mi :: (Is ++ (mo :: (R ++ (h :: r :: v :: l)))))) := by
  have := to_front (a := qb) (o :: n :: mi :: (Is ++ (mo :: (R ++ [h])))) (r :: v :: l)
  simpa using this
section
variable {w w' : World} {m : Nat → Thing} {l : List Thing} {p q : Nat} {d : Wd} {X : WX} {V : List ((Int × Int) × List Int)} {O : List (Int × List (Int × QcX))}
def YesOut (m : Nat → Thing) (l : List Thing) (p q : Nat) (d : Wd) (X : WX) (c : CfgX) (V : List ((Int × Int) × List Int)) (O : List (Int × List (Int × QcX))) (view : Int) (L : List (Int × QcX)) (e : Ending) (w' : World) : Prop :=
  ∃ va vh vc, ∃ t : TcX, e = .returned (.tuple #[.agg #[.int .i64 view, va, vh, .int .i64 t.hv, .int .i64 t.hb, vc], .bool true]) ∧ t.view = view ∧ t.by_ = rising (L.map (·.1)) ∧ t.highs = t.by_.map (viewOf L) ∧ maxI t.highs = t.hv ∧ (∃ x ∈ t.by_, alook L x = some ⟨t.hv, t.hb, t.hby⟩) ∧ ∃ X', X.Ext 2 X' ∧
    Sys w' (upd m 0 (worldT p d X')) (own 3 1 vc t.hby.length (t.hby.map (Value.int .i64)) :: own 3 1 va t.by_.length (t.by_.map (Value.int .i64)) :: own 3 1 vh t.highs.length (t.highs.map (Value.int .i64)) :: tallyT q p c V O :: l)
def NoOut (m : Nat → Thing) (l : List Thing) (p q : Nat) (d : Wd) (X : WX) (c : CfgX) (V : List ((Int × Int) × List Int)) (O : List (Int × List (Int × QcX))) (e : Ending) (w' : World) : Prop :=
  e = .returned (.tuple #[.agg #[.int .i64 0, .slice none 0 0, .slice none 0 0, .int .i64 0, .int .i64 0, .slice none 0 0], .bool false]) ∧ ∃ X', X.Ext 2 X' ∧ Sys w' (upd m 0 (worldT p d X')) (tallyT q p c V O :: l)
set_option maxRecDepth 100000 in
set_option maxHeartbeats 4000000 in
theorem tally_out_few (c : CfgX) (hg : c.Good) (who view : Int) (qx : QcX) (ga : Option Addr) (gc g : Nat) (hgn : qx.by_.length = g) (hgl : g ≤ 10000) (hga : ga = none → g = 0) (hGI : Cap l (fun x => IntsAt x ga qx.by_)) (h : Sys w m (tallyT q p c V O :: l)) (hw : m 0 = worldT p d X) (hX : X.Ok) (hr : rootB ∈ X.T) (hT : X.T.length ≤ 900000000) (hco : countsB X c who view qx = true) (hq0 : ((outL ((alook O view).getD []) who qx).length : Int) < 2 * c.f + 1) :
    Calls Try.prog 44 #[.pointer (some ⟨q, 0, none⟩), .int .i64 who, .int .i64 view, .agg #[.int .i64 qx.view, .int .i64 qx.block, .slice ga g gc]] w (NoOut m l p q d X c V (aset O view (outL ((alook O view).getD []) who qx))) := by
  obtain ⟨⟨vb, ob⟩, h⟩ := h.open
  replace h : Sys w m (blk q (.cells #[.pointer (some ⟨p, 0, none⟩), .int .i64 c.f, .int .i64 c.n, .int .i64 c.cl, .int .i64 c.ba, .int .i64 c.mo, .int .i64 c.bt, .int .i64 c.po, .int .i64 c.wi, .map (some vb), .map (some ob)] 143 (0, 0)) :: votesT vb V :: outsT ob O :: l) := h
  have HG := Lib.hid hg
  have HGI := Lib.hid hGI
  have HX := Lib.hid hX
  have HRT := Lib.hid hr
  have HTL := Lib.hid hT
  have HGN := Lib.hid hgn
  have HGL := Lib.hid hgl
  have HGA := Lib.hid hga
  have HQ0 := Lib.hid hq0
  have HWW : Hid ((Lit.int .i64 who).wf = true) := by
    have hr : repB c who = true := by
      cases e : repB c who with
      | true => rfl
      | false => unfold countsB at hco; rw [e] at hco; cases hco
    unfold repB at hr
    simp only [decide_eq_true_eq] at hr
    obtain ⟨g0, g1, g2⟩ := hg
    exact wf_mk (by omega) (by omega)
  obtain ⟨nq, hnq⟩ : ∃ n, n = w.heap.size := ⟨_, rfl⟩
  obtain ⟨xq, hxq⟩ : ∃ y, y = w.alloc (.cells #[.int .i64 qx.view, .int .i64 qx.block, .slice ga g gc] 28 (0, 0)) := ⟨_, rfl⟩
  have hbq := h.alloc (.cells #[.int .i64 qx.view, .int .i64 qx.block, .slice ga g gc] 28 (0, 0)) hnq
  rw [← hxq] at hbq
  have EXq : Hid (w.alloc (.cells #[.int .i64 qx.view, .int .i64 qx.block, .slice ga g gc] 28 (0, 0)) = xq) := hxq.symm
  have ENq : Hid (w.heap.size = nq) := by show _ = _; rw [hnq]
  obtain ⟨nr, hnr⟩ : ∃ n, n = xq.heap.size := ⟨_, rfl⟩
  obtain ⟨xr, hxr⟩ : ∃ y, y = xq.alloc (.cells #[.int .i64 0, .slice none 0 0, .slice none 0 0, .int .i64 0, .int .i64 0, .slice none 0 0] 30 (0, 0)) := ⟨_, rfl⟩
  have hbr := hbq.alloc (.cells #[.int .i64 0, .slice none 0 0, .slice none 0 0, .int .i64 0, .int .i64 0, .slice none 0 0] 30 (0, 0)) hnr
  rw [← hxr] at hbr
  have EXr : Hid (xq.alloc (.cells #[.int .i64 0, .slice none 0 0, .slice none 0 0, .int .i64 0, .int .i64 0, .slice none 0 0] 30 (0, 0)) = xr) := hxr.symm
  have ENr : Hid (w.heap.size + 1 = nr) := by show _ = _; rw [hnr, hxq]; simp
  have H0 := Lib.hid hbr
  clear h hbq hxq hnq hbr hxr hnr
  clear hg hGI hX hr hT hgn hgl hga hq0
  have hbq := H0.out.tail.getBlk
  have HC1 := Lib.hid (tally_counts c HG.out who view qx ga gc g HGN.out (by have := HGL.out; omega) HGI.out.push.push.push.push.push (H0.out.perm (perm_c _ _ _ _ _ _)) hw HX.out HRT.out HTL.out)
  rw [hco] at HC1
  clear hco
  go_enter Try.func44, Try.ntmps44
  go_upto_region 1 with fail
  rw [EXq.out, EXr.out, ENr.out, ENq.out]
  go_wp2_with (refine wpList_load_row rfl 28 _ rfl nq rfl _ _ _ _ hbq Try.underlying28 rfl size3 ?_)
  refine HC1.out.mono ?_
  rintro e w2 ⟨rfl, X1, HEX, h2⟩
  have HE := Lib.hid HEX
  have H3 := Lib.hid (h2.perm (perm_d _ _ _ _ _ _))
  clear h2 HEX hbq HC1
  go_upto_region 3 with fail
  cases hk : alook O view with
  | none =>
    obtain ⟨mm, R, hkm, hvn, hcl⟩ := outs_none H3.out hk
    have ch : w2.cell? ⟨q, 10, none⟩ = some (.map (some ob)) := cell_of_blk (Sys.memBlk (n := q) (o := .cells #[.pointer (some ⟨p, 0, none⟩), .int .i64 c.f, .int .i64 c.n, .int .i64 c.cl, .int .i64 c.ba, .int .i64 c.mo, .int .i64 c.bt, .int .i64 c.po, .int .i64 c.wi, .map (some vb), .map (some ob)] 143 (0, 0)) hvn (by simp)) 10
    have e3 := hvn.getMap.lookup (P := Try.prog) Try.underlying141 Try.underlying3 (zeroMapB w2) view false
    rw [hkm] at e3
    simp only [Bool.false_eq_true, if_false, intKey, Option.getD] at e3
    have qT := fun (w : World) (r : Option Nat) => run_eql_map_nil (P := Try.prog) w 153 3 28 r Try.underlying153
    have hmm := @run_makeMap Try.prog
    obtain ⟨b, hb⟩ : ∃ b, w2.heap.size = b := ⟨_, rfl⟩
    have hsa := hvn.push (t := mapT intKey b []) ((Chg.refl _ _).alloc (.map #[] 0)) (F := (· = b)) ⟨MapOf.made _ _ hb.symm, rfl⟩ (fun k e => by have e : k = _ := e; omega)
    have ch2 : (w2.alloc (.map #[] 0)).cell? ⟨q, 10, none⟩ = some (.map (some ob)) := cell_of_blk (Sys.memBlk (n := q) (o := .cells #[.pointer (some ⟨p, 0, none⟩), .int .i64 c.f, .int .i64 c.n, .int .i64 c.cl, .int .i64 c.ba, .int .i64 c.mo, .int .i64 c.bt, .int .i64 c.po, .int .i64 c.wi, .map (some vb), .map (some ob)] 143 (0, 0)) hsa (by simp)) 10
    obtain ⟨w5, hu, hmu, hcu, -⟩ := hsa.swap.getMap.update (P := Try.prog) Try.underlying141 Try.underlying3 view (.map (some b))
    simp only [intKey] at hu
    have hs5 := (hsa.swap.mapTo hmu hcu).swap
    obtain ⟨mq, hmq⟩ : ∃ y, y = aset mm view (.map (some b)) := ⟨_, rfl⟩
    rw [← hmq] at hs5
    have hkq : alook mq view = some (.map (some b)) := by rw [hmq, alook_aset, if_pos rfl]
    have ch5 : w5.cell? ⟨q, 10, none⟩ = some (.map (some ob)) := cell_of_blk (Sys.memBlk (n := q) (o := .cells #[.pointer (some ⟨p, 0, none⟩), .int .i64 c.f, .int .i64 c.n, .int .i64 c.cl, .int .i64 c.ba, .int .i64 c.mo, .int .i64 c.bt, .int .i64 c.po, .int .i64 c.wi, .map (some vb), .map (some ob)] 143 (0, 0)) hs5 (by simp)) 10
    have e5 := hs5.swap.getMap.lookup (P := Try.prog) Try.underlying141 Try.underlying3 (zeroMapB w5) view false
    rw [hkq] at e5
    simp only [Bool.false_eq_true, if_false, intKey, Option.getD] at e5
    have HCL : Hid (∀ w' m' l' I', AllWf (I'.map (·.who)) → Sys w' m' (mapT intKey b (iMap I') :: (I'.map OutI.row ++ (mapT intKey ob mq :: (R ++ l')))) → Sys w' m' (outsT ob (aset O view (iKv I')) :: l')) := fun w' m' l' I' h1 h2 => hcl w' m' l' b I' h1 (by rw [← hmq]; exact h2)
    obtain ⟨I, hI0⟩ : ∃ I : List OutI, I = [] := ⟨_, rfl⟩
    have HV0 : Hid ((alook O view).getD [] = iKv I) := by show _ = _; rw [hk, hI0]; rfl
    have HS5 : Hid (Sys w5 (upd m 0 (worldT p d X1)) (mapT intKey b (iMap I) :: (I.map OutI.row ++ (mapT intKey ob mq :: (R ++ (blk q (.cells #[.pointer (some ⟨p, 0, none⟩), .int .i64 c.f, .int .i64 c.n, .int .i64 c.cl, .int .i64 c.ba, .int .i64 c.mo, .int .i64 c.bt, .int .i64 c.po, .int .i64 c.wi, .map (some vb), .map (some ob)] 143 (0, 0)) :: blk nq (.cells #[.int .i64 qx.view, .int .i64 qx.block, .slice ga g gc] 28 (0, 0)) :: blk nr (.cells #[.int .i64 0, .slice none 0 0, .slice none 0 0, .int .i64 0, .int .i64 0, .slice none 0 0] 30 (0, 0)) :: votesT vb V :: l)))))) := by show Sys _ _ _; rw [hI0]; exact hs5
    have HWI : Hid (AllWf (I.map (·.who))) := by rw [hI0]; intro a ha; cases ha
    have HNI : Hid (alook (iKv I) who = none) := by rw [hI0]; rfl
    clear hI0
    clear hkm hvn hcl hsa hmu hcu hs5 hmq hkq
    go_upto_region 6 with fail
    clear e3 qT hmm hb ch ch2 hu ch5 e5
    have e6 := HS5.out.getMap.lookup (P := Try.prog) Try.underlying153 Try.underlying3 (zeroQC w5) who true
    have hni : alook (iMap I) who = none := by
      have h := HNI.out
      rw [alook_none] at h ⊢
      simpa [iMap, iKv, List.map_map, Function.comp_def] using h
    rw [hni] at e6
    simp only [if_true, intKey, Option.getD, Option.isSome] at e6
    obtain ⟨nv, hnv⟩ : ∃ n, w5.heap.size = n := ⟨_, rfl⟩
    obtain ⟨w7, hw7⟩ : ∃ y, w5.alloc (.cells #[.int .i64 0, .int .i64 0, .slice none 0 0] 28 (0, 0)) = y := ⟨_, rfl⟩
    have hs7 := HS5.out.alloc (.cells #[.int .i64 0, .int .i64 0, .slice none 0 0] 28 (0, 0)) hnv.symm
    rw [hw7] at hs7
    have H7 := Lib.hid hs7
    have HW7 := Lib.hid hw7
    have HNV := Lib.hid hnv
    clear hw7 hnv hs7
    go_upto_region 7 with fail
    rw [HW7.out, HNV.out]
    have hs7 := H7.out
    have cq : w7.cell? ⟨nq, 2, none⟩ = some (.slice ga g gc) := cell_of_blk (Sys.memBlk (n := nq) (o := .cells #[.int .i64 qx.view, .int .i64 qx.block, .slice ga g gc] 28 (0, 0)) hs7 (by simp)) 2
    have HCN := Lib.hid (clone_ints_at ga gc g qx.by_ w7 (HGI.out w7 _ (sub_out hs7)) HGN.out HGA.out (by have := HGL.out; omega))
    clear hs7 hni e6
    go_wp2_with fail
    refine HCN.out.mono ?_
    rintro e w8 ⟨v8, rfl, ho8, hn8, hB8⟩
    obtain ⟨va, vk, vc, rfl, HVK⟩ := ho8.slice
    have h8 := H7.out.pushOwn hB8 ho8 hn8
    have hbq := Sys.memBlk (n := nq) (o := .cells #[.int .i64 qx.view, .int .i64 qx.block, .slice ga g gc] 28 (0, 0)) h8 (by simp)
    have cq8 : w8.cell? ⟨nq, 2, none⟩ = some (.slice ga g gc) := cell_of_blk hbq 2
    have fq8 := frozen_of_blk hbq 2
    have h8p := h8.perm (l' := blk nq (.cells #[.int .i64 qx.view, .int .i64 qx.block, .slice ga g gc] 28 (0, 0)) :: own 3 1 (.slice va vk vc) g (qx.by_.map (Value.int .i64)) :: blk nv (.cells #[.int .i64 0, .int .i64 0, .slice none 0 0] 28 (0, 0)) :: (mapT intKey b (iMap I) :: (I.map OutI.row ++ (mapT intKey ob mq :: (R ++ (blk q (.cells #[.pointer (some ⟨p, 0, none⟩), .int .i64 c.f, .int .i64 c.n, .int .i64 c.cl, .int .i64 c.ba, .int .i64 c.mo, .int .i64 c.bt, .int .i64 c.po, .int .i64 c.wi, .map (some vb), .map (some ob)] 143 (0, 0)) :: blk nr (.cells #[.int .i64 0, .slice none 0 0, .slice none 0 0, .int .i64 0, .int .i64 0, .slice none 0 0] 30 (0, 0)) :: votesT vb V :: l)))))) (perm_q _ _ _ _ _ _ _ _ _ _ _)
    have h9 := h8p.setCell (i := 2) (.slice va vk vc)
    obtain ⟨w9, hw9⟩ : ∃ y, y = w8.setCell ⟨nq, 2, none⟩ (.slice va vk vc) := ⟨_, rfl⟩
    rw [← hw9] at h9
    have HW9 := Lib.hid hw9
    have H9 : Hid (Sys w9 (upd m 0 (worldT p d X1)) (blk nq (.cells #[.int .i64 qx.view, .int .i64 qx.block, .slice va vk vc] 28 (0, 0)) :: own 3 1 (.slice va vk vc) g (qx.by_.map (Value.int .i64)) :: blk nv (.cells #[.int .i64 0, .int .i64 0, .slice none 0 0] 28 (0, 0)) :: (mapT intKey b (iMap I) :: (I.map OutI.row ++ (mapT intKey ob mq :: (R ++ (blk q (.cells #[.pointer (some ⟨p, 0, none⟩), .int .i64 c.f, .int .i64 c.n, .int .i64 c.cl, .int .i64 c.ba, .int .i64 c.mo, .int .i64 c.bt, .int .i64 c.po, .int .i64 c.wi, .map (some vb), .map (some ob)] 143 (0, 0)) :: blk nr (.cells #[.int .i64 0, .slice none 0 0, .slice none 0 0, .int .i64 0, .int .i64 0, .slice none 0 0] 30 (0, 0)) :: votesT vb V :: l))))))) := h9
    clear ho8 hn8 hB8 h8 h8p h9 hbq hw9 HCN H7 cq
    go_upto_region 9 with fail
    rw [← HW9.out]
    have hp9 := H9.out.perm (l' := mapT intKey b (iMap I) :: (I.map OutI.row ++ (own 3 1 (.slice va vk vc) g (qx.by_.map (Value.int .i64)) :: mapT intKey ob mq :: (R ++ (blk nv (.cells #[.int .i64 0, .int .i64 0, .slice none 0 0] 28 (0, 0)) :: blk q (.cells #[.pointer (some ⟨p, 0, none⟩), .int .i64 c.f, .int .i64 c.n, .int .i64 c.cl, .int .i64 c.ba, .int .i64 c.mo, .int .i64 c.bt, .int .i64 c.po, .int .i64 c.wi, .map (some vb), .map (some ob)] 143 (0, 0)) :: blk nq (.cells #[.int .i64 qx.view, .int .i64 qx.block, .slice va vk vc] 28 (0, 0)) :: blk nr (.cells #[.int .i64 0, .slice none 0 0, .slice none 0 0, .int .i64 0, .int .i64 0, .slice none 0 0] 30 (0, 0)) :: votesT vb V :: l))))) (perm_n _ _ _ _ _ _ _ _ _ _ _)
    have hbq9 := H9.out.getBlk
    have hni : alook (iMap I) who = none := by
      have h := HNI.out
      rw [alook_none] at h ⊢
      simpa [iMap, iKv, List.map_map, Function.comp_def] using h
    obtain ⟨wA, hu, hmu, hcu, -⟩ := hp9.getMap.update (P := Try.prog) Try.underlying153 Try.underlying3 who (.agg #[.int .i64 qx.view, .int .i64 qx.block, .slice va vk vc])
    rw [aset_none hni] at hmu
    simp only [intKey] at hu
    have hA := hp9.mapTo hmu hcu
    obtain ⟨NVT, hNVT⟩ : ∃ t : Thing, t = blk nv (.cells #[.int .i64 0, .int .i64 0, .slice none 0 0] 28 (0, 0)) := ⟨_, rfl⟩
    obtain ⟨QT, hQT⟩ : ∃ t : Thing, t = blk nq (.cells #[.int .i64 qx.view, .int .i64 qx.block, .slice va vk vc] 28 (0, 0)) := ⟨_, rfl⟩
    obtain ⟨I1, hI1⟩ : ∃ I1 : List OutI, I1 = I ++ [⟨who, qx, .slice va vk vc⟩] := ⟨_, rfl⟩
    have HC0 : Hid (Sys wA (upd m 0 (worldT p d X1)) (mapT intKey b (iMap I1) :: (I1.map OutI.row ++ (mapT intKey ob mq :: (R ++ (NVT :: blk q (.cells #[.pointer (some ⟨p, 0, none⟩), .int .i64 c.f, .int .i64 c.n, .int .i64 c.cl, .int .i64 c.ba, .int .i64 c.mo, .int .i64 c.bt, .int .i64 c.po, .int .i64 c.wi, .map (some vb), .map (some ob)] 143 (0, 0)) :: QT :: blk nr (.cells #[.int .i64 0, .slice none 0 0, .slice none 0 0, .int .i64 0, .int .i64 0, .slice none 0 0] 30 (0, 0)) :: votesT vb V :: l)))))) := by
      show Sys _ _ _
      rw [hI1, hNVT, hQT]
      have e1 : iMap (I ++ [⟨who, qx, .slice va vk vc⟩]) = iMap I ++ [(who, .agg #[.int .i64 qx.view, .int .i64 qx.block, .slice va vk vc])] := by simp [iMap, OutI.cell]
      have e2 : (I ++ [(⟨who, qx, .slice va vk vc⟩ : OutI)]).map OutI.row = I.map OutI.row ++ [own 3 1 (.slice va vk vc) g (qx.by_.map (Value.int .i64))] := by simp [OutI.row, HGN.out]
      rw [e1, e2, List.append_assoc]
      exact hA
    have HL1 : Hid (iKv I1 = outL ((alook O view).getD []) who qx) := by
      show _ = _
      rw [HV0.out, hI1]
      unfold outL
      rw [HNI.out]
      simp [iKv]
    have HW1 : Hid (AllWf (I1.map (·.who))) := by
      show AllWf _
      rw [hI1]
      intro a ha
      rw [List.map_append] at ha
      rcases List.mem_append.1 ha with h | h
      · exact HWI.out a h
      · simp at h; rw [h]; exact HWW.out
    clear hp9 hni hmu hcu hA hNVT hQT hI1 HWI
    go_upto_region 10 with (refine wpList_load_row rfl 28 _ rfl nq rfl _ _ _ _ hbq9 Try.underlying28 rfl size3 ?_)
    clear hbq9 hu
    have hq10 : decide ((I1.length : Int) < 2 * c.f + 1) = true := by have h1 := HQ0.out; have h2 := congrArg List.length HL1.out; simp only [iKv, List.length_map] at h2; rw [← h2] at h1; simp; omega
    have hS1 := HC0.out.drew
    refine wp_region_stage (fun x : World => Sys x (upd m 0 (worldT p d X1)) (mapT intKey b (iMap I1) :: (I1.map OutI.row ++ (mapT intKey ob mq :: (R ++ (NVT :: blk q (.cells #[.pointer (some ⟨p, 0, none⟩), .int .i64 c.f, .int .i64 c.n, .int .i64 c.cl, .int .i64 c.ba, .int .i64 c.mo, .int .i64 c.bt, .int .i64 c.po, .int .i64 c.wi, .map (some vb), .map (some ob)] 143 (0, 0)) :: QT :: blk nr (.cells #[.int .i64 0, .slice none 0 0, .slice none 0 0, .int .i64 0, .int .i64 0, .slice none 0 0] 30 (0, 0)) :: votesT vb V :: l)))))) [] (by kernel_rfl) ?_
    refine takeW 0 (some 57) (v := ?_) rfl (by rfl) (by kernel_rfl) (by kernel_rfl) (by kernel_rfl) (fun _ _ _ h => h) (by kernel_rfl) (by kernel_rfl) ?_ (Stage.still (by assumption)) ?_
    rotate_left
    · (intro w; go_simp; try (with_reducible rfl))
    try simp only [Act.put, List.setIfInBounds_toArray, List.set_cons_zero, List.set_cons_succ]
    refine takeS 1 (some 58) (v := ?_) rfl (by rfl) (by kernel_rfl) (by kernel_rfl) (by kernel_rfl) (fun _ _ _ h => h) (by kernel_rfl) (by kernel_rfl) (by kernel_rfl) ?_ (by assumption) ?_
    rotate_left
    · (intro w hSw; have e := hSw.getMap.len (P := Try.prog) (ty := 3) Try.underlying153; rw [show (iMap I1).length = I1.length by simp [iMap]] at e; clear hSw; go_simp; try (with_reducible rfl))
    try simp only [Act.put, List.setIfInBounds_toArray, List.set_cons_zero, List.set_cons_succ]
    refine takeW 2 (some 59) (v := ?_) rfl (by rfl) (by kernel_rfl) (by kernel_rfl) (by kernel_rfl) (fun _ _ _ h => h) (by kernel_rfl) (by kernel_rfl) ?_ (Stage.still (by assumption)) ?_
    rotate_left
    · (intro w; go_simp; try (with_reducible rfl))
    try simp only [Act.put, List.setIfInBounds_toArray, List.set_cons_zero, List.set_cons_succ]
    refine takeW 3 (some 60) (v := ?_) rfl (by rfl) (by kernel_rfl) (by kernel_rfl) (by kernel_rfl) (fun _ _ _ h => h) (by kernel_rfl) (by kernel_rfl) ?_ (Stage.still (by assumption)) ?_
    rotate_left
    · (intro w; go_simp; try (with_reducible rfl))
    try simp only [Act.put, List.setIfInBounds_toArray, List.set_cons_zero, List.set_cons_succ]
    refine takeW 4 (some 61) (v := ?_) rfl (by rfl) (by kernel_rfl) (by kernel_rfl) (by kernel_rfl) (fun _ _ _ h => h) (by kernel_rfl) (by kernel_rfl) ?_ (Stage.still (by assumption)) ?_
    rotate_left
    · (intro w; go_simp; try (with_reducible rfl))
    try simp only [Act.put, List.setIfInBounds_toArray, List.set_cons_zero, List.set_cons_succ]
    refine takeS 5 (some 62) (v := ?_) rfl (by rfl) (by kernel_rfl) (by kernel_rfl) (by kernel_rfl) (fun _ _ _ h => h) (by kernel_rfl) (by kernel_rfl) (by kernel_rfl) ?_ (by assumption) ?_
    rotate_left
    · (intro w hSw; have hb := Sys.memBlk (n := q) (o := .cells #[.pointer (some ⟨p, 0, none⟩), .int .i64 c.f, .int .i64 c.n, .int .i64 c.cl, .int .i64 c.ba, .int .i64 c.mo, .int .i64 c.bt, .int .i64 c.po, .int .i64 c.wi, .map (some vb), .map (some ob)] 143 (0, 0)) hSw (by simp); have c0 : w.cell? ⟨q, 1, none⟩ = some (.int .i64 c.f) := cell_of_blk hb 1; have c1 : w.cell? ⟨q, 2, none⟩ = some (.int .i64 c.n) := cell_of_blk hb 2; have c2 : w.cell? ⟨q, 3, none⟩ = some (.int .i64 c.cl) := cell_of_blk hb 3; have c3 : w.cell? ⟨q, 4, none⟩ = some (.int .i64 c.ba) := cell_of_blk hb 4; have c4 : w.cell? ⟨q, 5, none⟩ = some (.int .i64 c.mo) := cell_of_blk hb 5; have c5 : w.cell? ⟨q, 6, none⟩ = some (.int .i64 c.bt) := cell_of_blk hb 6; have c6 : w.cell? ⟨q, 7, none⟩ = some (.int .i64 c.po) := cell_of_blk hb 7; have c7 : w.cell? ⟨q, 8, none⟩ = some (.int .i64 c.wi) := cell_of_blk hb 8; clear hSw hb; go_simp; try (with_reducible rfl))
    try simp only [Act.put, List.setIfInBounds_toArray, List.set_cons_zero, List.set_cons_succ]
    refine oneT 6 (by kernel_rfl) rfl (fun K hK => ?_)
    go_simp
    go_at_call 48
    refine (cert_quorum c HG.out hS1).mono ?_
    rintro e wB ⟨rfl, hB⟩
    have hS1 := hB
    clear hB
    go_wp2_with fail
    refine hK.out _ _ (Stage.still ?_) (fun hSt => ?_)
    · (try dsimp only); exact hS1
    clear hK K hSt
    try simp only [Act.put, List.setIfInBounds_toArray, List.set_cons_zero, List.set_cons_succ]
    refine takeW 7 (some 64) (v := ?_) rfl (by rfl) (by kernel_rfl) (by kernel_rfl) (by kernel_rfl) (fun _ _ _ h => h) (by kernel_rfl) (by kernel_rfl) ?_ (Stage.still (by assumption)) ?_
    rotate_left
    · (intro w; go_simp; try (with_reducible rfl))
    try simp only [Act.put, List.setIfInBounds_toArray, List.set_cons_zero, List.set_cons_succ]
    refine doneT (by kernel_rfl) ?_ _
    have HSR := Lib.hid (hS1.perm (perm_r _ _ _ _ _ _ _ _ _ _))
    clear hS1 HC0
    have hbr : wB.heap[nr]? = _ := HSR.out.getBlk
    have hzz := setRow_heap wB nr _ #[.int .i64 0, .slice none 0 0, .slice none 0 0, .int .i64 0, .int .i64 0, .slice none 0 0] _ _ hbr
    have HF := Lib.hid (HSR.out.store ((Chg.refl (· = nr) wB).row #[.int .i64 0, .slice none 0 0, .slice none 0 0, .int .i64 0, .int .i64 0, .slice none 0 0]) hzz)
    go_wp2_with (refine wpList_store_row rfl 30 _ _ rfl nr #[.int .i64 0, .slice none 0 0, .slice none 0 0, .int .i64 0, .int .i64 0, .slice none 0 0] rfl rfl _ _ hbr size6 rfl (by simp [Value.oneCell']) ?_)
    (try simp only [Exit.inBlock, Exit.then])
    refine bodyPost_ret (results_cell_tmp (cs := #[.int .i64 0, .slice none 0 0, .slice none 0 0, .int .i64 0, .int .i64 0, .slice none 0 0]) rfl _ _ nr _ _ _ rfl hzz Try.underlying30 rfl size6) rfl ?_
    have h9 := HCL.out _ _ (NVT :: blk q (.cells #[.pointer (some ⟨p, 0, none⟩), .int .i64 c.f, .int .i64 c.n, .int .i64 c.cl, .int .i64 c.ba, .int .i64 c.mo, .int .i64 c.bt, .int .i64 c.po, .int .i64 c.wi, .map (some vb), .map (some ob)] 143 (0, 0)) :: QT :: votesT vb V :: l) I1 HW1.out HF.out.tail
    rw [HL1.out] at h9
    exact ⟨rfl, X1, HE.out, Sys.close (vb, ob) (sub_two (h9.perm (perm_z _ _ _ _ _ _)))⟩
  | some L0 =>
    obtain ⟨b, I, mq, R, hkm, hLI, hwi, hst, hcl⟩ := outs_focus H3.out hk
    have hmo := Sys.memMap (K := intKey) (b := ob) (x := mq) hst (by simp)
    have ch : w2.cell? ⟨q, 10, none⟩ = some (.map (some ob)) := cell_of_blk (Sys.memBlk (n := q) (o := .cells #[.pointer (some ⟨p, 0, none⟩), .int .i64 c.f, .int .i64 c.n, .int .i64 c.cl, .int .i64 c.ba, .int .i64 c.mo, .int .i64 c.bt, .int .i64 c.po, .int .i64 c.wi, .map (some vb), .map (some ob)] 143 (0, 0)) hst (by simp)) 10
    have e3 := hmo.lookup (P := Try.prog) Try.underlying141 Try.underlying3 (zeroMapB w2) view false
    rw [hkm] at e3
    simp only [Bool.false_eq_true, if_false, intKey, Option.getD] at e3
    have qT := fun (w : World) (r : Option Nat) => run_eql_map_nil (P := Try.prog) w 153 3 28 r Try.underlying153
    have HCL := Lib.hid hcl
    have HV0 : Hid ((alook O view).getD [] = iKv I) := by show _ = _; rw [hk]; exact hLI
    have HS5 := Lib.hid hst
    have HWI := Lib.hid hwi
    clear hkm hLI hwi hst hcl hmo
    go_upto_region 6 with fail
    clear e3 qT ch
    obtain ⟨w5, hw5⟩ : ∃ y, y = w2 := ⟨_, rfl⟩
    rw [← hw5] at HS5 ⊢
    clear hw5
    cases hi : alook (iKv I) who with
    | none =>
      have HNI := Lib.hid hi
      clear hi
      have e6 := HS5.out.getMap.lookup (P := Try.prog) Try.underlying153 Try.underlying3 (zeroQC w5) who true
      have hni : alook (iMap I) who = none := by
        have h := HNI.out
        rw [alook_none] at h ⊢
        simpa [iMap, iKv, List.map_map, Function.comp_def] using h
      rw [hni] at e6
      simp only [if_true, intKey, Option.getD, Option.isSome] at e6
      obtain ⟨nv, hnv⟩ : ∃ n, w5.heap.size = n := ⟨_, rfl⟩
      obtain ⟨w7, hw7⟩ : ∃ y, w5.alloc (.cells #[.int .i64 0, .int .i64 0, .slice none 0 0] 28 (0, 0)) = y := ⟨_, rfl⟩
      have hs7 := HS5.out.alloc (.cells #[.int .i64 0, .int .i64 0, .slice none 0 0] 28 (0, 0)) hnv.symm
      rw [hw7] at hs7
      have H7 := Lib.hid hs7
      have HW7 := Lib.hid hw7
      have HNV := Lib.hid hnv
      clear hw7 hnv hs7
      go_upto_region 7 with fail
      rw [HW7.out, HNV.out]
      have hs7 := H7.out
      have cq : w7.cell? ⟨nq, 2, none⟩ = some (.slice ga g gc) := cell_of_blk (Sys.memBlk (n := nq) (o := .cells #[.int .i64 qx.view, .int .i64 qx.block, .slice ga g gc] 28 (0, 0)) hs7 (by simp)) 2
      have HCN := Lib.hid (clone_ints_at ga gc g qx.by_ w7 (HGI.out w7 _ (sub_out hs7)) HGN.out HGA.out (by have := HGL.out; omega))
      clear hs7 hni e6
      go_wp2_with fail
      refine HCN.out.mono ?_
      rintro e w8 ⟨v8, rfl, ho8, hn8, hB8⟩
      obtain ⟨va, vk, vc, rfl, HVK⟩ := ho8.slice
      have h8 := H7.out.pushOwn hB8 ho8 hn8
      have hbq := Sys.memBlk (n := nq) (o := .cells #[.int .i64 qx.view, .int .i64 qx.block, .slice ga g gc] 28 (0, 0)) h8 (by simp)
      have cq8 : w8.cell? ⟨nq, 2, none⟩ = some (.slice ga g gc) := cell_of_blk hbq 2
      have fq8 := frozen_of_blk hbq 2
      have h8p := h8.perm (l' := blk nq (.cells #[.int .i64 qx.view, .int .i64 qx.block, .slice ga g gc] 28 (0, 0)) :: own 3 1 (.slice va vk vc) g (qx.by_.map (Value.int .i64)) :: blk nv (.cells #[.int .i64 0, .int .i64 0, .slice none 0 0] 28 (0, 0)) :: (mapT intKey b (iMap I) :: (I.map OutI.row ++ (mapT intKey ob mq :: (R ++ (blk q (.cells #[.pointer (some ⟨p, 0, none⟩), .int .i64 c.f, .int .i64 c.n, .int .i64 c.cl, .int .i64 c.ba, .int .i64 c.mo, .int .i64 c.bt, .int .i64 c.po, .int .i64 c.wi, .map (some vb), .map (some ob)] 143 (0, 0)) :: blk nr (.cells #[.int .i64 0, .slice none 0 0, .slice none 0 0, .int .i64 0, .int .i64 0, .slice none 0 0] 30 (0, 0)) :: votesT vb V :: l)))))) (perm_q _ _ _ _ _ _ _ _ _ _ _)
      have h9 := h8p.setCell (i := 2) (.slice va vk vc)
      obtain ⟨w9, hw9⟩ : ∃ y, y = w8.setCell ⟨nq, 2, none⟩ (.slice va vk vc) := ⟨_, rfl⟩
      rw [← hw9] at h9
      have HW9 := Lib.hid hw9
      have H9 : Hid (Sys w9 (upd m 0 (worldT p d X1)) (blk nq (.cells #[.int .i64 qx.view, .int .i64 qx.block, .slice va vk vc] 28 (0, 0)) :: own 3 1 (.slice va vk vc) g (qx.by_.map (Value.int .i64)) :: blk nv (.cells #[.int .i64 0, .int .i64 0, .slice none 0 0] 28 (0, 0)) :: (mapT intKey b (iMap I) :: (I.map OutI.row ++ (mapT intKey ob mq :: (R ++ (blk q (.cells #[.pointer (some ⟨p, 0, none⟩), .int .i64 c.f, .int .i64 c.n, .int .i64 c.cl, .int .i64 c.ba, .int .i64 c.mo, .int .i64 c.bt, .int .i64 c.po, .int .i64 c.wi, .map (some vb), .map (some ob)] 143 (0, 0)) :: blk nr (.cells #[.int .i64 0, .slice none 0 0, .slice none 0 0, .int .i64 0, .int .i64 0, .slice none 0 0] 30 (0, 0)) :: votesT vb V :: l))))))) := h9
      clear ho8 hn8 hB8 h8 h8p h9 hbq hw9 HCN H7 cq
      go_upto_region 9 with fail
      rw [← HW9.out]
      have hp9 := H9.out.perm (l' := mapT intKey b (iMap I) :: (I.map OutI.row ++ (own 3 1 (.slice va vk vc) g (qx.by_.map (Value.int .i64)) :: mapT intKey ob mq :: (R ++ (blk nv (.cells #[.int .i64 0, .int .i64 0, .slice none 0 0] 28 (0, 0)) :: blk q (.cells #[.pointer (some ⟨p, 0, none⟩), .int .i64 c.f, .int .i64 c.n, .int .i64 c.cl, .int .i64 c.ba, .int .i64 c.mo, .int .i64 c.bt, .int .i64 c.po, .int .i64 c.wi, .map (some vb), .map (some ob)] 143 (0, 0)) :: blk nq (.cells #[.int .i64 qx.view, .int .i64 qx.block, .slice va vk vc] 28 (0, 0)) :: blk nr (.cells #[.int .i64 0, .slice none 0 0, .slice none 0 0, .int .i64 0, .int .i64 0, .slice none 0 0] 30 (0, 0)) :: votesT vb V :: l))))) (perm_n _ _ _ _ _ _ _ _ _ _ _)
      have hbq9 := H9.out.getBlk
      have hni : alook (iMap I) who = none := by
        have h := HNI.out
        rw [alook_none] at h ⊢
        simpa [iMap, iKv, List.map_map, Function.comp_def] using h
      obtain ⟨wA, hu, hmu, hcu, -⟩ := hp9.getMap.update (P := Try.prog) Try.underlying153 Try.underlying3 who (.agg #[.int .i64 qx.view, .int .i64 qx.block, .slice va vk vc])
      rw [aset_none hni] at hmu
      simp only [intKey] at hu
      have hA := hp9.mapTo hmu hcu
      obtain ⟨NVT, hNVT⟩ : ∃ t : Thing, t = blk nv (.cells #[.int .i64 0, .int .i64 0, .slice none 0 0] 28 (0, 0)) := ⟨_, rfl⟩
      obtain ⟨QT, hQT⟩ : ∃ t : Thing, t = blk nq (.cells #[.int .i64 qx.view, .int .i64 qx.block, .slice va vk vc] 28 (0, 0)) := ⟨_, rfl⟩
      obtain ⟨I1, hI1⟩ : ∃ I1 : List OutI, I1 = I ++ [⟨who, qx, .slice va vk vc⟩] := ⟨_, rfl⟩
      have HC0 : Hid (Sys wA (upd m 0 (worldT p d X1)) (mapT intKey b (iMap I1) :: (I1.map OutI.row ++ (mapT intKey ob mq :: (R ++ (NVT :: blk q (.cells #[.pointer (some ⟨p, 0, none⟩), .int .i64 c.f, .int .i64 c.n, .int .i64 c.cl, .int .i64 c.ba, .int .i64 c.mo, .int .i64 c.bt, .int .i64 c.po, .int .i64 c.wi, .map (some vb), .map (some ob)] 143 (0, 0)) :: QT :: blk nr (.cells #[.int .i64 0, .slice none 0 0, .slice none 0 0, .int .i64 0, .int .i64 0, .slice none 0 0] 30 (0, 0)) :: votesT vb V :: l)))))) := by
        show Sys _ _ _
        rw [hI1, hNVT, hQT]
        have e1 : iMap (I ++ [⟨who, qx, .slice va vk vc⟩]) = iMap I ++ [(who, .agg #[.int .i64 qx.view, .int .i64 qx.block, .slice va vk vc])] := by simp [iMap, OutI.cell]
        have e2 : (I ++ [(⟨who, qx, .slice va vk vc⟩ : OutI)]).map OutI.row = I.map OutI.row ++ [own 3 1 (.slice va vk vc) g (qx.by_.map (Value.int .i64))] := by simp [OutI.row, HGN.out]
        rw [e1, e2, List.append_assoc]
        exact hA
      have HL1 : Hid (iKv I1 = outL ((alook O view).getD []) who qx) := by
        show _ = _
        rw [HV0.out, hI1]
        unfold outL
        rw [HNI.out]
        simp [iKv]
      have HW1 : Hid (AllWf (I1.map (·.who))) := by
        show AllWf _
        rw [hI1]
        intro a ha
        rw [List.map_append] at ha
        rcases List.mem_append.1 ha with h | h
        · exact HWI.out a h
        · simp at h; rw [h]; exact HWW.out
      clear hp9 hni hmu hcu hA hNVT hQT hI1 HWI
      go_upto_region 10 with (refine wpList_load_row rfl 28 _ rfl nq rfl _ _ _ _ hbq9 Try.underlying28 rfl size3 ?_)
      clear hbq9 hu
      have hq10 : decide ((I1.length : Int) < 2 * c.f + 1) = true := by have h1 := HQ0.out; have h2 := congrArg List.length HL1.out; simp only [iKv, List.length_map] at h2; rw [← h2] at h1; simp; omega
      have hS1 := HC0.out.drew
      refine wp_region_stage (fun x : World => Sys x (upd m 0 (worldT p d X1)) (mapT intKey b (iMap I1) :: (I1.map OutI.row ++ (mapT intKey ob mq :: (R ++ (NVT :: blk q (.cells #[.pointer (some ⟨p, 0, none⟩), .int .i64 c.f, .int .i64 c.n, .int .i64 c.cl, .int .i64 c.ba, .int .i64 c.mo, .int .i64 c.bt, .int .i64 c.po, .int .i64 c.wi, .map (some vb), .map (some ob)] 143 (0, 0)) :: QT :: blk nr (.cells #[.int .i64 0, .slice none 0 0, .slice none 0 0, .int .i64 0, .int .i64 0, .slice none 0 0] 30 (0, 0)) :: votesT vb V :: l)))))) [] (by kernel_rfl) ?_
      refine takeW 0 (some 57) (v := ?_) rfl (by rfl) (by kernel_rfl) (by kernel_rfl) (by kernel_rfl) (fun _ _ _ h => h) (by kernel_rfl) (by kernel_rfl) ?_ (Stage.still (by assumption)) ?_
      rotate_left
      · (intro w; go_simp; try (with_reducible rfl))
      try simp only [Act.put, List.setIfInBounds_toArray, List.set_cons_zero, List.set_cons_succ]
      refine takeS 1 (some 58) (v := ?_) rfl (by rfl) (by kernel_rfl) (by kernel_rfl) (by kernel_rfl) (fun _ _ _ h => h) (by kernel_rfl) (by kernel_rfl) (by kernel_rfl) ?_ (by assumption) ?_
      rotate_left
      · (intro w hSw; have e := hSw.getMap.len (P := Try.prog) (ty := 3) Try.underlying153; rw [show (iMap I1).length = I1.length by simp [iMap]] at e; clear hSw; go_simp; try (with_reducible rfl))
      try simp only [Act.put, List.setIfInBounds_toArray, List.set_cons_zero, List.set_cons_succ]
      refine takeW 2 (some 59) (v := ?_) rfl (by rfl) (by kernel_rfl) (by kernel_rfl) (by kernel_rfl) (fun _ _ _ h => h) (by kernel_rfl) (by kernel_rfl) ?_ (Stage.still (by assumption)) ?_
      rotate_left
      · (intro w; go_simp; try (with_reducible rfl))
      try simp only [Act.put, List.setIfInBounds_toArray, List.set_cons_zero, List.set_cons_succ]
      refine takeW 3 (some 60) (v := ?_) rfl (by rfl) (by kernel_rfl) (by kernel_rfl) (by kernel_rfl) (fun _ _ _ h => h) (by kernel_rfl) (by kernel_rfl) ?_ (Stage.still (by assumption)) ?_
      rotate_left
      · (intro w; go_simp; try (with_reducible rfl))
      try simp only [Act.put, List.setIfInBounds_toArray, List.set_cons_zero, List.set_cons_succ]
      refine takeW 4 (some 61) (v := ?_) rfl (by rfl) (by kernel_rfl) (by kernel_rfl) (by kernel_rfl) (fun _ _ _ h => h) (by kernel_rfl) (by kernel_rfl) ?_ (Stage.still (by assumption)) ?_
      rotate_left
      · (intro w; go_simp; try (with_reducible rfl))
      try simp only [Act.put, List.setIfInBounds_toArray, List.set_cons_zero, List.set_cons_succ]
      refine takeS 5 (some 62) (v := ?_) rfl (by rfl) (by kernel_rfl) (by kernel_rfl) (by kernel_rfl) (fun _ _ _ h => h) (by kernel_rfl) (by kernel_rfl) (by kernel_rfl) ?_ (by assumption) ?_
      rotate_left
      · (intro w hSw; have hb := Sys.memBlk (n := q) (o := .cells #[.pointer (some ⟨p, 0, none⟩), .int .i64 c.f, .int .i64 c.n, .int .i64 c.cl, .int .i64 c.ba, .int .i64 c.mo, .int .i64 c.bt, .int .i64 c.po, .int .i64 c.wi, .map (some vb), .map (some ob)] 143 (0, 0)) hSw (by simp); have c0 : w.cell? ⟨q, 1, none⟩ = some (.int .i64 c.f) := cell_of_blk hb 1; have c1 : w.cell? ⟨q, 2, none⟩ = some (.int .i64 c.n) := cell_of_blk hb 2; have c2 : w.cell? ⟨q, 3, none⟩ = some (.int .i64 c.cl) := cell_of_blk hb 3; have c3 : w.cell? ⟨q, 4, none⟩ = some (.int .i64 c.ba) := cell_of_blk hb 4; have c4 : w.cell? ⟨q, 5, none⟩ = some (.int .i64 c.mo) := cell_of_blk hb 5; have c5 : w.cell? ⟨q, 6, none⟩ = some (.int .i64 c.bt) := cell_of_blk hb 6; have c6 : w.cell? ⟨q, 7, none⟩ = some (.int .i64 c.po) := cell_of_blk hb 7; have c7 : w.cell? ⟨q, 8, none⟩ = some (.int .i64 c.wi) := cell_of_blk hb 8; clear hSw hb; go_simp; try (with_reducible rfl))
      try simp only [Act.put, List.setIfInBounds_toArray, List.set_cons_zero, List.set_cons_succ]
      refine oneT 6 (by kernel_rfl) rfl (fun K hK => ?_)
      go_simp
      go_at_call 48
      refine (cert_quorum c HG.out hS1).mono ?_
      rintro e wB ⟨rfl, hB⟩
      have hS1 := hB
      clear hB
      go_wp2_with fail
      refine hK.out _ _ (Stage.still ?_) (fun hSt => ?_)
      · (try dsimp only); exact hS1
      clear hK K hSt
      try simp only [Act.put, List.setIfInBounds_toArray, List.set_cons_zero, List.set_cons_succ]
      refine takeW 7 (some 64) (v := ?_) rfl (by rfl) (by kernel_rfl) (by kernel_rfl) (by kernel_rfl) (fun _ _ _ h => h) (by kernel_rfl) (by kernel_rfl) ?_ (Stage.still (by assumption)) ?_
      rotate_left
      · (intro w; go_simp; try (with_reducible rfl))
      try simp only [Act.put, List.setIfInBounds_toArray, List.set_cons_zero, List.set_cons_succ]
      refine doneT (by kernel_rfl) ?_ _
      have HSR := Lib.hid (hS1.perm (perm_r _ _ _ _ _ _ _ _ _ _))
      clear hS1 HC0
      have hbr : wB.heap[nr]? = _ := HSR.out.getBlk
      have hzz := setRow_heap wB nr _ #[.int .i64 0, .slice none 0 0, .slice none 0 0, .int .i64 0, .int .i64 0, .slice none 0 0] _ _ hbr
      have HF := Lib.hid (HSR.out.store ((Chg.refl (· = nr) wB).row #[.int .i64 0, .slice none 0 0, .slice none 0 0, .int .i64 0, .int .i64 0, .slice none 0 0]) hzz)
      go_wp2_with (refine wpList_store_row rfl 30 _ _ rfl nr #[.int .i64 0, .slice none 0 0, .slice none 0 0, .int .i64 0, .int .i64 0, .slice none 0 0] rfl rfl _ _ hbr size6 rfl (by simp [Value.oneCell']) ?_)
      (try simp only [Exit.inBlock, Exit.then])
      refine bodyPost_ret (results_cell_tmp (cs := #[.int .i64 0, .slice none 0 0, .slice none 0 0, .int .i64 0, .int .i64 0, .slice none 0 0]) rfl _ _ nr _ _ _ rfl hzz Try.underlying30 rfl size6) rfl ?_
      have h9 := HCL.out _ _ (NVT :: blk q (.cells #[.pointer (some ⟨p, 0, none⟩), .int .i64 c.f, .int .i64 c.n, .int .i64 c.cl, .int .i64 c.ba, .int .i64 c.mo, .int .i64 c.bt, .int .i64 c.po, .int .i64 c.wi, .map (some vb), .map (some ob)] 143 (0, 0)) :: QT :: votesT vb V :: l) I1 HW1.out HF.out.tail
      rw [HL1.out] at h9
      exact ⟨rfl, X1, HE.out, Sys.close (vb, ob) (sub_two (h9.perm (perm_z _ _ _ _ _ _)))⟩
    | some qs =>
      have HSI := Lib.hid hi
      clear hi
      obtain ⟨i0, qo, hi0, hmem, hwho⟩ : ∃ (j : Nat) (i : OutI), I[j]? = some i ∧ i ∈ I ∧ alook (iMap I) who = some i.cell := by
        obtain ⟨j, i, h1, h2, h3, h4⟩ := alook_map2 OutI.who OutI.q OutI.cell I who _ HSI.out
        exact ⟨j, i, h1, List.mem_of_getElem? h1, h4⟩
      have e6 := HS5.out.getMap.lookup (P := Try.prog) Try.underlying153 Try.underlying3 (zeroQC w5) who true
      rw [hwho] at e6
      simp only [if_true, intKey, Option.getD, Option.isSome, OutI.cell] at e6
      obtain ⟨qo2, qq, vq⟩ := qo
      obtain ⟨qqv, qqb, qqy⟩ := qq
      dsimp only at e6
      obtain ⟨va, vk, vc, hvq, -⟩ := (Sys.memOwn (E := 3) (size := 1) (v := vq) (n := qqy.length) (xs := qqy.map (Value.int .i64)) HS5.out (by
        refine List.mem_cons_of_mem _ (List.mem_append_left _ (List.mem_map.2 ⟨_, hmem, rfl⟩)))).slice
      subst hvq
      obtain ⟨nv, hnv⟩ : ∃ n, w5.heap.size = n := ⟨_, rfl⟩
      obtain ⟨w7, hw7⟩ : ∃ y, w5.alloc (.cells #[.int .i64 qqv, .int .i64 qqb, .slice va vk vc] 28 (0, 0)) = y := ⟨_, rfl⟩
      have hs7 := HS5.out.alloc (.cells #[.int .i64 qqv, .int .i64 qqb, .slice va vk vc] 28 (0, 0)) hnv.symm
      rw [hw7] at hs7
      obtain ⟨NVT, hNVT⟩ : ∃ t : Thing, t = blk nv (.cells #[.int .i64 qqv, .int .i64 qqb, .slice va vk vc] 28 (0, 0)) := ⟨_, rfl⟩
      obtain ⟨QT, hQT⟩ : ∃ t : Thing, t = blk nq (.cells #[.int .i64 qx.view, .int .i64 qx.block, .slice ga g gc] 28 (0, 0)) := ⟨_, rfl⟩
      have H7 := Lib.hid hs7
      have HW7 := Lib.hid hw7
      have HNV := Lib.hid hnv
      obtain ⟨I1, hI1⟩ : ∃ I1 : List OutI, I1 = I := ⟨_, rfl⟩
      have HC0 : Hid (Sys w7 (upd m 0 (worldT p d X1)) (mapT intKey b (iMap I1) :: (I1.map OutI.row ++ (mapT intKey ob mq :: (R ++ (NVT :: blk q (.cells #[.pointer (some ⟨p, 0, none⟩), .int .i64 c.f, .int .i64 c.n, .int .i64 c.cl, .int .i64 c.ba, .int .i64 c.mo, .int .i64 c.bt, .int .i64 c.po, .int .i64 c.wi, .map (some vb), .map (some ob)] 143 (0, 0)) :: QT :: blk nr (.cells #[.int .i64 0, .slice none 0 0, .slice none 0 0, .int .i64 0, .int .i64 0, .slice none 0 0] 30 (0, 0)) :: votesT vb V :: l)))))) := by
        show Sys _ _ _
        rw [hI1, hNVT, hQT]
        exact hs7.perm (perm_i _ _ _ _ _ _ _ _ _ _)
      have HL1 : Hid (iKv I1 = outL ((alook O view).getD []) who qx) := by
        show _ = _
        rw [HV0.out, hI1]
        unfold outL
        rw [HSI.out]
      have HW1 : Hid (AllWf (I1.map (·.who))) := by rw [hI1]; exact HWI.out
      clear hw7 hnv hs7 hwho hNVT hQT hI1 HWI hi0 hmem
      go_upto_region 7 with fail
      rw [HW7.out, HNV.out]
      clear e6
      go_upto_region 10 with fail
      obtain ⟨wA, hwA⟩ : ∃ y, y = w7 := ⟨_, rfl⟩
      rw [← hwA] at HC0 ⊢
      clear hwA
      have hq10 : decide ((I1.length : Int) < 2 * c.f + 1) = true := by have h1 := HQ0.out; have h2 := congrArg List.length HL1.out; simp only [iKv, List.length_map] at h2; rw [← h2] at h1; simp; omega
      have hS1 := HC0.out.drew
      refine wp_region_stage (fun x : World => Sys x (upd m 0 (worldT p d X1)) (mapT intKey b (iMap I1) :: (I1.map OutI.row ++ (mapT intKey ob mq :: (R ++ (NVT :: blk q (.cells #[.pointer (some ⟨p, 0, none⟩), .int .i64 c.f, .int .i64 c.n, .int .i64 c.cl, .int .i64 c.ba, .int .i64 c.mo, .int .i64 c.bt, .int .i64 c.po, .int .i64 c.wi, .map (some vb), .map (some ob)] 143 (0, 0)) :: QT :: blk nr (.cells #[.int .i64 0, .slice none 0 0, .slice none 0 0, .int .i64 0, .int .i64 0, .slice none 0 0] 30 (0, 0)) :: votesT vb V :: l)))))) [] (by kernel_rfl) ?_
      refine takeW 0 (some 57) (v := ?_) rfl (by rfl) (by kernel_rfl) (by kernel_rfl) (by kernel_rfl) (fun _ _ _ h => h) (by kernel_rfl) (by kernel_rfl) ?_ (Stage.still (by assumption)) ?_
      rotate_left
      · (intro w; go_simp; try (with_reducible rfl))
      try simp only [Act.put, List.setIfInBounds_toArray, List.set_cons_zero, List.set_cons_succ]
      refine takeS 1 (some 58) (v := ?_) rfl (by rfl) (by kernel_rfl) (by kernel_rfl) (by kernel_rfl) (fun _ _ _ h => h) (by kernel_rfl) (by kernel_rfl) (by kernel_rfl) ?_ (by assumption) ?_
      rotate_left
      · (intro w hSw; have e := hSw.getMap.len (P := Try.prog) (ty := 3) Try.underlying153; rw [show (iMap I1).length = I1.length by simp [iMap]] at e; clear hSw; go_simp; try (with_reducible rfl))
      try simp only [Act.put, List.setIfInBounds_toArray, List.set_cons_zero, List.set_cons_succ]
      refine takeW 2 (some 59) (v := ?_) rfl (by rfl) (by kernel_rfl) (by kernel_rfl) (by kernel_rfl) (fun _ _ _ h => h) (by kernel_rfl) (by kernel_rfl) ?_ (Stage.still (by assumption)) ?_
      rotate_left
      · (intro w; go_simp; try (with_reducible rfl))
      try simp only [Act.put, List.setIfInBounds_toArray, List.set_cons_zero, List.set_cons_succ]
      refine takeW 3 (some 60) (v := ?_) rfl (by rfl) (by kernel_rfl) (by kernel_rfl) (by kernel_rfl) (fun _ _ _ h => h) (by kernel_rfl) (by kernel_rfl) ?_ (Stage.still (by assumption)) ?_
      rotate_left
      · (intro w; go_simp; try (with_reducible rfl))
      try simp only [Act.put, List.setIfInBounds_toArray, List.set_cons_zero, List.set_cons_succ]
      refine takeW 4 (some 61) (v := ?_) rfl (by rfl) (by kernel_rfl) (by kernel_rfl) (by kernel_rfl) (fun _ _ _ h => h) (by kernel_rfl) (by kernel_rfl) ?_ (Stage.still (by assumption)) ?_
      rotate_left
      · (intro w; go_simp; try (with_reducible rfl))
      try simp only [Act.put, List.setIfInBounds_toArray, List.set_cons_zero, List.set_cons_succ]
      refine takeS 5 (some 62) (v := ?_) rfl (by rfl) (by kernel_rfl) (by kernel_rfl) (by kernel_rfl) (fun _ _ _ h => h) (by kernel_rfl) (by kernel_rfl) (by kernel_rfl) ?_ (by assumption) ?_
      rotate_left
      · (intro w hSw; have hb := Sys.memBlk (n := q) (o := .cells #[.pointer (some ⟨p, 0, none⟩), .int .i64 c.f, .int .i64 c.n, .int .i64 c.cl, .int .i64 c.ba, .int .i64 c.mo, .int .i64 c.bt, .int .i64 c.po, .int .i64 c.wi, .map (some vb), .map (some ob)] 143 (0, 0)) hSw (by simp); have c0 : w.cell? ⟨q, 1, none⟩ = some (.int .i64 c.f) := cell_of_blk hb 1; have c1 : w.cell? ⟨q, 2, none⟩ = some (.int .i64 c.n) := cell_of_blk hb 2; have c2 : w.cell? ⟨q, 3, none⟩ = some (.int .i64 c.cl) := cell_of_blk hb 3; have c3 : w.cell? ⟨q, 4, none⟩ = some (.int .i64 c.ba) := cell_of_blk hb 4; have c4 : w.cell? ⟨q, 5, none⟩ = some (.int .i64 c.mo) := cell_of_blk hb 5; have c5 : w.cell? ⟨q, 6, none⟩ = some (.int .i64 c.bt) := cell_of_blk hb 6; have c6 : w.cell? ⟨q, 7, none⟩ = some (.int .i64 c.po) := cell_of_blk hb 7; have c7 : w.cell? ⟨q, 8, none⟩ = some (.int .i64 c.wi) := cell_of_blk hb 8; clear hSw hb; go_simp; try (with_reducible rfl))
      try simp only [Act.put, List.setIfInBounds_toArray, List.set_cons_zero, List.set_cons_succ]
      refine oneT 6 (by kernel_rfl) rfl (fun K hK => ?_)
      go_simp
      go_at_call 48
      refine (cert_quorum c HG.out hS1).mono ?_
      rintro e wB ⟨rfl, hB⟩
      have hS1 := hB
      clear hB
      go_wp2_with fail
      refine hK.out _ _ (Stage.still ?_) (fun hSt => ?_)
      · (try dsimp only); exact hS1
      clear hK K hSt
      try simp only [Act.put, List.setIfInBounds_toArray, List.set_cons_zero, List.set_cons_succ]
      refine takeW 7 (some 64) (v := ?_) rfl (by rfl) (by kernel_rfl) (by kernel_rfl) (by kernel_rfl) (fun _ _ _ h => h) (by kernel_rfl) (by kernel_rfl) ?_ (Stage.still (by assumption)) ?_
      rotate_left
      · (intro w; go_simp; try (with_reducible rfl))
      try simp only [Act.put, List.setIfInBounds_toArray, List.set_cons_zero, List.set_cons_succ]
      refine doneT (by kernel_rfl) ?_ _
      have HSR := Lib.hid (hS1.perm (perm_r _ _ _ _ _ _ _ _ _ _))
      clear hS1 HC0
      have hbr : wB.heap[nr]? = _ := HSR.out.getBlk
      have hzz := setRow_heap wB nr _ #[.int .i64 0, .slice none 0 0, .slice none 0 0, .int .i64 0, .int .i64 0, .slice none 0 0] _ _ hbr
      have HF := Lib.hid (HSR.out.store ((Chg.refl (· = nr) wB).row #[.int .i64 0, .slice none 0 0, .slice none 0 0, .int .i64 0, .int .i64 0, .slice none 0 0]) hzz)
      go_wp2_with (refine wpList_store_row rfl 30 _ _ rfl nr #[.int .i64 0, .slice none 0 0, .slice none 0 0, .int .i64 0, .int .i64 0, .slice none 0 0] rfl rfl _ _ hbr size6 rfl (by simp [Value.oneCell']) ?_)
      (try simp only [Exit.inBlock, Exit.then])
      refine bodyPost_ret (results_cell_tmp (cs := #[.int .i64 0, .slice none 0 0, .slice none 0 0, .int .i64 0, .int .i64 0, .slice none 0 0]) rfl _ _ nr _ _ _ rfl hzz Try.underlying30 rfl size6) rfl ?_
      have h9 := HCL.out _ _ (NVT :: blk q (.cells #[.pointer (some ⟨p, 0, none⟩), .int .i64 c.f, .int .i64 c.n, .int .i64 c.cl, .int .i64 c.ba, .int .i64 c.mo, .int .i64 c.bt, .int .i64 c.po, .int .i64 c.wi, .map (some vb), .map (some ob)] 143 (0, 0)) :: QT :: votesT vb V :: l) I1 HW1.out HF.out.tail
      rw [HL1.out] at h9
      exact ⟨rfl, X1, HE.out, Sys.close (vb, ob) (sub_two (h9.perm (perm_z _ _ _ _ _ _)))⟩
end
end Go.Proofs.Ytcfhkpjheemkgaa
