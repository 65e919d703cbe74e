/-
  Blocks: who leads, a block's digest, and its signature.
-/
import Derived.Test.YtcfhkpjheemkgaaApp
import Derived.Test.YtcfhkpjheemkgaaExt
namespace Go.Proofs.Ytcfhkpjheemkgaa
set_option linter.unusedSectionVars false
set_option linter.unnecessarySimpa false
set_option linter.unusedSimpArgs false
set_option linter.unusedVariables false
open Go.RowKit Go.MapKept

def leadOf (c : CfgX) (view : Int) : Int := if view < 0 then 0 else view % c.n
def envsX (X : WX) (E : List EnvX) : WX := E.foldl (fun X e => X.digest (envB e)) X
theorem envsX_snoc (X : WX) (E : List EnvX) (e : EnvX) : envsX X (E ++ [e]) = (envsX X E).digest (envB e) := by unfold envsX; rw [List.foldl_append]; rfl
theorem envsX_take (X : WX) (E : List EnvX) (i : Nat) (h : i < E.length) : envsX X (E.take (i + 1)) = (envsX X (E.take i)).digest (envB (E.getD i default)) := by
  rw [List.take_succ_eq_append_getElem h, envsX_snoc, List.getD_eq_getElem?_getD, List.getElem?_eq_getElem h]; rfl
theorem envsX_ext (X : WX) : ∀ E : List EnvX, X.Ext E.length (envsX X E) := by
  intro E
  induction E generalizing X with
  | nil => exact WX.Ext.refl X
  | cons e E ih => exact ((X.ext_digest (envB e)).trans (ih _)).mono (by simp; omega)
theorem mem_envsX {E : List EnvX} {e : EnvX} (he : e ∈ E) (X : WX) : envB e ∈ (envsX X E).T := by
  induction E generalizing X with
  | nil => cases he
  | cons a E ih =>
    rcases List.mem_cons.1 he with rfl | h
    · exact (envsX_ext _ E).mem (mem_digest X (envB e))
    · exact ih h _
def envsD (X : WX) (E : List EnvX) : List Int := E.map fun e => dg (envsX X E).T (envB e)
theorem envsD_snoc (X : WX) (E : List EnvX) (e : EnvX) : envsD X (E ++ [e]) = envsD X E ++ [dg (envsX X E).T (envB e)] := by
  unfold envsD
  rw [List.map_append, envsX_snoc]
  congr 1
  · exact List.map_congr_left fun x hx => dg_addT (.inl (mem_envsX hx X))
  · simp only [List.map_cons, List.map_nil]; rw [dg_digest]
theorem envsD_take (X : WX) (E : List EnvX) (i : Nat) (h : i < E.length) : envsD X (E.take (i + 1)) = envsD X (E.take i) ++ [dg (envsX X (E.take i)).T (envB (E.getD i default))] := by
  rw [List.take_succ_eq_append_getElem h, envsD_snoc, List.getD_eq_getElem?_getD, List.getElem?_eq_getElem h]; rfl
def blkH (b : BlkX) : List Int := [b.view, b.author, b.jv, b.jb, (b.by_.length : Int)] ++ b.by_ ++ [(b.envs.length : Int)]
def blkL (X : WX) (b : BlkX) : List Int := blkH b ++ envsD X b.envs
def blockB (X : WX) (b : BlkX) : List UInt8 := tagB [98, 108, 111, 99, 107] (blkL X b)
def blkX (X : WX) (b : BlkX) : WX := (envsX X b.envs).digest (blockB X b)
def blkD (X : WX) (b : BlkX) : Int := dg (envsX X b.envs).T (blockB X b)
theorem blkX_ext (X : WX) (b : BlkX) : X.Ext (b.envs.length + 1) (blkX X b) := (envsX_ext X b.envs).trans (WX.ext_digest _ _)
def leadB (d : Int) : List UInt8 := tagB [108, 101, 97, 100] [d]
def leadX (X : WX) (b : BlkX) : WX := (blkX X b).digest (leadB (blkD X b))
theorem leadX_ext (X : WX) (b : BlkX) : X.Ext (b.envs.length + 2) (leadX X b) := (blkX_ext X b).trans (WX.ext_digest _ _)
section
variable {w w' : World} {m : Nat → Thing} {l : List Thing} {p : Nat} {d : Wd} {X : WX}
theorem size6B : (Try.prog.info? 65).map (·.size) = some 6 := by kernel_rfl

set_option maxRecDepth 100000 in
set_option maxHeartbeats 1000000 in
theorem blok_lead_of (c : CfgX) (hg : c.Good) (view : Int) (hv : -9223372036854775808 ≤ view ∧ view ≤ 9223372036854775807) (h : Sys w m l) : Calls Try.prog 32 #[.agg c.cells.toArray, .int .i64 view] w fun e w' => e = .returned (.int .i64 (leadOf c view)) ∧ Sys w' m l := by
  obtain ⟨nb, x1, EN1, EX1, ES1, H1⟩ := h.box (.cells #[.int .i64 c.f, .int .i64 c.n, .int .i64 c.cl, .int .i64 c.ba, .int .i64 c.mo, .int .i64 c.bt, .int .i64 c.po, .int .i64 c.wi] 49 (0, 0))
  obtain ⟨g0, g1, g2⟩ := hg
  change Calls Try.prog 32 #[.agg #[.int .i64 c.f, .int .i64 c.n, .int .i64 c.cl, .int .i64 c.ba, .int .i64 c.mo, .int .i64 c.bt, .int .i64 c.po, .int .i64 c.wi], .int .i64 view] w _
  obtain ⟨c0, c1, -⟩ := cells8 (H1.out.nth 0 rfl)
  have d0 : 1 ≤ c.n ∧ c.n ≤ 4000 := by omega
  have d1 : decide (c.n < 1) = false := by simp; omega
  clear h g0 g1 g2
  unfold leadOf
  by_cases hd : view < 0
  · have hd1 : decide (view < 0) = true := by simpa using hd
    rw [if_pos hd]
    clear hd
    go_enter Try.func32, Try.ntmps32
    go_upto_region 1 with fail
    rw [EX1.out, EN1.out]
    go_wp2_with fail
    go_ret
    exact ⟨rfl, H1.out.tail⟩
  · have hd1 : decide (view < 0) = false := by simpa using hd
    have hd2 : 0 ≤ view := by omega
    rw [if_neg hd]
    clear hd
    go_enter Try.func32, Try.ntmps32
    go_upto_region 1 with fail
    rw [EX1.out, EN1.out]
    go_wp2_with fail
    go_ret
    exact ⟨rfl, H1.out.tail⟩

set_option maxRecDepth 100000 in
set_option maxHeartbeats 4000000 in
theorem blok_digest (b : BlkX) (ua : Option Addr) (uc : Nat) (va : Option Addr) (vc : Nat) (hb : Cap l (fun x => BlkAt x b ua uc va vc)) (hwf : ∀ e ∈ b.envs, e.wf) (h : Sys w m l) (hw : m 0 = worldT p d X) (hT : X.T.length ≤ 900000000) :
    Calls Try.prog 100 #[.pointer (some ⟨p, 0, none⟩), .agg (bval b ua uc va vc).toArray] w fun e w' => e = .returned (.int .i64 (blkD X b)) ∧ Sys w' (upd m 0 (worldT p d (blkX X b))) l := by
  obtain ⟨hl1, hl2⟩ := (hb w m h).lens
  have HB := Lib.hid hb
  have HWF := Lib.hid hwf
  have HTL := Lib.hid hT
  obtain ⟨n1, HN1⟩ : ∃ n, Hid (b.by_.length = n) := ⟨_, rfl⟩
  obtain ⟨n2, HN2⟩ : ∃ n, Hid (b.envs.length = n) := ⟨_, rfl⟩
  change Calls Try.prog 100 #[.pointer (some ⟨p, 0, none⟩), .agg #[.int .i64 b.view, .int .i64 b.author, .int .i64 b.jv, .int .i64 b.jb, .slice ua b.by_.length uc, .slice va b.envs.length vc]] w _
  rw [HN1.out] at hl1 ⊢
  rw [HN2.out] at hl2 ⊢
  obtain ⟨nb, x1, EN1, EX1, ES1, H1⟩ := h.box (.cells #[.int .i64 b.view, .int .i64 b.author, .int .i64 b.jv, .int .i64 b.jb, .slice ua n1 uc, .slice va n2 vc] 65 (0, 0))
  obtain ⟨nl, x2, EN2, EX2, ES2, H2⟩ := H1.out.box (.cells #[.int .i64 b.view, .int .i64 b.author, .int .i64 b.jv, .int .i64 b.jb, .int .i64 (n1 : Int)] 3 (0, 0))
  have h3 : Sys x2 m (own 3 1 (.slice (some ⟨nl, 0, none⟩) 5 5) 5 (([b.view, b.author, b.jv, b.jb, (n1 : Int)] : List Int).map (Value.int .i64)) :: blk nb (.cells #[.int .i64 b.view, .int .i64 b.author, .int .i64 b.jv, .int .i64 b.jb, .slice ua n1 uc, .slice va n2 vc] 65 (0, 0)) :: l) := H2.out.blkOwn rfl (by decide)
  obtain ⟨v2, w2, hap2, hs2⟩ := h3.appInts ua uc b.by_ HN1.out (HB.out x2 m h3.tail.tail).ints (by omega) 23
  have HS2 := Lib.hid hs2
  have HBX2 := H2.out.nth 1 rfl
  obtain ⟨v3, w3, hap3, hs3⟩ := (hs2.alloc (.cells #[.int .i64 (n2 : Int)] 3 (0, 0)) rfl).swap.appInts (k := 1) (some ⟨w2.heap.size, 0, none⟩) 1 [(n2 : Int)] rfl (ints_const (t := [(n2 : Int)]) (hs2.alloc (.cells #[.int .i64 (n2 : Int)] 3 (0, 0)) rfl).getBlk) (by omega) 23
  have HS3 : Hid (Sys w3 m (own 3 1 v3 (5 + n1 + 1) ((blkH b).map (Value.int .i64)) :: blk nb (.cells #[.int .i64 b.view, .int .i64 b.author, .int .i64 b.jv, .int .i64 b.jb, .slice ua n1 uc, .slice va n2 vc] 65 (0, 0)) :: l)) := by
    have h := hs3.swap.tail
    have e : ([b.view, b.author, b.jv, b.jb, (n1 : Int)] ++ b.by_ ++ [(n2 : Int)]) = blkH b := by unfold blkH; rw [HN1.out, HN2.out]
    rw [e] at h
    exact h
  obtain ⟨c0, c1, c2, c3, c4, c5⟩ := cells6 (H1.out.nth 0 rfl)
  clear h hb hwf hT h3 hs2 hs3
  go_enter Try.func100, Try.ntmps100
  go_upto_region 1 with fail
  rw [EX1.out, EN1.out]
  go_upto_region 2 with fail
  rw [EX2.out, EN2.out]
  clear c0 c1 c2 c3 c4 c5 EX1 EN1 ES1 EX2 EN2 ES2
  obtain ⟨c0, c1, c2, c3, c4, c5⟩ := cells6 HBX2
  go_upto_region 3 with (at_builtin; refine wpl_append rfl _ _ _ rfl rfl rfl hap2 ?_)
  clear hap2 HBX2 c0 c1 c2 c3 c4 c5
  obtain ⟨c0, c1, c2, c3, c4, c5⟩ := cells6 (HS2.out.nth 1 rfl)
  go_upto_region 4 with (at_builtin; refine wpl_append rfl _ _ _ rfl rfl rfl hap3 ?_)
  clear hap3 HS2 c0 c1 c2 c3 c4 c5
  obtain ⟨c0, c1, c2, c3, c4, c5⟩ := cells6 (HS3.out.nth 1 rfl)
  go_wp2_with fail
  clear c0 c1 c2 c3 c4 c5
  go_loopw [5, 37] (fun v i wr => ∃ j : Nat, j ≤ n2 ∧ i = .int .i64 j ∧ Sys wr (upd m 0 (worldT p d (envsX X (b.envs.take j)))) (own 3 1 v (5 + n1 + 1 + j) ((blkH b ++ envsD X (b.envs.take j)).map (Value.int .i64)) :: blk nb (.cells #[.int .i64 b.view, .int .i64 b.author, .int .i64 b.jv, .int .i64 b.jb, .slice ua n1 uc, .slice va n2 vc] 65 (0, 0)) :: l)) (fun _ i _ => n2 - (intOf i).toNat)
  case atStart => exact ⟨0, by omega, rfl, by
    have h := HS3.out
    rw [List.take_zero, Nat.add_zero, show envsX X [] = X from rfl, upd_self hw]
    simpa [envsD] using h⟩
  case round =>
    obtain ⟨j, hj, rfl, hR⟩ := hrel
    have HR := Lib.hid hR
    by_cases hlt : j < n2
    · have hjl : (j : Int) < (n2 : Int) := by omega
      have hwrap : IntKind.i64.wrap ((j : Int) + 1) = (j : Int) + 1 := by rw [IntKind.wrap_i64]; omega
      obtain ⟨⟨ec, en, ef, ei⟩, he⟩ : ∃ e, e = b.envs.getD j default := ⟨_, rfl⟩
      have hel : j < b.envs.length := by rw [HN2.out]; exact hlt
      have hat := (HB.out wr _ hR.tail.tail).envs
      obtain ⟨eb, eo, rfl⟩ := hat.some_ hel
      have hce := hat.get hel
      rw [← he] at hce
      have HCE : Hid (∀ (k : Nat) (u : Value), ([.int .i64 ec, .int .u64 en, .int .u64 ef, .int .i64 ei] : List Value)[k]? = some u → wr.cell? ⟨eb, eo + j * 4 + k, none⟩ = some u) := hce
      have HWE : Hid (EnvX.wf ⟨ec, en, ef, ei⟩) := by
        show EnvX.wf _
        rw [he, List.getD_eq_getElem?_getD, List.getElem?_eq_getElem hel]
        exact HWF.out _ (List.getElem_mem hel)
      have HTK := Lib.hid (envsX_take X b.envs j hel)
      have HDK := Lib.hid (envsD_take X b.envs j hel)
      rw [← he] at HTK HDK
      have HTJ : Hid ((envsX X (b.envs.take j)).T.length ≤ 1000000000) := by
        have h1 := (envsX_ext X (b.envs.take j)).len.2
        have h2 : (b.envs.take j).length ≤ j := List.length_take_le _ _
        have := HTL.out
        show _ ≤ _
        omega
      obtain ⟨ne, y1, EN3, EX3, ES3, H3⟩ := HR.out.box (.cells #[.int .i64 ec, .int .u64 en, .int .u64 ef, .int .i64 ei] 33 (0, 0))
      clear hat hce he hR
      go_upto_region 7 with (refine wpList_load_at rfl 33 _ rfl eb (eo + j * 4) rfl [.int .i64 ec, .int .u64 en, .int .u64 ef, .int .i64 ei] _ HCE.out Try.underlying33 rfl size4 ?_)
      rw [EX3.out, EN3.out]
      have hbe := H3.out.nth 0 rfl
      go_wp2_with (refine wpList_load_row rfl 33 _ rfl ne rfl _ _ _ _ hbe Try.underlying33 rfl size4 ?_)
      refine (world_digest ⟨ec, en, ef, ei⟩ HWE.out H3.out.tail (upd_same _ _ _) HTJ.out).mono ?_
      rintro e y2 ⟨rfl, h4⟩
      rw [upd_upd] at h4
      have h4' : Sys y2 (upd m 0 (worldT p d (envsX X (b.envs.take (j + 1))))) (own 3 1 u5 (5 + n1 + 1 + j) ((blkH b ++ envsD X (b.envs.take j)).map (Value.int .i64)) :: blk nb (.cells #[.int .i64 b.view, .int .i64 b.author, .int .i64 b.jv, .int .i64 b.jb, .slice ua n1 uc, .slice (some ⟨eb, eo, none⟩) n2 vc] 65 (0, 0)) :: l) := by rw [HTK.out]; exact h4
      obtain ⟨dj, hdj⟩ : ∃ x, x = dg (envsX X (b.envs.take j)).T (envB ⟨ec, en, ef, ei⟩) := ⟨_, rfl⟩
      rw [← hdj]
      obtain ⟨v5, y3, hap5, hs5⟩ := (h4'.alloc (.cells #[.int .i64 dj] 3 (0, 0)) rfl).swap.appInts (k := 1) (some ⟨y2.heap.size, 0, none⟩) 1 [dj] rfl (ints_const (t := [dj]) (h4'.alloc (.cells #[.int .i64 dj] 3 (0, 0)) rfl).getBlk) (by omega) 23
      have HS5 : Hid (Sys y3 (upd m 0 (worldT p d (envsX X (b.envs.take (j + 1))))) (own 3 1 v5 (5 + n1 + 1 + (j + 1)) ((blkH b ++ envsD X (b.envs.take (j + 1))).map (Value.int .i64)) :: blk nb (.cells #[.int .i64 b.view, .int .i64 b.author, .int .i64 b.jv, .int .i64 b.jb, .slice ua n1 uc, .slice (some ⟨eb, eo, none⟩) n2 vc] 65 (0, 0)) :: l)) := by
        have h := hs5.swap.tail
        rw [List.append_assoc, hdj, ← HDK.out] at h
        exact h
      clear h4 h4' hbe hdj hs5 HTK HDK HCE HWE HTJ
      go_wp2_with (at_builtin; refine wpl_append rfl _ _ _ rfl rfl rfl hap5 ?_)
      go_roundw
      case rel => exact ⟨j + 1, by omega, by go_num, HS5.out⟩
      case measure => simp [intOf]; omega
    · obtain rfl : j = n2 := by omega
      clear hR
      obtain ⟨va9, vk9, vc9, e9, hk9⟩ := HR.out.getOwn.slice
      obtain rfl := hk9.out
      subst e9
      have HLL : Hid ((blkL X b).length = 5 + n1 + 1 + j) := by
        show _ = _
        unfold blkL blkH envsD
        simp [HN1.out, HN2.out]
        try omega
      have HR2 : Hid (Sys wr (upd m 0 (worldT p d (envsX X b.envs))) (own 3 1 (.slice va9 (5 + n1 + 1 + j) vc9) (5 + n1 + 1 + j) ((blkL X b).map (Value.int .i64)) :: blk nb (.cells #[.int .i64 b.view, .int .i64 b.author, .int .i64 b.jv, .int .i64 b.jb, .slice ua n1 uc, .slice va j vc] 65 (0, 0)) :: l)) := by
        have h := HR.out
        rw [List.take_of_length_le (by rw [HN2.out]; exact Nat.le_refl _)] at h
        exact h
      have HTJ : Hid ((envsX X b.envs).T.length ≤ 1000000000) := by
        have h1 := (envsX_ext X b.envs).len.2
        have := HTL.out
        have := HN2.out
        show _ ≤ _
        omega
      have HTG := Lib.hid (world_tagged [98, 108, 111, 99, 107] (blkL X b) va9 vc9 (fun x m' hs => hs.getOwn.intsAt) HR2.out (upd_same _ _ _) (by decide) (by rw [HLL.out]; omega) HTJ.out)
      rw [HLL.out] at HTG
      clear hk9 HR
      go_wp2_with fail
      refine HTG.out.mono ?_
      rintro e y4 ⟨rfl, h5⟩
      rw [upd_upd] at h5
      have H5 := Lib.hid h5.tail.tail
      clear h5 HTG
      go_wp2_with fail
      go_ret
      exact ⟨rfl, H5.out⟩

set_option maxRecDepth 100000 in
set_option maxHeartbeats 1000000 in
theorem blok_lead (b : BlkX) (ua : Option Addr) (uc : Nat) (va : Option Addr) (vc : Nat) (hb : Cap l (fun x => BlkAt x b ua uc va vc)) (hwf : ∀ e ∈ b.envs, e.wf) (h : Sys w m l) (hw : m 0 = worldT p d X) (hT : X.T.length ≤ 900000000) :
    Calls Try.prog 71 #[.pointer (some ⟨p, 0, none⟩), .agg (bval b ua uc va vc).toArray] w fun e w' => e = .returned (.int .i64 (dg (blkX X b).T (leadB (blkD X b)))) ∧ Sys w' (upd m 0 (worldT p d (leadX X b))) l := by
  obtain ⟨hl1, hl2⟩ := (hb w m h).lens
  obtain ⟨nb, x1, EN1, EX1, ES1, H1⟩ := h.box (.cells #[.int .i64 b.view, .int .i64 b.author, .int .i64 b.jv, .int .i64 b.jb, .slice ua b.by_.length uc, .slice va b.envs.length vc] 65 (0, 0))
  have HD := Lib.hid (blok_digest b ua uc va vc hb.push hwf H1.out hw hT)
  change Hid (Calls Try.prog 100 #[.pointer (some ⟨p, 0, none⟩), .agg #[.int .i64 b.view, .int .i64 b.author, .int .i64 b.jv, .int .i64 b.jb, .slice ua b.by_.length uc, .slice va b.envs.length vc]] x1 _) at HD
  have hbb := H1.out.nth 0 rfl
  have HTJ : Hid ((blkX X b).T.length ≤ 1000000000) := by
    have h1 := (blkX_ext X b).len.2
    show _ ≤ _
    omega
  change Calls Try.prog 71 #[.pointer (some ⟨p, 0, none⟩), .agg #[.int .i64 b.view, .int .i64 b.author, .int .i64 b.jv, .int .i64 b.jb, .slice ua b.by_.length uc, .slice va b.envs.length vc]] w _
  clear h hb hwf hT hl1 hl2
  go_enter Try.func71, Try.ntmps71
  go_upto_region 1 with fail
  rw [EX1.out, EN1.out]
  go_wp2_with (refine wpList_load_row rfl 65 _ rfl nb rfl _ _ _ _ hbb Try.underlying65 rfl size6B ?_)
  refine HD.out.mono ?_
  rintro e x2 ⟨rfl, h2⟩
  obtain ⟨D, hD⟩ : ∃ D, D = blkD X b := ⟨_, rfl⟩
  rw [← hD]
  have HG := Lib.hid (world_tagged (w := x2.alloc (.cells #[.int .i64 D] 3)) [108, 101, 97, 100] [D] (some ⟨x2.heap.size, 0, none⟩) 1 (fun w' m' h' => ints_const (t := [D]) h'.getBlk) (h2.alloc (.cells #[.int .i64 D] 3) rfl) (upd_same _ _ _) (by decide) (by simp) HTJ.out)
  have HD2 := Lib.hid hD
  clear h2 hbb HD hD
  go_wp2_with fail
  refine HG.out.mono ?_
  rintro e x3 ⟨rfl, h3⟩
  rw [upd_upd] at h3
  have H3 := Lib.hid h3.tail.tail
  clear h3 HG
  go_wp2_with fail
  go_ret
  exact ⟨by rw [HD2.out]; rfl, by unfold leadX; rw [← HD2.out]; exact H3.out⟩
end
end Go.Proofs.Ytcfhkpjheemkgaa
