/-
  Blocks: signed by their author; their envelopes signed and unlike; whether a block may be.
-/
import Derived.Test.YtcfhkpjheemkgaaBlok
namespace Go.Proofs.Ytcfhkpjheemkgaa
set_option linter.unusedSectionVars false
set_option linter.unnecessarySimpa false
set_option linter.unusedSimpArgs false
set_option linter.unusedVariables false
open Go.RowKit Go.MapKept

def signBlk (X : WX) (b : BlkX) : WX := (blkX X b).signB b.author (leadB (blkD X b))
def signedB (X : WX) (b : BlkX) : Bool := decide (b.author ∈ X.f (dg (blkX X b).T (leadB (blkD X b))))
def okE (X : WX) (e : EnvX) : Bool := decide ((0 ≤ e.client ∧ e.client ≤ 999) ∧ 1000 + e.client ∈ sg X (envB e))
def unlikeB (X : WX) (E : List EnvX) : Bool := decide ((E.map envB).Nodup ∧ ∀ e ∈ E, okE X e = true)
def blkOkB (X : WX) (c : CfgX) (b : BlkX) : Bool := decide (1 ≤ b.view) && decide (b.author = leadOf c b.view) && signedB X b && (qcB X c b.jv b.jb b.by_ && decide (b.jv < b.view) && decide ((b.envs.length : Int) ≤ c.bt) && unlikeB X b.envs)
theorem okE_ext {X Y : WX} {n : Nat} (hX : X.Ok) (h : X.Ext n Y) (e : EnvX) : okE Y e = okE X e := by unfold okE; rw [sg_ext hX h]
theorem envsX_okx {X : WX} (hX : X.Ok) (E : List EnvX) : (envsX X E).Ok := (envsX_ext X E).ok hX
theorem alook_const (L : List Int) (v : Value) (x : Int) : alook (L.map fun d => (d, v)) x = if x ∈ L then some v else none := by
  induction L with
  | nil => rfl
  | cons a L ih =>
    simp only [List.map_cons, alook, ih, List.mem_cons]
    by_cases h : a = x
    · simp [h]
    · simp [h, Ne.symm h]
theorem unlikeB_no {X : WX} {E : List EnvX} {j : Nat} (hj : j < E.length) (h : okE X (E.getD j default) = false ∨ envB (E.getD j default) ∈ (E.take j).map envB) : unlikeB X E = false := by
  unfold unlikeB
  rw [decide_eq_false_iff_not]
  rintro ⟨h1, h2⟩
  have hm : E.getD j default ∈ E := by rw [List.getD_eq_getElem?_getD, List.getElem?_eq_getElem hj]; exact List.getElem_mem hj
  rcases h with h | h
  · rw [h2 _ hm] at h; cases h
  · have h3 : (E.take (j + 1)).map envB = (E.take j).map envB ++ [envB (E.getD j default)] := by
      rw [List.take_succ_eq_append_getElem hj, List.map_append, List.getD_eq_getElem?_getD, List.getElem?_eq_getElem hj]; rfl
    have h4 : ((E.take (j + 1)).map envB).Nodup := by rw [List.map_take]; exact h1.sublist (List.take_sublist _ _)
    rw [h3] at h4
    exact (List.nodup_append.1 h4).2.2 _ h _ (by simp) rfl
section
variable {w w' : World} {m : Nat → Thing} {l : List Thing} {p : Nat} {d : Wd} {X : WX}
def DoneX (m : Nat → Thing) (l : List Thing) (p : Nat) (d : Wd) (X : WX) (n : Nat) (r : Value) (e : Ending) (w' : World) : Prop := e = .returned r ∧ ∃ X', X.Ext n X' ∧ Sys w' (upd m 0 (worldT p d X')) l

set_option maxRecDepth 100000 in
set_option maxHeartbeats 1000000 in
theorem blok_sign (b : BlkX) (ua : Option Addr) (uc : Nat) (va : Option Addr) (vc : Nat) (hb : Cap l (fun x => BlkAt x b ua uc va vc)) (hwf : ∀ e ∈ b.envs, e.wf) (hau : (Lit.int .i64 b.author).wf = true) (h : Sys w m l) (hw : m 0 = worldT p d X) (hT : X.T.length ≤ 900000000) :
    Calls Try.prog 70 #[.pointer (some ⟨p, 0, none⟩), .agg (bval b ua uc va vc).toArray] w fun e w' => e = .returned (.tuple #[]) ∧ Sys w' (upd m 0 (worldT p d (signBlk X b))) l := by
  obtain ⟨nb, x1, EN1, EX1, ES1, H1⟩ := h.box (.cells #[.int .i64 b.view, .int .i64 b.author, .int .i64 b.jv, .int .i64 b.jb, .slice ua b.by_.length uc, .slice va b.envs.length vc] 65 (0, 0))
  have HL := Lib.hid (blok_lead b ua uc va vc hb.push hwf H1.out.drew hw hT)
  change Hid (Calls Try.prog 71 #[.pointer (some ⟨p, 0, none⟩), .agg #[.int .i64 b.view, .int .i64 b.author, .int .i64 b.jv, .int .i64 b.jb, .slice ua b.by_.length uc, .slice va b.envs.length vc]] _ _) at HL
  change Calls Try.prog 70 #[.pointer (some ⟨p, 0, none⟩), .agg #[.int .i64 b.view, .int .i64 b.author, .int .i64 b.jv, .int .i64 b.jb, .slice ua b.by_.length uc, .slice va b.envs.length vc]] w _
  have HAU := Lib.hid hau
  clear h hb hwf hT hau
  go_enter Try.func70, Try.ntmps70
  go_upto_region 1 with fail
  rw [EX1.out, EN1.out]
  refine wp_region_seq (fun x : World => x.heap[nb]? = some (.cells #[.int .i64 b.view, .int .i64 b.author, .int .i64 b.jv, .int .i64 b.jb, .slice ua b.by_.length uc, .slice va b.envs.length vc] 65 (0, 0))) anyW [] [(0, 0, some 4), (2, 0, some 6), (3, 1, some 7), (4, 0, some 8), (5, 1, some 9), (1, 2, some 5), (6, 2, some 10), (7, 2, some 11)] (by kernel_rfl) (by kernel_rfl) (fun _ _ _ d _ h => by cases d <;> exact h) (H1.out.drew.nth 0 rfl) anyW.i ?_
  repeat (first | (refine seqW (v := ?_) rfl rfl (by kernel_rfl) ?_ ?_; rotate_left; (focus ((intro x; go_simp); try (with_reducible rfl))); try simp only [Act.put, List.setIfInBounds_toArray, List.set_cons_zero, List.set_cons_succ]) | (refine seqS (v := ?_) rfl rfl (by kernel_rfl) ?_ ?_; rotate_left; (focus (intro x hS; first | (refine (exec_row 65 _ (by rfl) nb (by rfl) _ _ _ _ hS Try.underlying65 rfl size6B).trans ?_; with_reducible rfl) | (obtain ⟨c0, c1, c2, c3, c4, c5⟩ := cells6 hS; go_simp; try (with_reducible rfl)))); try simp only [Act.put, List.setIfInBounds_toArray, List.set_cons_zero, List.set_cons_succ]) | (refine seqX rfl rfl (by kernel_rfl) ?_; try simp only [Act.put, List.setIfInBounds_toArray, List.set_cons_zero, List.set_cons_succ]))
  refine seqL rfl rfl (fun K hK => ?_)
  go_simp
  go_at_call 37
  refine (world_signs H1.out.drew hw).mono ?_
  rintro e w2 ⟨rfl, rfl⟩
  refine hK.out _ _ anyW.i ?_ (fun _ hSt => ?_)
  · exact H1.out.drew.nth 0 rfl
  clear hSt hK K
  try simp only [Act.put, List.setIfInBounds_toArray, List.set_cons_zero, List.set_cons_succ]
  refine seqL rfl rfl (fun K hK => ?_)
  go_simp
  go_at_call 71
  refine (HL.out).mono ?_
  rintro e w3 ⟨rfl, h3⟩
  have H3 := Lib.hid h3
  clear h3
  refine hK.out _ _ anyW.i ?_ (fun _ hSt => ?_)
  · exact H3.out.nth 0 rfl
  clear hSt hK K
  try simp only [Act.put, List.setIfInBounds_toArray, List.set_cons_zero, List.set_cons_succ]
  refine seqL rfl rfl (fun K hK => ?_)
  go_simp
  go_at_call 38
  refine (world_sign b.author (dg (blkX X b).T (leadB (blkD X b))) HAU.out H3.out (upd_same _ _ _)).mono ?_
  rintro e w4 ⟨rfl, h4⟩
  rw [upd_upd] at h4
  have H4 := Lib.hid h4
  clear h4
  refine hK.out _ _ anyW.i ?_ (fun _ hSt => ?_)
  · exact H4.out.nth 0 rfl
  clear hSt hK K
  try simp only [Act.put, List.setIfInBounds_toArray, List.set_cons_zero, List.set_cons_succ]
  refine seqE ?_
  go_wp2_with fail
  go_end0
  exact ⟨rfl, H4.out.tail⟩

set_option maxRecDepth 100000 in
set_option maxHeartbeats 4000000 in
theorem blok_unlike (E : List EnvX) (va : Option Addr) (vc n2 : Nat) (hn : E.length = n2) (hn2 : n2 ≤ 2000000) (hb : Cap l (fun x => EnvsAt x va E)) (hwf : ∀ e ∈ E, e.wf) (h : Sys w m l) (hw : m 0 = worldT p d X) (hX : X.Ok) (hT : X.T.length ≤ 900000000) :
    Calls Try.prog 72 #[.pointer (some ⟨p, 0, none⟩), .slice va n2 vc] w (DoneX m l p d X n2 (.bool (unlikeB X E))) := by
  have HB := Lib.hid hb
  have HWF := Lib.hid hwf
  have HTL := Lib.hid hT
  have HN2 := Lib.hid hn
  have HXO := Lib.hid hX
  obtain ⟨ms, hms⟩ : ∃ n, n = w.heap.size := ⟨_, rfl⟩
  obtain ⟨w1, hw1⟩ : ∃ y, y = w.alloc (.map #[] 0) := ⟨_, rfl⟩
  have h1 := h.push (t := mapT intKey ms []) ((Chg.refl _ _).alloc (.map #[] 0)) (F := (· = ms)) ⟨MapOf.made _ _ hms, rfl⟩ (fun k e => by have e : k = _ := e; omega)
  rw [← hw1] at h1
  have H1 := Lib.hid h1
  have HW1 := Lib.hid hw1
  have HMS := Lib.hid hms
  have hmm := @run_makeMap Try.prog
  clear h hb hwf hT hn hX h1 hw1 hms
  go_enter Try.func72, Try.ntmps72
  go_upto_region 2 with fail
  rw [← HW1.out, ← HMS.out]
  clear hmm HW1 HMS
  go_wp2_with fail
  go_loopw [12] (fun i wr => ∃ j : Nat, j ≤ n2 ∧ i = .int .i64 j ∧ Hid (((E.take j).map envB).Nodup ∧ ∀ e ∈ E.take j, okE X e = true) ∧ Sys wr (upd m 0 (worldT p d (envsX X (E.take j)))) (mapT intKey ms ((envsD X (E.take j)).map fun d => (d, Value.int .i64 1)) :: l)) (fun i _ => n2 - (intOf i).toNat)
  case atStart => exact ⟨0, by omega, rfl, ⟨by simp, by simp⟩, by
    rw [List.take_zero, show envsX X [] = X from rfl, upd_self hw]
    exact H1.out⟩
  case round =>
    obtain ⟨j, hj, rfl, HU, hR⟩ := hrel
    have HR := Lib.hid hR
    by_cases hlt : j < n2
    · have hjl : (j : Int) < (n2 : Int) := by omega
      have hwrap : IntKind.i64.wrap ((j : Int) + 1) = (j : Int) + 1 := by rw [IntKind.wrap_i64]; omega
      obtain ⟨⟨ec, en, ef, ei⟩, he⟩ : ∃ e, e = E.getD j default := ⟨_, rfl⟩
      have hel : j < E.length := by rw [HN2.out]; exact hlt
      have hat := (HB.out wr _ hR.tail)
      obtain ⟨eb, eo, rfl⟩ := hat.some_ hel
      have hce := hat.get hel
      rw [← he] at hce
      have HCE : Hid (∀ (k : Nat) (u : Value), ([.int .i64 ec, .int .u64 en, .int .u64 ef, .int .i64 ei] : List Value)[k]? = some u → wr.cell? ⟨eb, eo + j * 4 + k, none⟩ = some u) := hce
      have HWE : Hid (EnvX.wf ⟨ec, en, ef, ei⟩) := by
        show EnvX.wf _
        rw [he, List.getD_eq_getElem?_getD, List.getElem?_eq_getElem hel]
        exact HWF.out _ (List.getElem_mem hel)
      have HTK := Lib.hid (envsX_take X E j hel)
      have HDK := Lib.hid (envsD_take X E j hel)
      have HNO := Lib.hid (fun h => unlikeB_no (X := X) hel h)
      have HTS : Hid (E.take (j + 1) = E.take j ++ [⟨ec, en, ef, ei⟩]) := by
        show _ = _
        rw [he, List.take_succ_eq_append_getElem hel, List.getD_eq_getElem?_getD, List.getElem?_eq_getElem hel]; rfl
      rw [← he] at HTK HDK HNO
      have HTJ : Hid ((envsX X (E.take j)).T.length ≤ 999000000) := by
        have h1 := (envsX_ext X (E.take j)).len.2
        have h2 : (E.take j).length ≤ j := List.length_take_le _ _
        have := HTL.out
        show _ ≤ _
        omega
      obtain ⟨ne, y1, EN3, EX3, ES3, H3⟩ := HR.out.box (.cells #[.int .i64 ec, .int .u64 en, .int .u64 ef, .int .i64 ei] 33 (0, 0))
      clear hat hce he hR
      go_upto_region 5 with (refine wpList_load_at rfl 33 _ rfl eb (eo + j * 4) rfl [.int .i64 ec, .int .u64 en, .int .u64 ef, .int .i64 ei] _ HCE.out Try.underlying33 rfl size4 ?_)
      rw [EX3.out, EN3.out]
      have hbe := H3.out.nth 0 rfl
      go_wp2_with (refine wpList_load_row rfl 33 _ rfl ne rfl _ _ _ _ hbe Try.underlying33 rfl size4 ?_)
      refine (world_digest ⟨ec, en, ef, ei⟩ HWE.out H3.out (upd_same _ _ _) (by have := HTJ.out; omega)).mono ?_
      rintro e y2 ⟨rfl, h4⟩
      rw [upd_upd] at h4
      obtain ⟨dj, hdj⟩ : ∃ x, x = dg (envsX X (E.take j)).T (envB ⟨ec, en, ef, ei⟩) := ⟨_, rfl⟩
      rw [← hdj]
      have H4 : Hid (Sys y2 (upd m 0 (worldT p d (envsX X (E.take (j + 1))))) (blk ne (.cells #[.int .i64 ec, .int .u64 en, .int .u64 ef, .int .i64 ei] 33 (0, 0)) :: mapT intKey ms ((envsD X (E.take j)).map fun d => (d, Value.int .i64 1)) :: l)) := by rw [HTK.out]; exact h4
      have HDJ := Lib.hid hdj
      clear h4 hbe hdj
      go_upto_region 6 with fail
      have hmp := H4.out.tail.getMap
      by_cases hin : dj ∈ envsD X (E.take j)
      · have hlk : alook ((envsD X (E.take j)).map fun d => (d, Value.int .i64 1)) dj = some (.int .i64 1) := by rw [alook_const, if_pos hin]
        have e1 := hmp.lookup (P := Try.prog) Try.underlying75 Try.underlying3 (zeroInt y2) dj false
        rw [hlk] at e1
        obtain ⟨y3, hu, hmu, hcu, -⟩ := hmp.update (P := Try.prog) Try.underlying75 Try.underlying3 dj (.int .i64 2)
        have H5 := Lib.hid (H4.out.swap.mapTo hmu hcu)
        have e2 := (H5.out.getMap).lookup (P := Try.prog) Try.underlying75 Try.underlying3 (zeroInt y3) dj false
        rw [alook_aset, if_pos rfl] at e2
        simp only [intKey, Option.getD] at e1 e2 hu
        have hNo : unlikeB X E = false := HNO.out (.inr (by
          have h := hin
          unfold envsD at h
          obtain ⟨x, hx, hx2⟩ := List.mem_map.1 h
          rw [HDJ.out] at hx2
          exact List.mem_map.2 ⟨x, hx, dg_inj (mem_envsX hx X) hx2⟩))
        have HNN := Lib.hid hNo
        clear hmp hlk hin hNo hmu hcu
        go_wp2_with fail
        go_ret
        exact ⟨by rw [HNN.out]; rfl, _, (envsX_ext X (E.take (j + 1))).mono (Nat.le_trans (List.length_take_le _ _) (by omega)), H5.out.tail.tail⟩
      · have hlk : alook ((envsD X (E.take j)).map fun d => (d, Value.int .i64 1)) dj = none := by rw [alook_const, if_neg hin]
        have e1 := hmp.lookup (P := Try.prog) Try.underlying75 Try.underlying3 (zeroInt y2) dj false
        rw [hlk] at e1
        obtain ⟨y3, hu, hmu, hcu, -⟩ := hmp.update (P := Try.prog) Try.underlying75 Try.underlying3 dj (.int .i64 1)
        rw [aset_none hlk] at hmu
        have H5 : Hid (Sys y3 (upd m 0 (worldT p d (envsX X (E.take (j + 1))))) (mapT intKey ms ((envsD X (E.take (j + 1))).map fun d => (d, Value.int .i64 1)) :: blk ne (.cells #[.int .i64 ec, .int .u64 en, .int .u64 ef, .int .i64 ei] 33 (0, 0)) :: l)) := by
          have h := H4.out.swap.mapTo hmu hcu
          rw [HDK.out, List.map_append, ← HDJ.out]
          exact h
        have hlk2 : alook ((envsD X (E.take (j + 1))).map fun d => (d, Value.int .i64 1)) dj = some (.int .i64 1) := by rw [alook_const, if_pos (by rw [HDK.out, ← HDJ.out]; simp)]
        have e2 := (H5.out.getMap).lookup (P := Try.prog) Try.underlying75 Try.underlying3 (zeroInt y3) dj false
        rw [hlk2] at e2
        simp only [intKey, Option.getD] at e1 e2 hu
        have hbe := H5.out.nth 1 rfl
        have HND : Hid (((E.take (j + 1)).map envB).Nodup) := by
          show List.Nodup _
          rw [HTS.out, List.map_append]
          refine List.nodup_append.2 ⟨HU.out.1, by simp, fun a ha b hb e => hin ?_⟩
          simp at hb
          obtain ⟨x, hx, rfl⟩ := List.mem_map.1 ha
          rw [HDJ.out, ← hb, ← e]
          exact List.mem_map.2 ⟨x, hx, rfl⟩
        have HTJ1 : Hid ((envsX X (E.take (j + 1))).T.length ≤ 1000000000) := by
          have h1 := (envsX_ext X (E.take (j + 1))).len.2
          have h2 : (E.take (j + 1)).length ≤ j + 1 := List.length_take_le _ _
          have := HTL.out
          show _ ≤ _
          omega
        have HDG : Hid ((envsX X (E.take (j + 1))).digest (envB ⟨ec, en, ef, ei⟩) = envsX X (E.take (j + 1))) := by
          show _ = _
          unfold WX.digest addT
          rw [if_pos (by rw [HTK.out]; exact mem_digest _ _)]
        have HSG : Hid (sg (envsX X (E.take (j + 1))) (envB ⟨ec, en, ef, ei⟩) = sg X (envB ⟨ec, en, ef, ei⟩)) := sg_ext HXO.out (envsX_ext X _) _
        have HEX : Hid (X.Ext n2 (envsX X (E.take (j + 1)))) := (envsX_ext X (E.take (j + 1))).mono (Nat.le_trans (List.length_take_le _ _) (by omega))
        clear hmp hlk hlk2 hin hmu hcu
        by_cases hc : 0 ≤ ec ∧ ec ≤ 999
        · have HOK := Lib.hid (world_ok ec en ef ei hc HWE.out H5.out (upd_same _ _ _) HTJ1.out)
          rw [upd_upd, HDG.out] at HOK
          have hq : (decide (1000 + ec ∈ (envsX X (E.take (j + 1))).f (dg (envsX X (E.take (j + 1))).T (envB ⟨ec, en, ef, ei⟩)))) = okE X ⟨ec, en, ef, ei⟩ := by
            have := HSG.out
            unfold sg at this
            rw [this]
            unfold okE
            simp [hc, sg]
          rw [hq] at HOK
          clear hq hc
          cases hk : okE X ⟨ec, en, ef, ei⟩ with
          | true =>
            rw [hk] at HOK
            have HKK := Lib.hid hk
            clear hk
            obtain ⟨f0, f1, f2, f3⟩ := cells4 hbe
            go_wp2_with fail
            refine HOK.out.mono ?_
            rintro e y4 ⟨rfl, h6⟩
            have H6 := Lib.hid h6
            clear h6 hbe HOK f0 f1 f2 f3
            go_wp2_with fail
            go_roundw
            case rel => exact ⟨j + 1, by omega, by go_num, ⟨HND.out, fun e he => by
              rw [HTS.out] at he
              rcases List.mem_append.1 he with h | h
              · exact HU.out.2 e h
              · simp at h; rw [h]; exact HKK.out⟩, H6.out.swap.tail⟩
            case measure => simp [intOf]; omega
          | false =>
            rw [hk] at HOK
            have HNN := Lib.hid (HNO.out (.inl hk))
            clear hk
            obtain ⟨f0, f1, f2, f3⟩ := cells4 hbe
            go_wp2_with fail
            refine HOK.out.mono ?_
            rintro e y4 ⟨rfl, h6⟩
            have H6 := Lib.hid h6
            clear h6 hbe HOK f0 f1 f2 f3
            go_wp2_with fail
            go_ret
            exact ⟨by rw [HNN.out]; rfl, _, HEX.out, H6.out.tail.tail⟩
        · have HOK := Lib.hid (world_ok_no (p := p) ec en ef ei hc H5.out)
          have HNN := Lib.hid (HNO.out (.inl (by unfold okE; simp only [decide_eq_false_iff_not]; exact fun h => hc h.1)))
          clear hc
          obtain ⟨f0, f1, f2, f3⟩ := cells4 hbe
          go_wp2_with fail
          refine HOK.out.mono ?_
          rintro e y4 ⟨rfl, h6⟩
          have H6 := Lib.hid h6
          clear h6 hbe HOK f0 f1 f2 f3
          go_wp2_with fail
          go_ret
          exact ⟨by rw [HNN.out]; rfl, _, HEX.out, H6.out.tail.tail⟩
    · obtain rfl : j = n2 := by omega
      have HYY : Hid (unlikeB X E = true) := by
        have h := HU.out
        rw [List.take_of_length_le (by rw [HN2.out]; exact Nat.le_refl _)] at h
        show _ = _
        unfold unlikeB
        rw [decide_eq_true_eq]; exact h
      have HEX : Hid (X.Ext j (envsX X (E.take j))) := (envsX_ext X (E.take j)).mono (List.length_take_le _ _)
      clear hR
      go_wp2_with fail
      go_ret
      exact ⟨by rw [HYY.out]; rfl, _, HEX.out, HR.out.tail⟩

set_option maxRecDepth 100000 in
set_option maxHeartbeats 4000000 in
theorem blok_ok (c : CfgX) (hg : c.Good) (b : BlkX) (ua : Option Addr) (uc : Nat) (va : Option Addr) (vc : Nat) (hb : Cap l (fun x => BlkAt x b ua uc va vc)) (hwf : ∀ e ∈ b.envs, e.wf) (hbv : -9223372036854775808 ≤ b.view ∧ b.view ≤ 9223372036854775807) (h : Sys w m l) (hw : m 0 = worldT p d X) (hX : X.Ok) (hr : rootB ∈ X.T) (hT : X.T.length ≤ 800000000) :
    Calls Try.prog 31 #[.pointer (some ⟨p, 0, none⟩), .agg c.cells.toArray, .agg (bval b ua uc va vc).toArray] w (DoneX m l p d X (2 * b.envs.length + 3) (.bool (blkOkB X c b))) := by
  obtain ⟨nc, x1, EN1, EX1, ES1, H1⟩ := h.box (.cells #[.int .i64 c.f, .int .i64 c.n, .int .i64 c.cl, .int .i64 c.ba, .int .i64 c.mo, .int .i64 c.bt, .int .i64 c.po, .int .i64 c.wi] 49 (0, 0))
  obtain ⟨nb, x2, EN2, EX2, ES2, H2⟩ := Sys.box' H1 ES1 (.cells #[.int .i64 b.view, .int .i64 b.author, .int .i64 b.jv, .int .i64 b.jb, .slice ua b.by_.length uc, .slice va b.envs.length vc] 65 (0, 0))
  obtain ⟨hl1, hl2⟩ := (hb w m h).lens
  have HG := Lib.hid hg
  have HB := Lib.hid hb
  have HWF := Lib.hid hwf
  have HBV := Lib.hid hbv
  have HXO := Lib.hid hX
  have HRT := Lib.hid hr
  have HTL := Lib.hid hT
  have HL1 := Lib.hid hl1
  have HL2 := Lib.hid hl2
  change Calls Try.prog 31 #[.pointer (some ⟨p, 0, none⟩), .agg #[.int .i64 c.f, .int .i64 c.n, .int .i64 c.cl, .int .i64 c.ba, .int .i64 c.mo, .int .i64 c.bt, .int .i64 c.po, .int .i64 c.wi], .agg #[.int .i64 b.view, .int .i64 b.author, .int .i64 b.jv, .int .i64 b.jb, .slice ua b.by_.length uc, .slice va b.envs.length vc]] w _
  clear h hg hb hwf hbv hX hr hT hl1 hl2
  by_cases h1 : b.view < 1
  · have d1 : decide (b.view < 1) = true := by simpa using h1
    have HR : Hid (blkOkB X c b = false) := by show _ = _; unfold blkOkB; simp; omega
    clear h1
    go_enter Try.func31, Try.ntmps31
    go_upto_region 1 with fail
    rw [EX1.out, EX2.out, EN2.out, EN1.out]
    refine wp_region_seq (fun x : World => x.heap[nb]? = some (.cells #[.int .i64 b.view, .int .i64 b.author, .int .i64 b.jv, .int .i64 b.jb, .slice ua b.by_.length uc, .slice va b.envs.length vc] 65 (0, 0)) ∧ x.heap[nc]? = some (.cells #[.int .i64 c.f, .int .i64 c.n, .int .i64 c.cl, .int .i64 c.ba, .int .i64 c.mo, .int .i64 c.bt, .int .i64 c.po, .int .i64 c.wi] 49 (0, 0))) anyW [] [(0, 0, some 7), (1, 1, some 8), (2, 0, some 9), (3, 0, some 10), (4, 4, some 11), (5, 4, some 12), (6, 4, some 13), (7, 4, some 14), (8, 4, some 15), (9, 4, some 16), (10, 4, some 17), (11, 0, some 18), (12, 0, some 19), (13, 4, some 20), (14, 4, some 21), (15, 4, some 22), (16, 4, some 23), (17, 4, some 24), (18, 4, some 25), (19, 4, some 26), (20, 4, some 27), (21, 4, some 28), (22, 0, some 29)] (by kernel_rfl) (by kernel_rfl) (fun _ _ _ d _ h => by cases d <;> exact h) ⟨H2.out.drew.nth 0 rfl, H2.out.drew.nth 1 rfl⟩ anyW.i ?_
    repeat (first | (refine seqW (v := ?_) rfl rfl (by kernel_rfl) ?_ ?_; rotate_left; (focus ((intro x; go_simp); try (with_reducible rfl))); try simp only [Act.put, List.setIfInBounds_toArray, List.set_cons_zero, List.set_cons_succ]) | (refine seqS (v := ?_) rfl rfl (by kernel_rfl) ?_ ?_; rotate_left; (focus (intro x hS; first | (refine (exec_row 65 _ (by rfl) nb (by rfl) _ _ _ _ hS.1 Try.underlying65 rfl size6B).trans ?_; with_reducible rfl) | (refine (exec_row 49 _ (by rfl) nc (by rfl) _ _ _ _ hS.2 Try.underlying49 rfl size8).trans ?_; with_reducible rfl) | (obtain ⟨c0, c1, c2, c3, c4, c5⟩ := cells6 hS.1; go_simp; try (with_reducible rfl)))); try simp only [Act.put, List.setIfInBounds_toArray, List.set_cons_zero, List.set_cons_succ]) | (refine seqX rfl rfl (by kernel_rfl) ?_; try simp only [Act.put, List.setIfInBounds_toArray, List.set_cons_zero, List.set_cons_succ]))
    refine seqE ?_
    go_wp2_with fail
    go_ret
    exact ⟨by rw [HR.out]; rfl, X, (WX.Ext.refl X).mono (Nat.zero_le _), by rw [upd_self hw]; exact H2.out.drew.tail.tail⟩
  · have d1 : decide (b.view < 1) = false := by simpa using h1
    by_cases h2 : b.author = leadOf c b.view
    · have d2 : (b.author == leadOf c b.view) = true := by simpa using h2
      have d2' : (b.author != leadOf c b.view) = false := by simpa using h2
      obtain ⟨sb, HSG⟩ : ∃ sb, Hid (decide (b.author ∈ (leadX X b).f (dg (blkX X b).T (leadB (blkD X b)))) = sb) := ⟨_, rfl⟩
      have HSB : Hid (signedB X b = sb) := by
        show _ = _
        rw [← HSG.out]
        unfold signedB
        rw [show (leadX X b).f = X.f from ((leadX_ext X b).f)]
      cases sb with
      | false =>
        have HR : Hid (blkOkB X c b = false) := by show _ = _; unfold blkOkB; rw [HSB.out]; simp
        clear h1 h2
        go_enter Try.func31, Try.ntmps31
        go_upto_region 1 with fail
        rw [EX1.out, EX2.out, EN2.out, EN1.out]
        refine wp_region_seq (fun x : World => x.heap[nb]? = some (.cells #[.int .i64 b.view, .int .i64 b.author, .int .i64 b.jv, .int .i64 b.jb, .slice ua b.by_.length uc, .slice va b.envs.length vc] 65 (0, 0)) ∧ x.heap[nc]? = some (.cells #[.int .i64 c.f, .int .i64 c.n, .int .i64 c.cl, .int .i64 c.ba, .int .i64 c.mo, .int .i64 c.bt, .int .i64 c.po, .int .i64 c.wi] 49 (0, 0))) anyW [] [(0, 0, some 7), (1, 1, some 8), (2, 0, some 9), (3, 0, some 10), (4, 0, some 11), (5, 1, some 12), (6, 1, some 13), (7, 0, some 14), (8, 1, some 15), (9, 2, some 16), (10, 0, some 17), (11, 0, some 18), (12, 0, some 19), (13, 0, some 20), (15, 0, some 22), (16, 1, some 23), (17, 0, some 24), (18, 1, some 25), (14, 2, some 21), (19, 2, some 26), (20, 2, some 27), (21, 0, some 28), (22, 0, some 29)] (by kernel_rfl) (by kernel_rfl) (fun _ _ _ d _ h => by cases d <;> exact h) ⟨H2.out.drew.nth 0 rfl, H2.out.drew.nth 1 rfl⟩ anyW.i ?_
        repeat (first | (refine seqW (v := ?_) rfl rfl (by kernel_rfl) ?_ ?_; rotate_left; (focus ((intro x; go_simp); try (with_reducible rfl))); try simp only [Act.put, List.setIfInBounds_toArray, List.set_cons_zero, List.set_cons_succ]) | (refine seqS (v := ?_) rfl rfl (by kernel_rfl) ?_ ?_; rotate_left; (focus (intro x hS; first | (refine (exec_row 65 _ (by rfl) nb (by rfl) _ _ _ _ hS.1 Try.underlying65 rfl size6B).trans ?_; with_reducible rfl) | (refine (exec_row 49 _ (by rfl) nc (by rfl) _ _ _ _ hS.2 Try.underlying49 rfl size8).trans ?_; with_reducible rfl) | (obtain ⟨c0, c1, c2, c3, c4, c5⟩ := cells6 hS.1; go_simp; try (with_reducible rfl)))); try simp only [Act.put, List.setIfInBounds_toArray, List.set_cons_zero, List.set_cons_succ]) | (refine seqX rfl rfl (by kernel_rfl) ?_; try simp only [Act.put, List.setIfInBounds_toArray, List.set_cons_zero, List.set_cons_succ]))
        refine seqL rfl rfl (fun K hK => ?_)
        go_simp
        go_at_call 32
        refine (blok_lead_of c HG.out b.view HBV.out (H2.out.drew)).mono ?_
        rintro e w3 ⟨rfl, h3⟩
        have H3 := Lib.hid h3
        clear h3
        refine hK.out _ _ anyW.i ?_ (fun _ hSt => ?_)
        · exact ⟨H3.out.nth 0 rfl, H3.out.nth 1 rfl⟩
        clear hSt hK K
        try simp only [Act.put, List.setIfInBounds_toArray, List.set_cons_zero, List.set_cons_succ]
        repeat (first | (refine seqW (v := ?_) rfl rfl (by kernel_rfl) ?_ ?_; rotate_left; (focus ((intro x; go_simp); try (with_reducible rfl))); try simp only [Act.put, List.setIfInBounds_toArray, List.set_cons_zero, List.set_cons_succ]) | (refine seqS (v := ?_) rfl rfl (by kernel_rfl) ?_ ?_; rotate_left; (focus (intro x hS; first | (refine (exec_row 65 _ (by rfl) nb (by rfl) _ _ _ _ hS.1 Try.underlying65 rfl size6B).trans ?_; with_reducible rfl) | (refine (exec_row 49 _ (by rfl) nc (by rfl) _ _ _ _ hS.2 Try.underlying49 rfl size8).trans ?_; with_reducible rfl) | (obtain ⟨c0, c1, c2, c3, c4, c5⟩ := cells6 hS.1; go_simp; try (with_reducible rfl)))); try simp only [Act.put, List.setIfInBounds_toArray, List.set_cons_zero, List.set_cons_succ]) | (refine seqX rfl rfl (by kernel_rfl) ?_; try simp only [Act.put, List.setIfInBounds_toArray, List.set_cons_zero, List.set_cons_succ]))
        refine seqL rfl rfl (fun K hK => ?_)
        go_simp
        go_at_call 37
        refine (world_signs H3.out hw).mono ?_
        rintro e w4 ⟨rfl, rfl⟩
        refine hK.out _ _ anyW.i ?_ (fun _ hSt => ?_)
        · exact ⟨H3.out.nth 0 rfl, H3.out.nth 1 rfl⟩
        clear hSt hK K
        try simp only [Act.put, List.setIfInBounds_toArray, List.set_cons_zero, List.set_cons_succ]
        refine seqL rfl rfl (fun K hK => ?_)
        go_simp
        go_at_call 71
        refine (blok_lead b ua uc va vc HB.out.push.push HWF.out H3.out hw (by have := HTL.out; omega)).mono ?_
        rintro e w5 ⟨rfl, h5⟩
        have H5 := Lib.hid h5
        clear h5
        refine hK.out _ _ anyW.i ?_ (fun _ hSt => ?_)
        · exact ⟨H5.out.nth 0 rfl, H5.out.nth 1 rfl⟩
        clear hSt hK K
        try simp only [Act.put, List.setIfInBounds_toArray, List.set_cons_zero, List.set_cons_succ]
        refine seqL rfl rfl (fun K hK => ?_)
        go_simp
        go_at_call 40
        refine (world_has b.author (dg (blkX X b).T (leadB (blkD X b))) H5.out (upd_same _ _ _)).mono ?_
        rintro e w6 ⟨rfl, rfl⟩
        rw [HSG.out]
        refine hK.out _ _ anyW.i ?_ (fun _ hSt => ?_)
        · exact ⟨H5.out.nth 0 rfl, H5.out.nth 1 rfl⟩
        clear hSt hK K
        try simp only [Act.put, List.setIfInBounds_toArray, List.set_cons_zero, List.set_cons_succ]
        repeat (first | (refine seqW (v := ?_) rfl rfl (by kernel_rfl) ?_ ?_; rotate_left; (focus ((intro x; go_simp); try (with_reducible rfl))); try simp only [Act.put, List.setIfInBounds_toArray, List.set_cons_zero, List.set_cons_succ]) | (refine seqS (v := ?_) rfl rfl (by kernel_rfl) ?_ ?_; rotate_left; (focus (intro x hS; first | (refine (exec_row 65 _ (by rfl) nb (by rfl) _ _ _ _ hS.1 Try.underlying65 rfl size6B).trans ?_; with_reducible rfl) | (refine (exec_row 49 _ (by rfl) nc (by rfl) _ _ _ _ hS.2 Try.underlying49 rfl size8).trans ?_; with_reducible rfl) | (obtain ⟨c0, c1, c2, c3, c4, c5⟩ := cells6 hS.1; go_simp; try (with_reducible rfl)))); try simp only [Act.put, List.setIfInBounds_toArray, List.set_cons_zero, List.set_cons_succ]) | (refine seqX rfl rfl (by kernel_rfl) ?_; try simp only [Act.put, List.setIfInBounds_toArray, List.set_cons_zero, List.set_cons_succ]))
        refine seqE ?_
        go_wp2_with fail
        go_ret
        exact ⟨by rw [HR.out]; rfl, _, (leadX_ext X b).mono (by omega), H5.out.tail.tail⟩
      | true =>
        have HEX : Hid (X.Ext (b.envs.length + 2) (leadX X b)) := leadX_ext X b
        have HTL2 : Hid ((leadX X b).T.length ≤ 900000000) := by
          have h1 := HEX.out.len.2
          have := HL2.out
          have := HTL.out
          show _ ≤ _
          omega
        have HR : Hid (blkOkB X c b = (qcB X c b.jv b.jb b.by_ && decide (b.jv < b.view) && decide ((b.envs.length : Int) ≤ c.bt) && unlikeB X b.envs)) := by
          show _ = _
          unfold blkOkB
          rw [HSB.out]
          have : (decide (1 ≤ b.view)) = true := by simp; omega
          rw [this]
          simp [h2]
        clear h1 h2
        go_enter Try.func31, Try.ntmps31
        go_upto_region 1 with fail
        rw [EX1.out, EX2.out, EN2.out, EN1.out]
        refine wp_region_seq (fun x : World => x.heap[nb]? = some (.cells #[.int .i64 b.view, .int .i64 b.author, .int .i64 b.jv, .int .i64 b.jb, .slice ua b.by_.length uc, .slice va b.envs.length vc] 65 (0, 0)) ∧ x.heap[nc]? = some (.cells #[.int .i64 c.f, .int .i64 c.n, .int .i64 c.cl, .int .i64 c.ba, .int .i64 c.mo, .int .i64 c.bt, .int .i64 c.po, .int .i64 c.wi] 49 (0, 0))) anyW [] [(0, 0, some 7), (1, 1, some 8), (2, 0, some 9), (3, 0, some 10), (4, 0, some 11), (5, 1, some 12), (6, 1, some 13), (7, 0, some 14), (8, 1, some 15), (9, 2, some 16), (10, 0, some 17), (11, 0, some 18), (12, 0, some 19), (13, 0, some 20), (15, 0, some 22), (16, 1, some 23), (17, 0, some 24), (18, 1, some 25), (14, 2, some 21), (19, 2, some 26), (20, 2, some 27), (21, 0, some 28), (22, 0, some 29)] (by kernel_rfl) (by kernel_rfl) (fun _ _ _ d _ h => by cases d <;> exact h) ⟨H2.out.drew.nth 0 rfl, H2.out.drew.nth 1 rfl⟩ anyW.i ?_
        repeat (first | (refine seqW (v := ?_) rfl rfl (by kernel_rfl) ?_ ?_; rotate_left; (focus ((intro x; go_simp); try (with_reducible rfl))); try simp only [Act.put, List.setIfInBounds_toArray, List.set_cons_zero, List.set_cons_succ]) | (refine seqS (v := ?_) rfl rfl (by kernel_rfl) ?_ ?_; rotate_left; (focus (intro x hS; first | (refine (exec_row 65 _ (by rfl) nb (by rfl) _ _ _ _ hS.1 Try.underlying65 rfl size6B).trans ?_; with_reducible rfl) | (refine (exec_row 49 _ (by rfl) nc (by rfl) _ _ _ _ hS.2 Try.underlying49 rfl size8).trans ?_; with_reducible rfl) | (obtain ⟨c0, c1, c2, c3, c4, c5⟩ := cells6 hS.1; go_simp; try (with_reducible rfl)))); try simp only [Act.put, List.setIfInBounds_toArray, List.set_cons_zero, List.set_cons_succ]) | (refine seqX rfl rfl (by kernel_rfl) ?_; try simp only [Act.put, List.setIfInBounds_toArray, List.set_cons_zero, List.set_cons_succ]))
        refine seqL rfl rfl (fun K hK => ?_)
        go_simp
        go_at_call 32
        refine (blok_lead_of c HG.out b.view HBV.out (H2.out.drew)).mono ?_
        rintro e w3 ⟨rfl, h3⟩
        have H3 := Lib.hid h3
        clear h3
        refine hK.out _ _ anyW.i ?_ (fun _ hSt => ?_)
        · exact ⟨H3.out.nth 0 rfl, H3.out.nth 1 rfl⟩
        clear hSt hK K
        try simp only [Act.put, List.setIfInBounds_toArray, List.set_cons_zero, List.set_cons_succ]
        repeat (first | (refine seqW (v := ?_) rfl rfl (by kernel_rfl) ?_ ?_; rotate_left; (focus ((intro x; go_simp); try (with_reducible rfl))); try simp only [Act.put, List.setIfInBounds_toArray, List.set_cons_zero, List.set_cons_succ]) | (refine seqS (v := ?_) rfl rfl (by kernel_rfl) ?_ ?_; rotate_left; (focus (intro x hS; first | (refine (exec_row 65 _ (by rfl) nb (by rfl) _ _ _ _ hS.1 Try.underlying65 rfl size6B).trans ?_; with_reducible rfl) | (refine (exec_row 49 _ (by rfl) nc (by rfl) _ _ _ _ hS.2 Try.underlying49 rfl size8).trans ?_; with_reducible rfl) | (obtain ⟨c0, c1, c2, c3, c4, c5⟩ := cells6 hS.1; go_simp; try (with_reducible rfl)))); try simp only [Act.put, List.setIfInBounds_toArray, List.set_cons_zero, List.set_cons_succ]) | (refine seqX rfl rfl (by kernel_rfl) ?_; try simp only [Act.put, List.setIfInBounds_toArray, List.set_cons_zero, List.set_cons_succ]))
        refine seqL rfl rfl (fun K hK => ?_)
        go_simp
        go_at_call 37
        refine (world_signs H3.out hw).mono ?_
        rintro e w4 ⟨rfl, rfl⟩
        refine hK.out _ _ anyW.i ?_ (fun _ hSt => ?_)
        · exact ⟨H3.out.nth 0 rfl, H3.out.nth 1 rfl⟩
        clear hSt hK K
        try simp only [Act.put, List.setIfInBounds_toArray, List.set_cons_zero, List.set_cons_succ]
        refine seqL rfl rfl (fun K hK => ?_)
        go_simp
        go_at_call 71
        refine (blok_lead b ua uc va vc HB.out.push.push HWF.out H3.out hw (by have := HTL.out; omega)).mono ?_
        rintro e w5 ⟨rfl, h5⟩
        have H5 := Lib.hid h5
        clear h5
        refine hK.out _ _ anyW.i ?_ (fun _ hSt => ?_)
        · exact ⟨H5.out.nth 0 rfl, H5.out.nth 1 rfl⟩
        clear hSt hK K
        try simp only [Act.put, List.setIfInBounds_toArray, List.set_cons_zero, List.set_cons_succ]
        refine seqL rfl rfl (fun K hK => ?_)
        go_simp
        go_at_call 40
        refine (world_has b.author (dg (blkX X b).T (leadB (blkD X b))) H5.out (upd_same _ _ _)).mono ?_
        rintro e w6 ⟨rfl, rfl⟩
        rw [HSG.out]
        refine hK.out _ _ anyW.i ?_ (fun _ hSt => ?_)
        · exact ⟨H5.out.nth 0 rfl, H5.out.nth 1 rfl⟩
        clear hSt hK K
        try simp only [Act.put, List.setIfInBounds_toArray, List.set_cons_zero, List.set_cons_succ]
        repeat (first | (refine seqW (v := ?_) rfl rfl (by kernel_rfl) ?_ ?_; rotate_left; (focus ((intro x; go_simp); try (with_reducible rfl))); try simp only [Act.put, List.setIfInBounds_toArray, List.set_cons_zero, List.set_cons_succ]) | (refine seqS (v := ?_) rfl rfl (by kernel_rfl) ?_ ?_; rotate_left; (focus (intro x hS; first | (refine (exec_row 65 _ (by rfl) nb (by rfl) _ _ _ _ hS.1 Try.underlying65 rfl size6B).trans ?_; with_reducible rfl) | (refine (exec_row 49 _ (by rfl) nc (by rfl) _ _ _ _ hS.2 Try.underlying49 rfl size8).trans ?_; with_reducible rfl) | (obtain ⟨c0, c1, c2, c3, c4, c5⟩ := cells6 hS.1; go_simp; try (with_reducible rfl)))); try simp only [Act.put, List.setIfInBounds_toArray, List.set_cons_zero, List.set_cons_succ]) | (refine seqX rfl rfl (by kernel_rfl) ?_; try simp only [Act.put, List.setIfInBounds_toArray, List.set_cons_zero, List.set_cons_succ]))
        refine seqE ?_
        go_upto_region 3 with fail
        obtain ⟨X1, hX1⟩ : ∃ Y, Y = leadX X b := ⟨_, rfl⟩
        rw [← hX1] at H5 HEX HTL2
        have HQ := Lib.hid (cert_qcok c HG.out b.jv b.jb b.by_ ua uc (fun x m' hs => (HB.out x m' hs.tail.tail).ints) (by have := HL1.out; omega) H5.out (upd_same _ _ _) (by have := HTL2.out; omega))
        rw [upd_upd, qcB_ext HXO.out HEX.out HRT.out] at HQ
        have HEX2 : Hid (X.Ext (b.envs.length + 3) (qcX X1 b.jv b.jb)) := HEX.out.trans (qcX_ext X1 b.jv b.jb)
        obtain ⟨c0, c1, c2, c3, c4, c5⟩ := cells6 (H5.out.nth 0 rfl)
        obtain ⟨g0, g1, g2, g3, g4, g5, g6, g7⟩ := cells8 (H5.out.nth 1 rfl)
        obtain ⟨q, hq⟩ : ∃ q, q = qcB X c b.jv b.jb b.by_ := ⟨_, rfl⟩
        rw [← hq] at HQ HR
        obtain ⟨X2, hX2⟩ : ∃ Y, Y = qcX X1 b.jv b.jb := ⟨_, rfl⟩
        rw [← hX2] at HQ HEX2
        clear hX1 hX2 hq HSG HSB
        go_wp2_with fail
        refine HQ.out.mono ?_
        rintro e z1 ⟨rfl, h6⟩
        have H6 := Lib.hid h6
        clear h6 HQ c0 c1 c2 c3 c4 c5 g0 g1 g2 g3 g4 g5 g6 g7
        obtain ⟨c0, c1, c2, c3, c4, c5⟩ := cells6 (H6.out.nth 0 rfl)
        obtain ⟨g0, g1, g2, g3, g4, g5, g6, g7⟩ := cells8 (H6.out.nth 1 rfl)
        cases q with
        | false =>
          go_wp2_with fail
          go_ret
          exact ⟨by rw [HR.out]; rfl, _, HEX2.out.mono (by omega), H6.out.tail.tail⟩
        | true =>
          obtain ⟨v1, hv1⟩ : ∃ q, q = decide (b.jv < b.view) := ⟨_, rfl⟩
          rw [← hv1] at HR
          cases v1 with
          | false =>
            have dv := hv1.symm
            clear hv1
            go_wp2_with fail
            go_ret
            exact ⟨by rw [HR.out]; rfl, _, HEX2.out.mono (by omega), H6.out.tail.tail⟩
          | true =>
            have dv := hv1.symm
            clear hv1
            obtain ⟨v2, hv2⟩ : ∃ q, q = decide ((b.envs.length : Int) ≤ c.bt) := ⟨_, rfl⟩
            rw [← hv2] at HR
            cases v2 with
            | false =>
              have dw := hv2.symm
              clear hv2
              go_wp2_with fail
              go_ret
              exact ⟨by rw [HR.out]; rfl, _, HEX2.out.mono (by omega), H6.out.tail.tail⟩
            | true =>
              have dw := hv2.symm
              have HTL3 : Hid (X2.T.length ≤ 900000000) := by
                have h1 := HEX2.out.len.2
                have := HL2.out
                have := HTL.out
                show _ ≤ _
                omega
              have HU := Lib.hid (blok_unlike b.envs va vc b.envs.length rfl HL2.out (fun x m' hs => (HB.out x m' hs.tail.tail).envs) HWF.out H6.out (upd_same _ _ _) (HEX2.out.ok HXO.out) HTL3.out)
              have hu : unlikeB X2 b.envs = unlikeB X b.envs := by
                unfold unlikeB
                congr 1
                have := fun e => okE_ext HXO.out HEX2.out e
                simp only [this]
              rw [hu] at HU
              clear hv2 hu
              go_wp2_with fail
              refine HU.out.mono ?_
              rintro e z2 ⟨rfl, X3, hE, h7⟩
              rw [upd_upd] at h7
              have H7 := Lib.hid h7
              have HE3 := Lib.hid (HEX2.out.trans hE)
              clear h7 HU hE c0 c1 c2 c3 c4 c5 g0 g1 g2 g3 g4 g5 g6 g7
              go_wp2_with fail
              go_ret
              exact ⟨by rw [HR.out]; rfl, X3, HE3.out.mono (by omega), H7.out.tail.tail⟩
    · have d2 : (b.author == leadOf c b.view) = false := by simpa using h2
      have d2' : (b.author != leadOf c b.view) = true := by simpa using h2
      have HR : Hid (blkOkB X c b = false) := by show _ = _; unfold blkOkB; simp [h2]
      clear h1 h2
      go_enter Try.func31, Try.ntmps31
      go_upto_region 1 with fail
      rw [EX1.out, EX2.out, EN2.out, EN1.out]
      refine wp_region_seq (fun x : World => x.heap[nb]? = some (.cells #[.int .i64 b.view, .int .i64 b.author, .int .i64 b.jv, .int .i64 b.jb, .slice ua b.by_.length uc, .slice va b.envs.length vc] 65 (0, 0)) ∧ x.heap[nc]? = some (.cells #[.int .i64 c.f, .int .i64 c.n, .int .i64 c.cl, .int .i64 c.ba, .int .i64 c.mo, .int .i64 c.bt, .int .i64 c.po, .int .i64 c.wi] 49 (0, 0))) anyW [] [(0, 0, some 7), (1, 1, some 8), (2, 0, some 9), (3, 0, some 10), (4, 0, some 11), (5, 1, some 12), (6, 1, some 13), (7, 0, some 14), (8, 1, some 15), (9, 2, some 16), (10, 0, some 17), (11, 0, some 18), (12, 0, some 19), (13, 4, some 20), (14, 4, some 21), (15, 4, some 22), (16, 4, some 23), (17, 4, some 24), (18, 4, some 25), (19, 4, some 26), (20, 4, some 27), (21, 4, some 28), (22, 0, some 29)] (by kernel_rfl) (by kernel_rfl) (fun _ _ _ d _ h => by cases d <;> exact h) ⟨H2.out.drew.nth 0 rfl, H2.out.drew.nth 1 rfl⟩ anyW.i ?_
      repeat (first | (refine seqW (v := ?_) rfl rfl (by kernel_rfl) ?_ ?_; rotate_left; (focus ((intro x; go_simp); try (with_reducible rfl))); try simp only [Act.put, List.setIfInBounds_toArray, List.set_cons_zero, List.set_cons_succ]) | (refine seqS (v := ?_) rfl rfl (by kernel_rfl) ?_ ?_; rotate_left; (focus (intro x hS; first | (refine (exec_row 65 _ (by rfl) nb (by rfl) _ _ _ _ hS.1 Try.underlying65 rfl size6B).trans ?_; with_reducible rfl) | (refine (exec_row 49 _ (by rfl) nc (by rfl) _ _ _ _ hS.2 Try.underlying49 rfl size8).trans ?_; with_reducible rfl) | (obtain ⟨c0, c1, c2, c3, c4, c5⟩ := cells6 hS.1; go_simp; try (with_reducible rfl)))); try simp only [Act.put, List.setIfInBounds_toArray, List.set_cons_zero, List.set_cons_succ]) | (refine seqX rfl rfl (by kernel_rfl) ?_; try simp only [Act.put, List.setIfInBounds_toArray, List.set_cons_zero, List.set_cons_succ]))
      refine seqL rfl rfl (fun K hK => ?_)
      go_simp
      go_at_call 32
      refine (blok_lead_of c HG.out b.view HBV.out (H2.out.drew)).mono ?_
      rintro e w3 ⟨rfl, h3⟩
      have H3 := Lib.hid h3
      clear h3
      refine hK.out _ _ anyW.i ?_ (fun _ hSt => ?_)
      · exact ⟨H3.out.nth 0 rfl, H3.out.nth 1 rfl⟩
      clear hSt hK K
      try simp only [Act.put, List.setIfInBounds_toArray, List.set_cons_zero, List.set_cons_succ]
      repeat (first | (refine seqW (v := ?_) rfl rfl (by kernel_rfl) ?_ ?_; rotate_left; (focus ((intro x; go_simp); try (with_reducible rfl))); try simp only [Act.put, List.setIfInBounds_toArray, List.set_cons_zero, List.set_cons_succ]) | (refine seqS (v := ?_) rfl rfl (by kernel_rfl) ?_ ?_; rotate_left; (focus (intro x hS; first | (refine (exec_row 65 _ (by rfl) nb (by rfl) _ _ _ _ hS.1 Try.underlying65 rfl size6B).trans ?_; with_reducible rfl) | (refine (exec_row 49 _ (by rfl) nc (by rfl) _ _ _ _ hS.2 Try.underlying49 rfl size8).trans ?_; with_reducible rfl) | (obtain ⟨c0, c1, c2, c3, c4, c5⟩ := cells6 hS.1; go_simp; try (with_reducible rfl)))); try simp only [Act.put, List.setIfInBounds_toArray, List.set_cons_zero, List.set_cons_succ]) | (refine seqX rfl rfl (by kernel_rfl) ?_; try simp only [Act.put, List.setIfInBounds_toArray, List.set_cons_zero, List.set_cons_succ]))
      refine seqE ?_
      go_wp2_with fail
      go_ret
      exact ⟨by rw [HR.out]; rfl, X, (WX.Ext.refl X).mono (Nat.zero_le _), by rw [upd_self hw]; exact H3.out.tail.tail⟩
end
end Go.Proofs.Ytcfhkpjheemkgaa
