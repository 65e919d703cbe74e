/-
  cert.TcOk.
-/
import Derived.Test.YtcfhkpjheemkgaaExt
namespace Go.Proofs.Ytcfhkpjheemkgaa
set_option linter.unusedSectionVars false
set_option linter.unnecessarySimpa false
set_option linter.unusedSimpArgs false
set_option linter.unusedVariables false
open Go.RowKit Go.MapKept

structure TcX where
  view : Int
  by_ : List Int
  highs : List Int
  hv : Int
  hb : Int
  hby : List Int
def maxI : List Int → Int
  | [] => 0
  | a :: L => L.foldl max a
/-- Whether one who signed stands behind each of the highest. -/
def tcAt (X : WX) (t : TcX) (i : Nat) : Bool := decide (0 ≤ t.highs.getD i 0) && decide (t.highs.getD i 0 < t.view) && decide (t.by_.getD i 0 ∈ sg X (outB t.view (t.highs.getD i 0)))
def tcB (X : WX) (c : CfgX) (t : TcX) : Bool := decide (1 ≤ t.view) && manyB c t.by_ && decide (t.highs.length = t.by_.length) && decide (∀ i, i < t.highs.length → tcAt X t i = true) && decide (maxI t.highs = t.hv) && qcB X c t.hv t.hb t.hby
section
variable {w w' : World} {m : Nat → Thing} {l : List Thing} {p : Nat} {d : Wd} {X : WX}
theorem maxI_take {L : List Int} {j : Nat} (h0 : 0 < j) (hj : j < L.length) : maxI (L.take (j + 1)) = max (maxI (L.take j)) (L.getD j 0) := by
  cases L with
  | nil => simp at hj
  | cons a L =>
    obtain ⟨k, rfl⟩ : ∃ k, j = k + 1 := ⟨j - 1, by omega⟩
    have hk : k < L.length := by simpa using hj
    simp only [List.take_succ_cons, maxI]
    rw [List.take_succ_eq_append_getElem hk, List.foldl_append]
    simp [List.getD, hk]
set_option maxRecDepth 100000 in
set_option maxHeartbeats 2000000 in
theorem max_ints (L : List Int) (ia : Option Addr) (ic n : Nat) (HN : L.length = n) (h1 : 1 ≤ n) (hn : n ≤ 20000000) (hI : Cap l (fun x => IntsAt x ia L)) (h : Sys w m l) :
    Calls Try.prog 77 #[.slice ia n ic] w fun e w' => e = .returned (.int .i64 (maxI L)) ∧ Sys w' m l := by
  have HNH := Lib.hid HN
  have H := Lib.hid h
  have HI := Lib.hid hI
  have hd0 : decide ((n : Int) < 1) = false := by simp; omega
  have HC0 : ∀ (w' : World) (m' : Nat → Thing), Sys w' m' l → ∃ b off, ia = some ⟨b, off, none⟩ ∧ ∀ i, i < n → w'.cell? ⟨b, off + i, none⟩ = some (.int .i64 (L.getD i 0)) := fun w' m' h' => by
    rcases hI w' m' h' with h | ⟨b, off, rfl, h⟩
    · rw [h] at HN; simp at HN; omega
    · exact ⟨b, off, rfl, fun i hi => h i (by omega)⟩
  have HC := Lib.hid HC0
  obtain ⟨xb, xo, rfl, hc0⟩ := HC0 w m h
  have c0 : w.cell? ⟨xb, xo, none⟩ = some (.int .i64 (L.getD 0 0)) := by have := hc0 0 (by omega); simpa using this
  have HM0 : Hid (maxI (L.take 1) = L.getD 0 0) := by
    show _ = _
    cases L with
    | nil => simp at HN; omega
    | cons a L => rfl
  clear HN h hI HC0 hc0
  obtain ⟨a0, ha0⟩ : ∃ a, a = L.getD 0 0 := ⟨_, rfl⟩
  rw [← ha0] at c0 HM0
  clear ha0
  go_enter Try.func77, Try.ntmps77
  go_wp2_with fail
  go_loopw [3, 4] (fun v i wr => ∃ j : Nat, 1 ≤ j ∧ j ≤ n ∧ i = .int .i64 j ∧ Sys wr m l ∧ ∃ a, v = .int .i64 a ∧ Hid (maxI (L.take j) = a)) (fun _ i _ => n - (intOf i).toNat)
  case atStart => exact ⟨1, by omega, by omega, rfl, H.out, a0, rfl, HM0.out⟩
  case round =>
    obtain ⟨j, hj1, hj, rfl, hR, a, rfl, HA⟩ := hrel
    by_cases hlt : j < n
    · have hjl : (j : Int) < (n : Int) := by omega
      obtain ⟨yb, yo, e, hcc⟩ := HC.out wr m hR
      have hcj := hcc j hlt
      cases e
      obtain ⟨y, hy⟩ : ∃ y, y = L.getD j 0 := ⟨_, rfl⟩
      rw [← hy] at hcj
      have HMJ : Hid (maxI (L.take (j + 1)) = max a y) := by
        show _ = _
        rw [maxI_take (by omega) (by rw [HNH.out]; exact hlt), HA.out, hy]
      have HR := Lib.hid hR
      clear hcc hy hR
      by_cases hay : a < y
      · have hm : max a y = y := by omega
        have HM := Lib.hid hm
        clear hm
        go_wp2_with fail
        all_goals
          go_roundw
          case rel => exact ⟨j + 1, by omega, by omega, by go_num, HR.out, max a y, by first | rfl | (rw [HM.out]) , HMJ.out⟩
          case measure => simp [intOf]; omega
      · have hm : max a y = a := by omega
        have HM := Lib.hid hm
        clear hm
        go_wp2_with fail
        all_goals
          go_roundw
          case rel => exact ⟨j + 1, by omega, by omega, by go_num, HR.out, max a y, by first | rfl | (rw [HM.out]) , HMJ.out⟩
          case measure => simp [intOf]; omega
    · obtain rfl : j = n := by omega
      have htk : L.take j = L := by rw [List.take_of_length_le]; rw [HNH.out]; exact Nat.le_refl _
      rw [htk] at HA
      have HR := Lib.hid hR
      clear hR htk
      go_wp2_with fail
      go_ret
      exact ⟨by rw [HA.out]; rfl, HR.out⟩
theorem size8' : (Try.prog.info? 49).map (·.size) = some 8 := size8
def TcRes (m : Nat → Thing) (l : List Thing) (p : Nat) (d : Wd) (X : WX) (n : Nat) (b : Bool) (e : Ending) (w' : World) : Prop := e = .returned (.bool b) ∧ ∃ X', X.Ext (n + 1) X' ∧ Sys w' (upd m 0 (worldT p d X')) l
set_option maxRecDepth 100000 in
set_option maxHeartbeats 4000000 in
theorem cert_tcok (c : CfgX) (hg : c.Good) (t : TcX) (ba ha ga : Option Addr) (bc hc gc n g : Nat) (hbn : t.by_.length = n) (hhn : t.highs.length = n) (hgn : t.hby.length = g) (hn : n ≤ 10000000) (hgl : g ≤ 10000000)
    (hBI : Cap l (fun x => IntsAt x ba t.by_)) (hHI : Cap l (fun x => IntsAt x ha t.highs)) (hGI : Cap l (fun x => IntsAt x ga t.hby)) (h : Sys w m l) (hw : m 0 = worldT p d X) (hX : X.Ok) (hr : rootB ∈ X.T) (hT : X.T.length ≤ 900000000) :
    Calls Try.prog 34 #[.pointer (some ⟨p, 0, none⟩), .agg c.cells.toArray, .agg #[.int .i64 t.view, .slice ba n bc, .slice ha n hc, .int .i64 t.hv, .int .i64 t.hb, .slice ga g gc]] w (TcRes m l p d X n (tcB X c t)) := by
  change Calls Try.prog 34 #[.pointer (some ⟨p, 0, none⟩), .agg #[.int .i64 c.f, .int .i64 c.n, .int .i64 c.cl, .int .i64 c.ba, .int .i64 c.mo, .int .i64 c.bt, .int .i64 c.po, .int .i64 c.wi], .agg #[.int .i64 t.view, .slice ba n bc, .slice ha n hc, .int .i64 t.hv, .int .i64 t.hb, .slice ga g gc]] w _
  have HG := Lib.hid hg
  have HBI := Lib.hid hBI
  have HHI := Lib.hid hHI
  have HGI := Lib.hid hGI
  have HX := Lib.hid hX
  have HRT := Lib.hid hr
  have HTL := Lib.hid hT
  have HBN := Lib.hid hbn
  have HHN := Lib.hid hhn
  have HGN := Lib.hid hgn
  have HGL : Hid (t.hby.length ≤ 20000000) := by show _ ≤ _; omega
  obtain ⟨nc, hnc⟩ : ∃ n, n = w.heap.size := ⟨_, rfl⟩
  obtain ⟨xc, hxc⟩ : ∃ y, y = w.alloc (.cells #[.int .i64 c.f, .int .i64 c.n, .int .i64 c.cl, .int .i64 c.ba, .int .i64 c.mo, .int .i64 c.bt, .int .i64 c.po, .int .i64 c.wi] 49 (0, 0)) := ⟨_, rfl⟩
  have hbc := h.alloc (.cells #[.int .i64 c.f, .int .i64 c.n, .int .i64 c.cl, .int .i64 c.ba, .int .i64 c.mo, .int .i64 c.bt, .int .i64 c.po, .int .i64 c.wi] 49 (0, 0)) hnc
  rw [← hxc] at hbc
  have EXc : Hid (w.alloc (.cells #[.int .i64 c.f, .int .i64 c.n, .int .i64 c.cl, .int .i64 c.ba, .int .i64 c.mo, .int .i64 c.bt, .int .i64 c.po, .int .i64 c.wi] 49 (0, 0)) = xc) := hxc.symm
  have ENc : Hid (w.heap.size = nc) := by show _ = _; rw [hnc]
  obtain ⟨nt, hnt⟩ : ∃ n, n = xc.heap.size := ⟨_, rfl⟩
  obtain ⟨xt, hxt⟩ : ∃ y, y = xc.alloc (.cells #[.int .i64 t.view, .slice ba n bc, .slice ha n hc, .int .i64 t.hv, .int .i64 t.hb, .slice ga g gc] 30 (0, 0)) := ⟨_, rfl⟩
  have hbt := hbc.alloc (.cells #[.int .i64 t.view, .slice ba n bc, .slice ha n hc, .int .i64 t.hv, .int .i64 t.hb, .slice ga g gc] 30 (0, 0)) hnt
  rw [← hxt] at hbt
  have EXt : Hid (xc.alloc (.cells #[.int .i64 t.view, .slice ba n bc, .slice ha n hc, .int .i64 t.hv, .int .i64 t.hb, .slice ga g gc] 30 (0, 0)) = xt) := hxt.symm
  have ENt : Hid (w.heap.size + 1 = nt) := by show _ = _; rw [hnt, hxc]; simp
  have H0 := Lib.hid hbt
  clear h hbc hxc hnc hbt hxt hnt
  clear hg hBI hHI hGI hX hr hT hbn hhn hgn hgl
  have c0 : xt.cell? ⟨nt, 0, none⟩ = some (.int .i64 t.view) := cell_of_blk H0.out.getBlk 0
  by_cases hv : t.view < 1
  · have hd : decide (t.view < 1) = true := by simpa using hv
    have HR : Hid (tcB X c t = false) := by show _ = _; unfold tcB; rw [decide_eq_false (show ¬ 1 ≤ t.view by omega)]; rfl
    clear hv
    go_enter Try.func34, Try.ntmps34
    go_upto_region 1 with fail
    rw [EXc.out, EXt.out, ENt.out, ENc.out]
    go_wp2_with fail
    go_ret
    exact ⟨by rw [HR.out]; rfl, X, (WX.Ext.refl X).mono (by omega), by rw [upd_self hw]; exact H0.out.tail.tail⟩
  · have hd : decide (t.view < 1) = false := by simpa using hv
    have HV : Hid (1 ≤ t.view) := by show _ ≤ _; omega
    clear hv
    obtain ⟨q0, q1, q2, q3, q4, q5, q6, q7⟩ := cfg_cells H0.out.tail.getBlk
    have cb : xt.cell? ⟨nt, 1, none⟩ = some (.slice ba n bc) := cell_of_blk H0.out.getBlk 1
    go_enter Try.func34, Try.ntmps34
    go_upto_region 1 with fail
    rw [EXc.out, EXt.out, ENt.out, ENc.out]
    go_wp2_with fail
    have CM := cert_many c HG.out t.by_ ba bc HBI.out.push.push (by rw [HBN.out]; omega) H0.out
    rw [HBN.out] at CM
    refine CM.mono ?_
    rintro e w1 ⟨rfl, h1⟩
    have H1 := Lib.hid h1
    have cb1 : w1.cell? ⟨nt, 1, none⟩ = some (.slice ba n bc) := cell_of_blk h1.getBlk 1
    have ch1 : w1.cell? ⟨nt, 2, none⟩ = some (.slice ha n hc) := cell_of_blk h1.getBlk 2
    clear h1 CM c0 q0 q1 q2 q3 q4 q5 q6 q7 cb
    by_cases hm : manyB c t.by_ = true
    · rw [hm]
      have HMY := Lib.hid hm
      have hn1 : 1 ≤ n := by
        unfold manyB at hm
        simp only [decide_eq_true_eq] at hm
        have h1 := hm.2
        rw [HBN.out] at h1
        have h2 := HG.out.1
        omega
      clear hm
      have hnn : ((n : Int) != (n : Int)) = false := by simp
      go_wp2_with fail
      go_loopw [31] (fun i wr => ∃ j : Nat, j ≤ n ∧ i = .int .i64 j ∧ ∃ XJ, Hid (X.Ext j XJ) ∧ Sys wr (upd m 0 (worldT p d XJ)) (blk nt (.cells #[.int .i64 t.view, .slice ba n bc, .slice ha n hc, .int .i64 t.hv, .int .i64 t.hb, .slice ga g gc] 30 (0, 0)) :: blk nc (.cells #[.int .i64 c.f, .int .i64 c.n, .int .i64 c.cl, .int .i64 c.ba, .int .i64 c.mo, .int .i64 c.bt, .int .i64 c.po, .int .i64 c.wi] 49 (0, 0)) :: l) ∧ Hid (∀ i, i < j → tcAt X t i = true)) (fun i _ => n - (intOf i).toNat)
      case atStart => exact ⟨0, by omega, rfl, X, WX.Ext.refl X, by rw [upd_self hw]; exact H1.out, (by intro i hi; omega)⟩
      case round =>
        obtain ⟨j, hj, rfl, XJ, HEX, hR, HB⟩ := hrel
        have hwj : (upd m 0 (worldT p d XJ)) 0 = worldT p d XJ := upd_same _ _ _
        have HTJ : Hid (XJ.T.length ≤ 1000000000) := by show _ ≤ _; have h1 := HEX.out.len.2; have h2 := HTL.out; omega
        have HR := Lib.hid hR
        by_cases hlt : j < n
        · have hjl : (j : Int) < (n : Int) := by omega
          have hwrap : IntKind.i64.wrap ((j : Int) + 1) = (j : Int) + 1 := by rw [IntKind.wrap_i64]; omega
          obtain ⟨zb, zo, rfl, hcz⟩ : ∃ b off, ha = some ⟨b, off, none⟩ ∧ wr.cell? ⟨b, off + j, none⟩ = some (.int .i64 (t.highs.getD j 0)) := by
            rcases HHI.out wr _ hR.tail.tail with h | ⟨b, off, rfl, h⟩
            · have := HHN.out; rw [h] at this; simp at this; omega
            · exact ⟨b, off, rfl, h j (by rw [HHN.out]; exact hlt)⟩
          obtain ⟨yb, yo, rfl⟩ : ∃ b off, ba = some ⟨b, off, none⟩ := by
            rcases HBI.out wr _ hR.tail.tail with h | ⟨b, off, rfl, h⟩
            · have := HBN.out; rw [h] at this; simp at this; omega
            · exact ⟨b, off, rfl⟩
          have HBY : Hid (∀ (x : World) (m' : Nat → Thing), Sys x m' l → x.cell? ⟨yb, yo + j, none⟩ = some (.int .i64 (t.by_.getD j 0))) := fun x m' hx => by
            rcases HBI.out x m' hx with h | ⟨b, off, e, h⟩
            · have := HBN.out; rw [h] at this; simp at this; omega
            · cases e; exact h j (by rw [HBN.out]; exact hlt)
          obtain ⟨z, hz⟩ : ∃ z, z = t.highs.getD j 0 := ⟨_, rfl⟩
          obtain ⟨y, hy⟩ : ∃ y, y = t.by_.getD j 0 := ⟨_, rfl⟩
          rw [← hz] at hcz
          rw [← hy] at HBY
          have HZ := Lib.hid hz
          have HY := Lib.hid hy
          have HAT : Hid (tcAt X t j = (decide (0 ≤ z) && decide (z < t.view) && decide (y ∈ sg X (outB t.view z)))) := by show _ = _; unfold tcAt; rw [← hz, ← hy]
          have hS1 := And.intro hR.drew.getBlk (HBY.out _ _ hR.drew.tail.tail)
          have HNO : Hid (tcAt X t j = false → tcB X c t = false) := fun h0 => by
            unfold tcB
            rw [decide_eq_false (show ¬ ∀ i, i < t.highs.length → tcAt X t i = true from fun h => by have := h j (by rw [HHN.out]; exact hlt); rw [h0] at this; cases this)]
            simp
          clear hz hy hR
          by_cases hz0 : z < 0
          · have hd1 : decide (z < 0) = true := by simpa using hz0
            have HF : Hid (tcB X c t = false) := HNO.out (by rw [HAT.out, decide_eq_false (show ¬ 0 ≤ z by omega)]; rfl)
            clear hz0
            go_wp2_with fail
            refine wp_region_stage (fun x : World => x.heap[nt]? = some (.cells #[.int .i64 t.view, .slice (some ⟨yb, yo, none⟩) n bc, .slice (some ⟨zb, zo, none⟩) n hc, .int .i64 t.hv, .int .i64 t.hb, .slice ga g gc] 30 (0, 0)) ∧ x.cell? ⟨yb, yo + j, none⟩ = some (.int .i64 y)) [] (by kernel_rfl) ?_
            refine takeW 0 (some 36) (v := ?_) rfl (by rfl) (by kernel_rfl) (by kernel_rfl) (by kernel_rfl) (fun _ _ _ h => h) (by kernel_rfl) (by kernel_rfl) ?_ (Stage.still (by assumption)) ?_
            rotate_left
            · (intro w; go_simp; try (with_reducible rfl))
            try simp only [Act.put, List.setIfInBounds_toArray, List.set_cons_zero, List.set_cons_succ]
            refine takeW 1 (some 37) (v := ?_) rfl (by rfl) (by kernel_rfl) (by kernel_rfl) (by kernel_rfl) (fun _ _ _ h => h) (by kernel_rfl) (by kernel_rfl) ?_ (Stage.still (by assumption)) ?_
            rotate_left
            · (intro w; go_simp; try (with_reducible rfl))
            try simp only [Act.put, List.setIfInBounds_toArray, List.set_cons_zero, List.set_cons_succ]
            refine takeW 2 (some 38) (v := ?_) rfl (by rfl) (by kernel_rfl) (by kernel_rfl) (by kernel_rfl) (fun _ _ _ h => h) (by kernel_rfl) (by kernel_rfl) ?_ (Stage.still (by assumption)) ?_
            rotate_left
            · (intro w; go_simp; try (with_reducible rfl))
            try simp only [Act.put, List.setIfInBounds_toArray, List.set_cons_zero, List.set_cons_succ]
            refine skipT 3 (some 39) (by kernel_rfl) (by kernel_rfl) (by kernel_rfl) (by kernel_rfl) (fun _ _ _ h => h) (by kernel_rfl) (Stage.still (by assumption)) ?_
            try simp only [Act.put, List.setIfInBounds_toArray, List.set_cons_zero, List.set_cons_succ]
            refine skipT 4 (some 40) (by kernel_rfl) (by kernel_rfl) (by kernel_rfl) (by kernel_rfl) (fun _ _ _ h => h) (by kernel_rfl) (Stage.still (by assumption)) ?_
            try simp only [Act.put, List.setIfInBounds_toArray, List.set_cons_zero, List.set_cons_succ]
            refine skipT 5 (some 41) (by kernel_rfl) (by kernel_rfl) (by kernel_rfl) (by kernel_rfl) (fun _ _ _ h => h) (by kernel_rfl) (Stage.still (by assumption)) ?_
            try simp only [Act.put, List.setIfInBounds_toArray, List.set_cons_zero, List.set_cons_succ]
            refine skipT 6 (some 42) (by kernel_rfl) (by kernel_rfl) (by kernel_rfl) (by kernel_rfl) (fun _ _ _ h => h) (by kernel_rfl) (Stage.still (by assumption)) ?_
            try simp only [Act.put, List.setIfInBounds_toArray, List.set_cons_zero, List.set_cons_succ]
            refine takeW 7 (some 43) (v := ?_) rfl (by rfl) (by kernel_rfl) (by kernel_rfl) (by kernel_rfl) (fun _ _ _ h => h) (by kernel_rfl) (by kernel_rfl) ?_ (Stage.still (by assumption)) ?_
            rotate_left
            · (intro w; go_simp; try (with_reducible rfl))
            try simp only [Act.put, List.setIfInBounds_toArray, List.set_cons_zero, List.set_cons_succ]
            refine takeW 8 (some 44) (v := ?_) rfl (by rfl) (by kernel_rfl) (by kernel_rfl) (by kernel_rfl) (fun _ _ _ h => h) (by kernel_rfl) (by kernel_rfl) ?_ (Stage.still (by assumption)) ?_
            rotate_left
            · (intro w; go_simp; try (with_reducible rfl))
            try simp only [Act.put, List.setIfInBounds_toArray, List.set_cons_zero, List.set_cons_succ]
            refine skipT 9 (some 45) (by kernel_rfl) (by kernel_rfl) (by kernel_rfl) (by kernel_rfl) (fun _ _ _ h => h) (by kernel_rfl) (Stage.still (by assumption)) ?_
            try simp only [Act.put, List.setIfInBounds_toArray, List.set_cons_zero, List.set_cons_succ]
            refine skipT 10 (some 46) (by kernel_rfl) (by kernel_rfl) (by kernel_rfl) (by kernel_rfl) (fun _ _ _ h => h) (by kernel_rfl) (Stage.still (by assumption)) ?_
            try simp only [Act.put, List.setIfInBounds_toArray, List.set_cons_zero, List.set_cons_succ]
            refine skipT 11 (some 47) (by kernel_rfl) (by kernel_rfl) (by kernel_rfl) (by kernel_rfl) (fun _ _ _ h => h) (by kernel_rfl) (Stage.still (by assumption)) ?_
            try simp only [Act.put, List.setIfInBounds_toArray, List.set_cons_zero, List.set_cons_succ]
            refine skipT 12 (some 48) (by kernel_rfl) (by kernel_rfl) (by kernel_rfl) (by kernel_rfl) (fun _ _ _ h => h) (by kernel_rfl) (Stage.still (by assumption)) ?_
            try simp only [Act.put, List.setIfInBounds_toArray, List.set_cons_zero, List.set_cons_succ]
            refine skipT 13 (some 49) (by kernel_rfl) (by kernel_rfl) (by kernel_rfl) (by kernel_rfl) (fun _ _ _ h => h) (by kernel_rfl) (Stage.still (by assumption)) ?_
            try simp only [Act.put, List.setIfInBounds_toArray, List.set_cons_zero, List.set_cons_succ]
            refine skipT 14 (some 50) (by kernel_rfl) (by kernel_rfl) (by kernel_rfl) (by kernel_rfl) (fun _ _ _ h => h) (by kernel_rfl) (Stage.still (by assumption)) ?_
            try simp only [Act.put, List.setIfInBounds_toArray, List.set_cons_zero, List.set_cons_succ]
            refine skipT 15 (some 51) (by kernel_rfl) (by kernel_rfl) (by kernel_rfl) (by kernel_rfl) (fun _ _ _ h => h) (by kernel_rfl) (Stage.still (by assumption)) ?_
            try simp only [Act.put, List.setIfInBounds_toArray, List.set_cons_zero, List.set_cons_succ]
            refine skipT 16 (some 52) (by kernel_rfl) (by kernel_rfl) (by kernel_rfl) (by kernel_rfl) (fun _ _ _ h => h) (by kernel_rfl) (Stage.still (by assumption)) ?_
            try simp only [Act.put, List.setIfInBounds_toArray, List.set_cons_zero, List.set_cons_succ]
            refine skipT 17 (some 53) (by kernel_rfl) (by kernel_rfl) (by kernel_rfl) (by kernel_rfl) (fun _ _ _ h => h) (by kernel_rfl) (Stage.still (by assumption)) ?_
            try simp only [Act.put, List.setIfInBounds_toArray, List.set_cons_zero, List.set_cons_succ]
            refine skipT 18 (some 54) (by kernel_rfl) (by kernel_rfl) (by kernel_rfl) (by kernel_rfl) (fun _ _ _ h => h) (by kernel_rfl) (Stage.still (by assumption)) ?_
            try simp only [Act.put, List.setIfInBounds_toArray, List.set_cons_zero, List.set_cons_succ]
            refine skipT 19 (some 55) (by kernel_rfl) (by kernel_rfl) (by kernel_rfl) (by kernel_rfl) (fun _ _ _ h => h) (by kernel_rfl) (Stage.still (by assumption)) ?_
            try simp only [Act.put, List.setIfInBounds_toArray, List.set_cons_zero, List.set_cons_succ]
            refine skipT 20 (some 56) (by kernel_rfl) (by kernel_rfl) (by kernel_rfl) (by kernel_rfl) (fun _ _ _ h => h) (by kernel_rfl) (Stage.still (by assumption)) ?_
            try simp only [Act.put, List.setIfInBounds_toArray, List.set_cons_zero, List.set_cons_succ]
            refine skipT 21 (some 57) (by kernel_rfl) (by kernel_rfl) (by kernel_rfl) (by kernel_rfl) (fun _ _ _ h => h) (by kernel_rfl) (Stage.still (by assumption)) ?_
            try simp only [Act.put, List.setIfInBounds_toArray, List.set_cons_zero, List.set_cons_succ]
            refine skipT 22 (some 58) (by kernel_rfl) (by kernel_rfl) (by kernel_rfl) (by kernel_rfl) (fun _ _ _ h => h) (by kernel_rfl) (Stage.still (by assumption)) ?_
            try simp only [Act.put, List.setIfInBounds_toArray, List.set_cons_zero, List.set_cons_succ]
            refine takeW 23 (some 59) (v := ?_) rfl (by rfl) (by kernel_rfl) (by kernel_rfl) (by kernel_rfl) (fun _ _ _ h => h) (by kernel_rfl) (by kernel_rfl) ?_ (Stage.still (by assumption)) ?_
            rotate_left
            · (intro w; go_simp; try (with_reducible rfl))
            try simp only [Act.put, List.setIfInBounds_toArray, List.set_cons_zero, List.set_cons_succ]
            refine doneT (by kernel_rfl) ?_ _
            go_wp2_with fail
            go_ret
            exact ⟨by rw [HF.out]; rfl, XJ, HEX.out.mono (by omega), HR.out.drew.tail.tail⟩
          · have hd1 : decide (z < 0) = false := by simpa using hz0
            by_cases hzv : t.view ≤ z
            · have hd2 : decide (t.view ≤ z) = true := by simpa using hzv
              have HF : Hid (tcB X c t = false) := HNO.out (by rw [HAT.out, decide_eq_false (show ¬ z < t.view by omega)]; simp)
              clear hz0 hzv
              go_wp2_with fail
              refine wp_region_stage (fun x : World => x.heap[nt]? = some (.cells #[.int .i64 t.view, .slice (some ⟨yb, yo, none⟩) n bc, .slice (some ⟨zb, zo, none⟩) n hc, .int .i64 t.hv, .int .i64 t.hb, .slice ga g gc] 30 (0, 0)) ∧ x.cell? ⟨yb, yo + j, none⟩ = some (.int .i64 y)) [] (by kernel_rfl) ?_
              refine takeW 0 (some 36) (v := ?_) rfl (by rfl) (by kernel_rfl) (by kernel_rfl) (by kernel_rfl) (fun _ _ _ h => h) (by kernel_rfl) (by kernel_rfl) ?_ (Stage.still (by assumption)) ?_
              rotate_left
              · (intro w; go_simp; try (with_reducible rfl))
              try simp only [Act.put, List.setIfInBounds_toArray, List.set_cons_zero, List.set_cons_succ]
              refine takeW 1 (some 37) (v := ?_) rfl (by rfl) (by kernel_rfl) (by kernel_rfl) (by kernel_rfl) (fun _ _ _ h => h) (by kernel_rfl) (by kernel_rfl) ?_ (Stage.still (by assumption)) ?_
              rotate_left
              · (intro w; go_simp; try (with_reducible rfl))
              try simp only [Act.put, List.setIfInBounds_toArray, List.set_cons_zero, List.set_cons_succ]
              refine takeW 2 (some 38) (v := ?_) rfl (by rfl) (by kernel_rfl) (by kernel_rfl) (by kernel_rfl) (fun _ _ _ h => h) (by kernel_rfl) (by kernel_rfl) ?_ (Stage.still (by assumption)) ?_
              rotate_left
              · (intro w; go_simp; try (with_reducible rfl))
              try simp only [Act.put, List.setIfInBounds_toArray, List.set_cons_zero, List.set_cons_succ]
              refine takeW 3 (some 39) (v := ?_) rfl (by rfl) (by kernel_rfl) (by kernel_rfl) (by kernel_rfl) (fun _ _ _ h => h) (by kernel_rfl) (by kernel_rfl) ?_ (Stage.still (by assumption)) ?_
              rotate_left
              · (intro w; go_simp; try (with_reducible rfl))
              try simp only [Act.put, List.setIfInBounds_toArray, List.set_cons_zero, List.set_cons_succ]
              refine takeW 4 (some 40) (v := ?_) rfl (by rfl) (by kernel_rfl) (by kernel_rfl) (by kernel_rfl) (fun _ _ _ h => h) (by kernel_rfl) (by kernel_rfl) ?_ (Stage.still (by assumption)) ?_
              rotate_left
              · (intro w; go_simp; try (with_reducible rfl))
              try simp only [Act.put, List.setIfInBounds_toArray, List.set_cons_zero, List.set_cons_succ]
              refine takeS 5 (some 41) (v := ?_) rfl (by rfl) (by kernel_rfl) (by kernel_rfl) (by kernel_rfl) (fun _ _ _ h => h) (by kernel_rfl) (by kernel_rfl) (by kernel_rfl) ?_ (by assumption) ?_
              rotate_left
              · (intro w hSw; have c : w.cell? ⟨nt, 0, none⟩ = some (.int .i64 t.view) := cell_of_blk hSw.1 0; clear hSw; go_simp; try (with_reducible rfl))
              try simp only [Act.put, List.setIfInBounds_toArray, List.set_cons_zero, List.set_cons_succ]
              refine takeW 6 (some 42) (v := ?_) rfl (by rfl) (by kernel_rfl) (by kernel_rfl) (by kernel_rfl) (fun _ _ _ h => h) (by kernel_rfl) (by kernel_rfl) ?_ (Stage.still (by assumption)) ?_
              rotate_left
              · (intro w; go_simp; try (with_reducible rfl))
              try simp only [Act.put, List.setIfInBounds_toArray, List.set_cons_zero, List.set_cons_succ]
              refine takeW 7 (some 43) (v := ?_) rfl (by rfl) (by kernel_rfl) (by kernel_rfl) (by kernel_rfl) (fun _ _ _ h => h) (by kernel_rfl) (by kernel_rfl) ?_ (Stage.still (by assumption)) ?_
              rotate_left
              · (intro w; go_simp; try (with_reducible rfl))
              try simp only [Act.put, List.setIfInBounds_toArray, List.set_cons_zero, List.set_cons_succ]
              refine takeW 8 (some 44) (v := ?_) rfl (by rfl) (by kernel_rfl) (by kernel_rfl) (by kernel_rfl) (fun _ _ _ h => h) (by kernel_rfl) (by kernel_rfl) ?_ (Stage.still (by assumption)) ?_
              rotate_left
              · (intro w; go_simp; try (with_reducible rfl))
              try simp only [Act.put, List.setIfInBounds_toArray, List.set_cons_zero, List.set_cons_succ]
              refine skipT 9 (some 45) (by kernel_rfl) (by kernel_rfl) (by kernel_rfl) (by kernel_rfl) (fun _ _ _ h => h) (by kernel_rfl) (Stage.still (by assumption)) ?_
              try simp only [Act.put, List.setIfInBounds_toArray, List.set_cons_zero, List.set_cons_succ]
              refine skipT 10 (some 46) (by kernel_rfl) (by kernel_rfl) (by kernel_rfl) (by kernel_rfl) (fun _ _ _ h => h) (by kernel_rfl) (Stage.still (by assumption)) ?_
              try simp only [Act.put, List.setIfInBounds_toArray, List.set_cons_zero, List.set_cons_succ]
              refine skipT 11 (some 47) (by kernel_rfl) (by kernel_rfl) (by kernel_rfl) (by kernel_rfl) (fun _ _ _ h => h) (by kernel_rfl) (Stage.still (by assumption)) ?_
              try simp only [Act.put, List.setIfInBounds_toArray, List.set_cons_zero, List.set_cons_succ]
              refine skipT 12 (some 48) (by kernel_rfl) (by kernel_rfl) (by kernel_rfl) (by kernel_rfl) (fun _ _ _ h => h) (by kernel_rfl) (Stage.still (by assumption)) ?_
              try simp only [Act.put, List.setIfInBounds_toArray, List.set_cons_zero, List.set_cons_succ]
              refine skipT 13 (some 49) (by kernel_rfl) (by kernel_rfl) (by kernel_rfl) (by kernel_rfl) (fun _ _ _ h => h) (by kernel_rfl) (Stage.still (by assumption)) ?_
              try simp only [Act.put, List.setIfInBounds_toArray, List.set_cons_zero, List.set_cons_succ]
              refine skipT 14 (some 50) (by kernel_rfl) (by kernel_rfl) (by kernel_rfl) (by kernel_rfl) (fun _ _ _ h => h) (by kernel_rfl) (Stage.still (by assumption)) ?_
              try simp only [Act.put, List.setIfInBounds_toArray, List.set_cons_zero, List.set_cons_succ]
              refine skipT 15 (some 51) (by kernel_rfl) (by kernel_rfl) (by kernel_rfl) (by kernel_rfl) (fun _ _ _ h => h) (by kernel_rfl) (Stage.still (by assumption)) ?_
              try simp only [Act.put, List.setIfInBounds_toArray, List.set_cons_zero, List.set_cons_succ]
              refine skipT 16 (some 52) (by kernel_rfl) (by kernel_rfl) (by kernel_rfl) (by kernel_rfl) (fun _ _ _ h => h) (by kernel_rfl) (Stage.still (by assumption)) ?_
              try simp only [Act.put, List.setIfInBounds_toArray, List.set_cons_zero, List.set_cons_succ]
              refine skipT 17 (some 53) (by kernel_rfl) (by kernel_rfl) (by kernel_rfl) (by kernel_rfl) (fun _ _ _ h => h) (by kernel_rfl) (Stage.still (by assumption)) ?_
              try simp only [Act.put, List.setIfInBounds_toArray, List.set_cons_zero, List.set_cons_succ]
              refine skipT 18 (some 54) (by kernel_rfl) (by kernel_rfl) (by kernel_rfl) (by kernel_rfl) (fun _ _ _ h => h) (by kernel_rfl) (Stage.still (by assumption)) ?_
              try simp only [Act.put, List.setIfInBounds_toArray, List.set_cons_zero, List.set_cons_succ]
              refine skipT 19 (some 55) (by kernel_rfl) (by kernel_rfl) (by kernel_rfl) (by kernel_rfl) (fun _ _ _ h => h) (by kernel_rfl) (Stage.still (by assumption)) ?_
              try simp only [Act.put, List.setIfInBounds_toArray, List.set_cons_zero, List.set_cons_succ]
              refine skipT 20 (some 56) (by kernel_rfl) (by kernel_rfl) (by kernel_rfl) (by kernel_rfl) (fun _ _ _ h => h) (by kernel_rfl) (Stage.still (by assumption)) ?_
              try simp only [Act.put, List.setIfInBounds_toArray, List.set_cons_zero, List.set_cons_succ]
              refine skipT 21 (some 57) (by kernel_rfl) (by kernel_rfl) (by kernel_rfl) (by kernel_rfl) (fun _ _ _ h => h) (by kernel_rfl) (Stage.still (by assumption)) ?_
              try simp only [Act.put, List.setIfInBounds_toArray, List.set_cons_zero, List.set_cons_succ]
              refine skipT 22 (some 58) (by kernel_rfl) (by kernel_rfl) (by kernel_rfl) (by kernel_rfl) (fun _ _ _ h => h) (by kernel_rfl) (Stage.still (by assumption)) ?_
              try simp only [Act.put, List.setIfInBounds_toArray, List.set_cons_zero, List.set_cons_succ]
              refine takeW 23 (some 59) (v := ?_) rfl (by rfl) (by kernel_rfl) (by kernel_rfl) (by kernel_rfl) (fun _ _ _ h => h) (by kernel_rfl) (by kernel_rfl) ?_ (Stage.still (by assumption)) ?_
              rotate_left
              · (intro w; go_simp; try (with_reducible rfl))
              try simp only [Act.put, List.setIfInBounds_toArray, List.set_cons_zero, List.set_cons_succ]
              refine doneT (by kernel_rfl) ?_ _
              go_wp2_with fail
              go_ret
              exact ⟨by rw [HF.out]; rfl, XJ, HEX.out.mono (by omega), HR.out.drew.tail.tail⟩
            · have hd2 : decide (t.view ≤ z) = false := by simpa using hzv
              have HSG : Hid (decide (y ∈ (XJ.digest (outB t.view z)).f (dg XJ.T (outB t.view z))) = decide (y ∈ sg X (outB t.view z))) := by
                show _ = _
                rw [← sg_ext HX.out HEX.out (outB t.view z)]
                rfl
              by_cases hs : y ∈ sg X (outB t.view z)
              · have HT2 : Hid (tcAt X t j = true) := by show _ = _; rw [HAT.out]; simp [hs]; omega
                have HHAS : Hid (decide (y ∈ (XJ.digest (outB t.view z)).f (dg XJ.T (outB t.view z))) = true) := by show _ = _; rw [HSG.out]; simpa using hs
                clear hz0 hzv hs
                go_wp2_with fail
                refine wp_region_stage (fun x : World => x.heap[nt]? = some (.cells #[.int .i64 t.view, .slice (some ⟨yb, yo, none⟩) n bc, .slice (some ⟨zb, zo, none⟩) n hc, .int .i64 t.hv, .int .i64 t.hb, .slice ga g gc] 30 (0, 0)) ∧ x.cell? ⟨yb, yo + j, none⟩ = some (.int .i64 y)) [] (by kernel_rfl) ?_
                refine takeW 0 (some 36) (v := ?_) rfl (by rfl) (by kernel_rfl) (by kernel_rfl) (by kernel_rfl) (fun _ _ _ h => h) (by kernel_rfl) (by kernel_rfl) ?_ (Stage.still (by assumption)) ?_
                rotate_left
                · (intro w; go_simp; try (with_reducible rfl))
                try simp only [Act.put, List.setIfInBounds_toArray, List.set_cons_zero, List.set_cons_succ]
                refine takeW 1 (some 37) (v := ?_) rfl (by rfl) (by kernel_rfl) (by kernel_rfl) (by kernel_rfl) (fun _ _ _ h => h) (by kernel_rfl) (by kernel_rfl) ?_ (Stage.still (by assumption)) ?_
                rotate_left
                · (intro w; go_simp; try (with_reducible rfl))
                try simp only [Act.put, List.setIfInBounds_toArray, List.set_cons_zero, List.set_cons_succ]
                refine takeW 2 (some 38) (v := ?_) rfl (by rfl) (by kernel_rfl) (by kernel_rfl) (by kernel_rfl) (fun _ _ _ h => h) (by kernel_rfl) (by kernel_rfl) ?_ (Stage.still (by assumption)) ?_
                rotate_left
                · (intro w; go_simp; try (with_reducible rfl))
                try simp only [Act.put, List.setIfInBounds_toArray, List.set_cons_zero, List.set_cons_succ]
                refine takeW 3 (some 39) (v := ?_) rfl (by rfl) (by kernel_rfl) (by kernel_rfl) (by kernel_rfl) (fun _ _ _ h => h) (by kernel_rfl) (by kernel_rfl) ?_ (Stage.still (by assumption)) ?_
                rotate_left
                · (intro w; go_simp; try (with_reducible rfl))
                try simp only [Act.put, List.setIfInBounds_toArray, List.set_cons_zero, List.set_cons_succ]
                refine takeW 4 (some 40) (v := ?_) rfl (by rfl) (by kernel_rfl) (by kernel_rfl) (by kernel_rfl) (fun _ _ _ h => h) (by kernel_rfl) (by kernel_rfl) ?_ (Stage.still (by assumption)) ?_
                rotate_left
                · (intro w; go_simp; try (with_reducible rfl))
                try simp only [Act.put, List.setIfInBounds_toArray, List.set_cons_zero, List.set_cons_succ]
                refine takeS 5 (some 41) (v := ?_) rfl (by rfl) (by kernel_rfl) (by kernel_rfl) (by kernel_rfl) (fun _ _ _ h => h) (by kernel_rfl) (by kernel_rfl) (by kernel_rfl) ?_ (by assumption) ?_
                rotate_left
                · (intro w hSw; have c : w.cell? ⟨nt, 0, none⟩ = some (.int .i64 t.view) := cell_of_blk hSw.1 0; clear hSw; go_simp; try (with_reducible rfl))
                try simp only [Act.put, List.setIfInBounds_toArray, List.set_cons_zero, List.set_cons_succ]
                refine takeW 6 (some 42) (v := ?_) rfl (by rfl) (by kernel_rfl) (by kernel_rfl) (by kernel_rfl) (fun _ _ _ h => h) (by kernel_rfl) (by kernel_rfl) ?_ (Stage.still (by assumption)) ?_
                rotate_left
                · (intro w; go_simp; try (with_reducible rfl))
                try simp only [Act.put, List.setIfInBounds_toArray, List.set_cons_zero, List.set_cons_succ]
                refine takeW 7 (some 43) (v := ?_) rfl (by rfl) (by kernel_rfl) (by kernel_rfl) (by kernel_rfl) (fun _ _ _ h => h) (by kernel_rfl) (by kernel_rfl) ?_ (Stage.still (by assumption)) ?_
                rotate_left
                · (intro w; go_simp; try (with_reducible rfl))
                try simp only [Act.put, List.setIfInBounds_toArray, List.set_cons_zero, List.set_cons_succ]
                refine takeW 8 (some 44) (v := ?_) rfl (by rfl) (by kernel_rfl) (by kernel_rfl) (by kernel_rfl) (fun _ _ _ h => h) (by kernel_rfl) (by kernel_rfl) ?_ (Stage.still (by assumption)) ?_
                rotate_left
                · (intro w; go_simp; try (with_reducible rfl))
                try simp only [Act.put, List.setIfInBounds_toArray, List.set_cons_zero, List.set_cons_succ]
                refine takeW 9 (some 45) (v := ?_) rfl (by rfl) (by kernel_rfl) (by kernel_rfl) (by kernel_rfl) (fun _ _ _ h => h) (by kernel_rfl) (by kernel_rfl) ?_ (Stage.still (by assumption)) ?_
                rotate_left
                · (intro w; go_simp; try (with_reducible rfl))
                try simp only [Act.put, List.setIfInBounds_toArray, List.set_cons_zero, List.set_cons_succ]
                refine takeW 11 (some 47) (v := ?_) rfl (by rfl) (by kernel_rfl) (by kernel_rfl) (by kernel_rfl) (fun _ _ _ h => h) (by kernel_rfl) (by kernel_rfl) ?_ (Stage.still (by assumption)) ?_
                rotate_left
                · (intro w; go_simp; try (with_reducible rfl))
                try simp only [Act.put, List.setIfInBounds_toArray, List.set_cons_zero, List.set_cons_succ]
                refine takeS 12 (some 48) (v := ?_) rfl (by rfl) (by kernel_rfl) (by kernel_rfl) (by kernel_rfl) (fun _ _ _ h => h) (by kernel_rfl) (by kernel_rfl) (by kernel_rfl) ?_ (by assumption) ?_
                rotate_left
                · (intro w hSw; have c : w.cell? ⟨nt, 1, none⟩ = some (.slice (some ⟨yb, yo, none⟩) n bc) := cell_of_blk hSw.1 1; clear hSw; go_simp; try (with_reducible rfl))
                try simp only [Act.put, List.setIfInBounds_toArray, List.set_cons_zero, List.set_cons_succ]
                refine takeW 13 (some 49) (v := ?_) rfl (by rfl) (by kernel_rfl) (by kernel_rfl) (by kernel_rfl) (fun _ _ _ h => h) (by kernel_rfl) (by kernel_rfl) ?_ (Stage.still (by assumption)) ?_
                rotate_left
                · (intro w; go_simp; try (with_reducible rfl))
                try simp only [Act.put, List.setIfInBounds_toArray, List.set_cons_zero, List.set_cons_succ]
                refine takeW 14 (some 50) (v := ?_) rfl (by rfl) (by kernel_rfl) (by kernel_rfl) (by kernel_rfl) (fun _ _ _ h => h) (by kernel_rfl) (by kernel_rfl) ?_ (Stage.still (by assumption)) ?_
                rotate_left
                · (intro w; go_simp; try (with_reducible rfl))
                try simp only [Act.put, List.setIfInBounds_toArray, List.set_cons_zero, List.set_cons_succ]
                refine takeS 15 (some 51) (v := ?_) rfl (by rfl) (by kernel_rfl) (by kernel_rfl) (by kernel_rfl) (fun _ _ _ h => h) (by kernel_rfl) (by kernel_rfl) (by kernel_rfl) ?_ (by assumption) ?_
                rotate_left
                · (intro w hSw; have c := hSw.2; clear hSw; go_simp; try (with_reducible rfl))
                try simp only [Act.put, List.setIfInBounds_toArray, List.set_cons_zero, List.set_cons_succ]
                refine takeW 16 (some 52) (v := ?_) rfl (by rfl) (by kernel_rfl) (by kernel_rfl) (by kernel_rfl) (fun _ _ _ h => h) (by kernel_rfl) (by kernel_rfl) ?_ (Stage.still (by assumption)) ?_
                rotate_left
                · (intro w; go_simp; try (with_reducible rfl))
                try simp only [Act.put, List.setIfInBounds_toArray, List.set_cons_zero, List.set_cons_succ]
                refine takeW 17 (some 53) (v := ?_) rfl (by rfl) (by kernel_rfl) (by kernel_rfl) (by kernel_rfl) (fun _ _ _ h => h) (by kernel_rfl) (by kernel_rfl) ?_ (Stage.still (by assumption)) ?_
                rotate_left
                · (intro w; go_simp; try (with_reducible rfl))
                try simp only [Act.put, List.setIfInBounds_toArray, List.set_cons_zero, List.set_cons_succ]
                refine takeS 18 (some 54) (v := ?_) rfl (by rfl) (by kernel_rfl) (by kernel_rfl) (by kernel_rfl) (fun _ _ _ h => h) (by kernel_rfl) (by kernel_rfl) (by kernel_rfl) ?_ (by assumption) ?_
                rotate_left
                · (intro w hSw; have c : w.cell? ⟨nt, 0, none⟩ = some (.int .i64 t.view) := cell_of_blk hSw.1 0; clear hSw; go_simp; try (with_reducible rfl))
                try simp only [Act.put, List.setIfInBounds_toArray, List.set_cons_zero, List.set_cons_succ]
                refine takeW 19 (some 55) (v := ?_) rfl (by rfl) (by kernel_rfl) (by kernel_rfl) (by kernel_rfl) (fun _ _ _ h => h) (by kernel_rfl) (by kernel_rfl) ?_ (Stage.still (by assumption)) ?_
                rotate_left
                · (intro w; go_simp; try (with_reducible rfl))
                try simp only [Act.put, List.setIfInBounds_toArray, List.set_cons_zero, List.set_cons_succ]
                refine oneT 10 (by kernel_rfl) rfl (fun K hK => ?_)
                go_simp
                go_at_call 37
                refine (world_signs HR.out.drew hwj).mono ?_
                rintro e _ ⟨rfl, rfl⟩
                go_wp2_with fail
                refine hK.out _ _ (Stage.still ?_) (fun hSt => ?_)
                · (try dsimp only); exact hS1
                clear hK K hSt
                try simp only [Act.put, List.setIfInBounds_toArray, List.set_cons_zero, List.set_cons_succ]
                refine oneT 20 (by kernel_rfl) rfl (fun K hK => ?_)
                go_simp
                go_at_call 43
                refine (cert_out t.view z HR.out.drew hwj HTJ.out).mono ?_
                rintro e w3 ⟨rfl, h3⟩
                have hS1 := And.intro h3.getBlk (HBY.out w3 _ h3.tail.tail)
                have H3 := Lib.hid h3
                clear h3
                go_wp2_with fail
                refine hK.out _ _ (Stage.still ?_) (fun hSt => ?_)
                · (try dsimp only); exact hS1
                clear hK K hSt
                try simp only [Act.put, List.setIfInBounds_toArray, List.set_cons_zero, List.set_cons_succ]
                refine oneT 21 (by kernel_rfl) rfl (fun K hK => ?_)
                go_simp
                go_at_call 40
                refine (world_has y _ H3.out (upd_same _ _ _)).mono ?_
                rintro e _ ⟨rfl, rfl⟩
                rw [show decide (y ∈ (XJ.digest (outB t.view z)).f (dg XJ.T (outB t.view z))) = true from HHAS.out]
                go_wp2_with fail
                refine hK.out _ _ (Stage.still ?_) (fun hSt => ?_)
                · (try dsimp only); exact hS1
                clear hK K hSt
                try simp only [Act.put, List.setIfInBounds_toArray, List.set_cons_zero, List.set_cons_succ]
                refine takeW 22 (some 58) (v := ?_) rfl (by rfl) (by kernel_rfl) (by kernel_rfl) (by kernel_rfl) (fun _ _ _ h => h) (by kernel_rfl) (by kernel_rfl) ?_ (Stage.still (by assumption)) ?_
                rotate_left
                · (intro w; go_simp; try (with_reducible rfl))
                try simp only [Act.put, List.setIfInBounds_toArray, List.set_cons_zero, List.set_cons_succ]
                refine takeW 23 (some 59) (v := ?_) rfl (by rfl) (by kernel_rfl) (by kernel_rfl) (by kernel_rfl) (fun _ _ _ h => h) (by kernel_rfl) (by kernel_rfl) ?_ (Stage.still (by assumption)) ?_
                rotate_left
                · (intro w; go_simp; try (with_reducible rfl))
                try simp only [Act.put, List.setIfInBounds_toArray, List.set_cons_zero, List.set_cons_succ]
                refine doneT (by kernel_rfl) ?_ _
                go_wp2_with fail
                go_roundw
                case rel => exact ⟨j + 1, by omega, by go_num, XJ.digest (outB t.view z), HEX.out.trans (WX.ext_digest _ _), by have h9 := H3.out; rwa [upd_upd] at h9, fun i hi => by
                  by_cases e : i = j
                  · rw [e]; exact HT2.out
                  · exact HB.out i (by omega)⟩
                case measure => simp [intOf]; omega
              · have HF : Hid (tcB X c t = false) := HNO.out (by rw [HAT.out]; simp [hs])
                have HHAS : Hid (decide (y ∈ (XJ.digest (outB t.view z)).f (dg XJ.T (outB t.view z))) = false) := by show _ = _; rw [HSG.out]; simpa using hs
                clear hz0 hzv hs
                go_wp2_with fail
                refine wp_region_stage (fun x : World => x.heap[nt]? = some (.cells #[.int .i64 t.view, .slice (some ⟨yb, yo, none⟩) n bc, .slice (some ⟨zb, zo, none⟩) n hc, .int .i64 t.hv, .int .i64 t.hb, .slice ga g gc] 30 (0, 0)) ∧ x.cell? ⟨yb, yo + j, none⟩ = some (.int .i64 y)) [] (by kernel_rfl) ?_
                refine takeW 0 (some 36) (v := ?_) rfl (by rfl) (by kernel_rfl) (by kernel_rfl) (by kernel_rfl) (fun _ _ _ h => h) (by kernel_rfl) (by kernel_rfl) ?_ (Stage.still (by assumption)) ?_
                rotate_left
                · (intro w; go_simp; try (with_reducible rfl))
                try simp only [Act.put, List.setIfInBounds_toArray, List.set_cons_zero, List.set_cons_succ]
                refine takeW 1 (some 37) (v := ?_) rfl (by rfl) (by kernel_rfl) (by kernel_rfl) (by kernel_rfl) (fun _ _ _ h => h) (by kernel_rfl) (by kernel_rfl) ?_ (Stage.still (by assumption)) ?_
                rotate_left
                · (intro w; go_simp; try (with_reducible rfl))
                try simp only [Act.put, List.setIfInBounds_toArray, List.set_cons_zero, List.set_cons_succ]
                refine takeW 2 (some 38) (v := ?_) rfl (by rfl) (by kernel_rfl) (by kernel_rfl) (by kernel_rfl) (fun _ _ _ h => h) (by kernel_rfl) (by kernel_rfl) ?_ (Stage.still (by assumption)) ?_
                rotate_left
                · (intro w; go_simp; try (with_reducible rfl))
                try simp only [Act.put, List.setIfInBounds_toArray, List.set_cons_zero, List.set_cons_succ]
                refine takeW 3 (some 39) (v := ?_) rfl (by rfl) (by kernel_rfl) (by kernel_rfl) (by kernel_rfl) (fun _ _ _ h => h) (by kernel_rfl) (by kernel_rfl) ?_ (Stage.still (by assumption)) ?_
                rotate_left
                · (intro w; go_simp; try (with_reducible rfl))
                try simp only [Act.put, List.setIfInBounds_toArray, List.set_cons_zero, List.set_cons_succ]
                refine takeW 4 (some 40) (v := ?_) rfl (by rfl) (by kernel_rfl) (by kernel_rfl) (by kernel_rfl) (fun _ _ _ h => h) (by kernel_rfl) (by kernel_rfl) ?_ (Stage.still (by assumption)) ?_
                rotate_left
                · (intro w; go_simp; try (with_reducible rfl))
                try simp only [Act.put, List.setIfInBounds_toArray, List.set_cons_zero, List.set_cons_succ]
                refine takeS 5 (some 41) (v := ?_) rfl (by rfl) (by kernel_rfl) (by kernel_rfl) (by kernel_rfl) (fun _ _ _ h => h) (by kernel_rfl) (by kernel_rfl) (by kernel_rfl) ?_ (by assumption) ?_
                rotate_left
                · (intro w hSw; have c : w.cell? ⟨nt, 0, none⟩ = some (.int .i64 t.view) := cell_of_blk hSw.1 0; clear hSw; go_simp; try (with_reducible rfl))
                try simp only [Act.put, List.setIfInBounds_toArray, List.set_cons_zero, List.set_cons_succ]
                refine takeW 6 (some 42) (v := ?_) rfl (by rfl) (by kernel_rfl) (by kernel_rfl) (by kernel_rfl) (fun _ _ _ h => h) (by kernel_rfl) (by kernel_rfl) ?_ (Stage.still (by assumption)) ?_
                rotate_left
                · (intro w; go_simp; try (with_reducible rfl))
                try simp only [Act.put, List.setIfInBounds_toArray, List.set_cons_zero, List.set_cons_succ]
                refine takeW 7 (some 43) (v := ?_) rfl (by rfl) (by kernel_rfl) (by kernel_rfl) (by kernel_rfl) (fun _ _ _ h => h) (by kernel_rfl) (by kernel_rfl) ?_ (Stage.still (by assumption)) ?_
                rotate_left
                · (intro w; go_simp; try (with_reducible rfl))
                try simp only [Act.put, List.setIfInBounds_toArray, List.set_cons_zero, List.set_cons_succ]
                refine takeW 8 (some 44) (v := ?_) rfl (by rfl) (by kernel_rfl) (by kernel_rfl) (by kernel_rfl) (fun _ _ _ h => h) (by kernel_rfl) (by kernel_rfl) ?_ (Stage.still (by assumption)) ?_
                rotate_left
                · (intro w; go_simp; try (with_reducible rfl))
                try simp only [Act.put, List.setIfInBounds_toArray, List.set_cons_zero, List.set_cons_succ]
                refine takeW 9 (some 45) (v := ?_) rfl (by rfl) (by kernel_rfl) (by kernel_rfl) (by kernel_rfl) (fun _ _ _ h => h) (by kernel_rfl) (by kernel_rfl) ?_ (Stage.still (by assumption)) ?_
                rotate_left
                · (intro w; go_simp; try (with_reducible rfl))
                try simp only [Act.put, List.setIfInBounds_toArray, List.set_cons_zero, List.set_cons_succ]
                refine takeW 11 (some 47) (v := ?_) rfl (by rfl) (by kernel_rfl) (by kernel_rfl) (by kernel_rfl) (fun _ _ _ h => h) (by kernel_rfl) (by kernel_rfl) ?_ (Stage.still (by assumption)) ?_
                rotate_left
                · (intro w; go_simp; try (with_reducible rfl))
                try simp only [Act.put, List.setIfInBounds_toArray, List.set_cons_zero, List.set_cons_succ]
                refine takeS 12 (some 48) (v := ?_) rfl (by rfl) (by kernel_rfl) (by kernel_rfl) (by kernel_rfl) (fun _ _ _ h => h) (by kernel_rfl) (by kernel_rfl) (by kernel_rfl) ?_ (by assumption) ?_
                rotate_left
                · (intro w hSw; have c : w.cell? ⟨nt, 1, none⟩ = some (.slice (some ⟨yb, yo, none⟩) n bc) := cell_of_blk hSw.1 1; clear hSw; go_simp; try (with_reducible rfl))
                try simp only [Act.put, List.setIfInBounds_toArray, List.set_cons_zero, List.set_cons_succ]
                refine takeW 13 (some 49) (v := ?_) rfl (by rfl) (by kernel_rfl) (by kernel_rfl) (by kernel_rfl) (fun _ _ _ h => h) (by kernel_rfl) (by kernel_rfl) ?_ (Stage.still (by assumption)) ?_
                rotate_left
                · (intro w; go_simp; try (with_reducible rfl))
                try simp only [Act.put, List.setIfInBounds_toArray, List.set_cons_zero, List.set_cons_succ]
                refine takeW 14 (some 50) (v := ?_) rfl (by rfl) (by kernel_rfl) (by kernel_rfl) (by kernel_rfl) (fun _ _ _ h => h) (by kernel_rfl) (by kernel_rfl) ?_ (Stage.still (by assumption)) ?_
                rotate_left
                · (intro w; go_simp; try (with_reducible rfl))
                try simp only [Act.put, List.setIfInBounds_toArray, List.set_cons_zero, List.set_cons_succ]
                refine takeS 15 (some 51) (v := ?_) rfl (by rfl) (by kernel_rfl) (by kernel_rfl) (by kernel_rfl) (fun _ _ _ h => h) (by kernel_rfl) (by kernel_rfl) (by kernel_rfl) ?_ (by assumption) ?_
                rotate_left
                · (intro w hSw; have c := hSw.2; clear hSw; go_simp; try (with_reducible rfl))
                try simp only [Act.put, List.setIfInBounds_toArray, List.set_cons_zero, List.set_cons_succ]
                refine takeW 16 (some 52) (v := ?_) rfl (by rfl) (by kernel_rfl) (by kernel_rfl) (by kernel_rfl) (fun _ _ _ h => h) (by kernel_rfl) (by kernel_rfl) ?_ (Stage.still (by assumption)) ?_
                rotate_left
                · (intro w; go_simp; try (with_reducible rfl))
                try simp only [Act.put, List.setIfInBounds_toArray, List.set_cons_zero, List.set_cons_succ]
                refine takeW 17 (some 53) (v := ?_) rfl (by rfl) (by kernel_rfl) (by kernel_rfl) (by kernel_rfl) (fun _ _ _ h => h) (by kernel_rfl) (by kernel_rfl) ?_ (Stage.still (by assumption)) ?_
                rotate_left
                · (intro w; go_simp; try (with_reducible rfl))
                try simp only [Act.put, List.setIfInBounds_toArray, List.set_cons_zero, List.set_cons_succ]
                refine takeS 18 (some 54) (v := ?_) rfl (by rfl) (by kernel_rfl) (by kernel_rfl) (by kernel_rfl) (fun _ _ _ h => h) (by kernel_rfl) (by kernel_rfl) (by kernel_rfl) ?_ (by assumption) ?_
                rotate_left
                · (intro w hSw; have c : w.cell? ⟨nt, 0, none⟩ = some (.int .i64 t.view) := cell_of_blk hSw.1 0; clear hSw; go_simp; try (with_reducible rfl))
                try simp only [Act.put, List.setIfInBounds_toArray, List.set_cons_zero, List.set_cons_succ]
                refine takeW 19 (some 55) (v := ?_) rfl (by rfl) (by kernel_rfl) (by kernel_rfl) (by kernel_rfl) (fun _ _ _ h => h) (by kernel_rfl) (by kernel_rfl) ?_ (Stage.still (by assumption)) ?_
                rotate_left
                · (intro w; go_simp; try (with_reducible rfl))
                try simp only [Act.put, List.setIfInBounds_toArray, List.set_cons_zero, List.set_cons_succ]
                refine oneT 10 (by kernel_rfl) rfl (fun K hK => ?_)
                go_simp
                go_at_call 37
                refine (world_signs HR.out.drew hwj).mono ?_
                rintro e _ ⟨rfl, rfl⟩
                go_wp2_with fail
                refine hK.out _ _ (Stage.still ?_) (fun hSt => ?_)
                · (try dsimp only); exact hS1
                clear hK K hSt
                try simp only [Act.put, List.setIfInBounds_toArray, List.set_cons_zero, List.set_cons_succ]
                refine oneT 20 (by kernel_rfl) rfl (fun K hK => ?_)
                go_simp
                go_at_call 43
                refine (cert_out t.view z HR.out.drew hwj HTJ.out).mono ?_
                rintro e w3 ⟨rfl, h3⟩
                have hS1 := And.intro h3.getBlk (HBY.out w3 _ h3.tail.tail)
                have H3 := Lib.hid h3
                clear h3
                go_wp2_with fail
                refine hK.out _ _ (Stage.still ?_) (fun hSt => ?_)
                · (try dsimp only); exact hS1
                clear hK K hSt
                try simp only [Act.put, List.setIfInBounds_toArray, List.set_cons_zero, List.set_cons_succ]
                refine oneT 21 (by kernel_rfl) rfl (fun K hK => ?_)
                go_simp
                go_at_call 40
                refine (world_has y _ H3.out (upd_same _ _ _)).mono ?_
                rintro e _ ⟨rfl, rfl⟩
                rw [show decide (y ∈ (XJ.digest (outB t.view z)).f (dg XJ.T (outB t.view z))) = false from HHAS.out]
                go_wp2_with fail
                refine hK.out _ _ (Stage.still ?_) (fun hSt => ?_)
                · (try dsimp only); exact hS1
                clear hK K hSt
                try simp only [Act.put, List.setIfInBounds_toArray, List.set_cons_zero, List.set_cons_succ]
                refine takeW 22 (some 58) (v := ?_) rfl (by rfl) (by kernel_rfl) (by kernel_rfl) (by kernel_rfl) (fun _ _ _ h => h) (by kernel_rfl) (by kernel_rfl) ?_ (Stage.still (by assumption)) ?_
                rotate_left
                · (intro w; go_simp; try (with_reducible rfl))
                try simp only [Act.put, List.setIfInBounds_toArray, List.set_cons_zero, List.set_cons_succ]
                refine takeW 23 (some 59) (v := ?_) rfl (by rfl) (by kernel_rfl) (by kernel_rfl) (by kernel_rfl) (fun _ _ _ h => h) (by kernel_rfl) (by kernel_rfl) ?_ (Stage.still (by assumption)) ?_
                rotate_left
                · (intro w; go_simp; try (with_reducible rfl))
                try simp only [Act.put, List.setIfInBounds_toArray, List.set_cons_zero, List.set_cons_succ]
                refine doneT (by kernel_rfl) ?_ _
                go_wp2_with fail
                go_ret
                exact ⟨by rw [HF.out]; rfl, XJ.digest (outB t.view z), (HEX.out.trans (WX.ext_digest _ _)).mono (by omega), by have h9 := H3.out; rw [upd_upd] at h9; exact h9.tail.tail⟩
        · obtain rfl : j = n := by omega
          have HN1 : Hid (1 ≤ j) := hn1
          have HN0 : Hid (j ≤ 20000000) := by show _ ≤ _; omega
          have HHH : Hid (t.highs.length = j) := HHN.out
          have HTA : Hid (∀ (hv2 : Bool), tcB X c t = (decide (maxI t.highs = t.hv) && qcB XJ c t.hv t.hb t.hby)) := fun _ => by
            unfold tcB
            rw [decide_eq_true HV.out, HMY.out, decide_eq_true (HHN.out.trans HBN.out.symm), decide_eq_true (show ∀ i, i < t.highs.length → tcAt X t i = true from fun i hi => HB.out i (by rw [← HHN.out]; exact hi)), qcB_ext HX.out HEX.out HRT.out]
            simp
          have hS1 := And.intro hR.drew.getBlk hR.drew.tail.getBlk
          clear hR
          by_cases hmx : maxI t.highs = t.hv
          · have hmb : ((maxI t.highs : Int) == t.hv) = true := by simpa using hmx
            have HF : Hid (tcB X c t = qcB XJ c t.hv t.hb t.hby) := by show _ = _; rw [HTA.out true, decide_eq_true hmx]; rfl
            clear hmx
            go_wp2_with fail
            refine wp_region_stage (fun x : World => x.heap[nt]? = some (.cells #[.int .i64 t.view, .slice ba j bc, .slice ha j hc, .int .i64 t.hv, .int .i64 t.hb, .slice ga g gc] 30 (0, 0)) ∧ x.heap[nc]? = some (.cells #[.int .i64 c.f, .int .i64 c.n, .int .i64 c.cl, .int .i64 c.ba, .int .i64 c.mo, .int .i64 c.bt, .int .i64 c.po, .int .i64 c.wi] 49 (0, 0))) [] (by kernel_rfl) ?_
            refine takeW 0 (some 61) (v := ?_) rfl (by rfl) (by kernel_rfl) (by kernel_rfl) (by kernel_rfl) (fun _ _ _ h => h) (by kernel_rfl) (by kernel_rfl) ?_ (Stage.still (by assumption)) ?_
            rotate_left
            · (intro w; go_simp; try (with_reducible rfl))
            try simp only [Act.put, List.setIfInBounds_toArray, List.set_cons_zero, List.set_cons_succ]
            refine takeS 1 (some 62) (v := ?_) rfl (by rfl) (by kernel_rfl) (by kernel_rfl) (by kernel_rfl) (fun _ _ _ h => h) (by kernel_rfl) (by kernel_rfl) (by kernel_rfl) ?_ (by assumption) ?_
            rotate_left
            · (intro w hSw; have c : w.cell? ⟨nt, 2, none⟩ = some (.slice ha j hc) := cell_of_blk hSw.1 2; clear hSw; go_simp; try (with_reducible rfl))
            try simp only [Act.put, List.setIfInBounds_toArray, List.set_cons_zero, List.set_cons_succ]
            refine takeW 3 (some 64) (v := ?_) rfl (by rfl) (by kernel_rfl) (by kernel_rfl) (by kernel_rfl) (fun _ _ _ h => h) (by kernel_rfl) (by kernel_rfl) ?_ (Stage.still (by assumption)) ?_
            rotate_left
            · (intro w; go_simp; try (with_reducible rfl))
            try simp only [Act.put, List.setIfInBounds_toArray, List.set_cons_zero, List.set_cons_succ]
            refine takeW 4 (some 65) (v := ?_) rfl (by rfl) (by kernel_rfl) (by kernel_rfl) (by kernel_rfl) (fun _ _ _ h => h) (by kernel_rfl) (by kernel_rfl) ?_ (Stage.still (by assumption)) ?_
            rotate_left
            · (intro w; go_simp; try (with_reducible rfl))
            try simp only [Act.put, List.setIfInBounds_toArray, List.set_cons_zero, List.set_cons_succ]
            refine takeS 5 (some 66) (v := ?_) rfl (by rfl) (by kernel_rfl) (by kernel_rfl) (by kernel_rfl) (fun _ _ _ h => h) (by kernel_rfl) (by kernel_rfl) (by kernel_rfl) ?_ (by assumption) ?_
            rotate_left
            · (intro w hSw; have c : w.cell? ⟨nt, 3, none⟩ = some (.int .i64 t.hv) := cell_of_blk hSw.1 3; clear hSw; go_simp; try (with_reducible rfl))
            try simp only [Act.put, List.setIfInBounds_toArray, List.set_cons_zero, List.set_cons_succ]
            refine oneT 2 (by kernel_rfl) rfl (fun K hK => ?_)
            go_simp
            go_at_call 77
            refine (max_ints t.highs ha hc j HHH.out HN1.out HN0.out HHI.out.push.push HR.out.drew).mono ?_
            rintro e w5 ⟨rfl, h5⟩
            have hS1 := And.intro h5.getBlk h5.tail.getBlk
            have H5 := Lib.hid h5
            clear h5
            go_wp2_with fail
            refine hK.out _ _ (Stage.still ?_) (fun hSt => ?_)
            · (try dsimp only); exact hS1
            clear hK K hSt
            try simp only [Act.put, List.setIfInBounds_toArray, List.set_cons_zero, List.set_cons_succ]
            refine takeW 6 (some 67) (v := ?_) rfl (by rfl) (by kernel_rfl) (by kernel_rfl) (by kernel_rfl) (fun _ _ _ h => h) (by kernel_rfl) (by kernel_rfl) ?_ (Stage.still (by assumption)) ?_
            rotate_left
            · (intro w; go_simp; try (with_reducible rfl))
            try simp only [Act.put, List.setIfInBounds_toArray, List.set_cons_zero, List.set_cons_succ]
            refine takeW 7 (some 68) (v := ?_) rfl (by rfl) (by kernel_rfl) (by kernel_rfl) (by kernel_rfl) (fun _ _ _ h => h) (by kernel_rfl) (by kernel_rfl) ?_ (Stage.still (by assumption)) ?_
            rotate_left
            · (intro w; go_simp; try (with_reducible rfl))
            try simp only [Act.put, List.setIfInBounds_toArray, List.set_cons_zero, List.set_cons_succ]
            refine takeW 8 (some 69) (v := ?_) rfl (by rfl) (by kernel_rfl) (by kernel_rfl) (by kernel_rfl) (fun _ _ _ h => h) (by kernel_rfl) (by kernel_rfl) ?_ (Stage.still (by assumption)) ?_
            rotate_left
            · (intro w; go_simp; try (with_reducible rfl))
            try simp only [Act.put, List.setIfInBounds_toArray, List.set_cons_zero, List.set_cons_succ]
            refine takeS 9 (some 70) (v := ?_) rfl (by rfl) (by kernel_rfl) (by kernel_rfl) (by kernel_rfl) (fun _ _ _ h => h) (by kernel_rfl) (by kernel_rfl) (by kernel_rfl) ?_ (by assumption) ?_
            rotate_left
            · (intro w hSw; have hb := hSw.2; have c0 : w.cell? ⟨nc, 0, none⟩ = some (.int .i64 c.f) := cell_of_blk hb 0; have c1 : w.cell? ⟨nc, 1, none⟩ = some (.int .i64 c.n) := cell_of_blk hb 1; have c2 : w.cell? ⟨nc, 2, none⟩ = some (.int .i64 c.cl) := cell_of_blk hb 2; have c3 : w.cell? ⟨nc, 3, none⟩ = some (.int .i64 c.ba) := cell_of_blk hb 3; have c4 : w.cell? ⟨nc, 4, none⟩ = some (.int .i64 c.mo) := cell_of_blk hb 4; have c5 : w.cell? ⟨nc, 5, none⟩ = some (.int .i64 c.bt) := cell_of_blk hb 5; have c6 : w.cell? ⟨nc, 6, none⟩ = some (.int .i64 c.po) := cell_of_blk hb 6; have c7 : w.cell? ⟨nc, 7, none⟩ = some (.int .i64 c.wi) := cell_of_blk hb 7; clear hSw hb; go_simp; try (with_reducible rfl))
            try simp only [Act.put, List.setIfInBounds_toArray, List.set_cons_zero, List.set_cons_succ]
            refine takeW 10 (some 71) (v := ?_) rfl (by rfl) (by kernel_rfl) (by kernel_rfl) (by kernel_rfl) (fun _ _ _ h => h) (by kernel_rfl) (by kernel_rfl) ?_ (Stage.still (by assumption)) ?_
            rotate_left
            · (intro w; go_simp; try (with_reducible rfl))
            try simp only [Act.put, List.setIfInBounds_toArray, List.set_cons_zero, List.set_cons_succ]
            refine takeS 11 (some 72) (v := ?_) rfl (by rfl) (by kernel_rfl) (by kernel_rfl) (by kernel_rfl) (fun _ _ _ h => h) (by kernel_rfl) (by kernel_rfl) (by kernel_rfl) ?_ (by assumption) ?_
            rotate_left
            · (intro w hSw; have c3 : w.cell? ⟨nt, 3, none⟩ = some (.int .i64 t.hv) := cell_of_blk hSw.1 3; have c4 : w.cell? ⟨nt, 4, none⟩ = some (.int .i64 t.hb) := cell_of_blk hSw.1 4; have c5 : w.cell? ⟨nt, 5, none⟩ = some (.slice ga g gc) := cell_of_blk hSw.1 5; clear hSw; go_simp; try (with_reducible rfl))
            try simp only [Act.put, List.setIfInBounds_toArray, List.set_cons_zero, List.set_cons_succ]
            refine oneT 12 (by kernel_rfl) rfl (fun K hK => ?_)
            go_simp
            go_at_call 33
            have CQ := cert_qcok c HG.out t.hv t.hb t.hby ga gc HGI.out.push.push HGL.out H5.out hwj HTJ.out
            rw [HGN.out] at CQ
            refine CQ.mono ?_
            rintro e w6 ⟨rfl, h6⟩
            have hS1 := And.intro h6.getBlk h6.tail.getBlk
            have H6 := Lib.hid h6
            clear h6 CQ
            go_wp2_with fail
            refine hK.out _ _ (Stage.still ?_) (fun hSt => ?_)
            · (try dsimp only); exact hS1
            clear hK K hSt
            try simp only [Act.put, List.setIfInBounds_toArray, List.set_cons_zero, List.set_cons_succ]
            refine takeW 13 (some 74) (v := ?_) rfl (by rfl) (by kernel_rfl) (by kernel_rfl) (by kernel_rfl) (fun _ _ _ h => h) (by kernel_rfl) (by kernel_rfl) ?_ (Stage.still (by assumption)) ?_
            rotate_left
            · (intro w; go_simp; try (with_reducible rfl))
            try simp only [Act.put, List.setIfInBounds_toArray, List.set_cons_zero, List.set_cons_succ]
            refine takeW 14 (some 6) (v := ?_) rfl (by rfl) (by kernel_rfl) (by kernel_rfl) (by kernel_rfl) (fun _ _ _ h => h) (by kernel_rfl) (by kernel_rfl) ?_ (Stage.still (by assumption)) ?_
            rotate_left
            · (intro w; go_simp; try (with_reducible rfl))
            try simp only [Act.put, List.setIfInBounds_toArray, List.set_cons_zero, List.set_cons_succ]
            refine doneT (by kernel_rfl) ?_ _
            generalize qcB XJ c t.hv t.hb t.hby = bb at *
            go_wp2_with fail
            go_ret
            exact ⟨by rw [HF.out]; rfl, qcX XJ t.hv t.hb, HEX.out.trans (qcX_ext _ _ _), by have h9 := H6.out; rw [upd_upd] at h9; exact h9.tail.tail⟩
          · have hmb : ((maxI t.highs : Int) == t.hv) = false := by simpa using hmx
            have HF : Hid (tcB X c t = false) := by show _ = _; rw [HTA.out true, decide_eq_false hmx]; rfl
            clear hmx
            go_wp2_with fail
            refine wp_region_stage (fun x : World => x.heap[nt]? = some (.cells #[.int .i64 t.view, .slice ba j bc, .slice ha j hc, .int .i64 t.hv, .int .i64 t.hb, .slice ga g gc] 30 (0, 0)) ∧ x.heap[nc]? = some (.cells #[.int .i64 c.f, .int .i64 c.n, .int .i64 c.cl, .int .i64 c.ba, .int .i64 c.mo, .int .i64 c.bt, .int .i64 c.po, .int .i64 c.wi] 49 (0, 0))) [] (by kernel_rfl) ?_
            refine takeW 0 (some 61) (v := ?_) rfl (by rfl) (by kernel_rfl) (by kernel_rfl) (by kernel_rfl) (fun _ _ _ h => h) (by kernel_rfl) (by kernel_rfl) ?_ (Stage.still (by assumption)) ?_
            rotate_left
            · (intro w; go_simp; try (with_reducible rfl))
            try simp only [Act.put, List.setIfInBounds_toArray, List.set_cons_zero, List.set_cons_succ]
            refine takeS 1 (some 62) (v := ?_) rfl (by rfl) (by kernel_rfl) (by kernel_rfl) (by kernel_rfl) (fun _ _ _ h => h) (by kernel_rfl) (by kernel_rfl) (by kernel_rfl) ?_ (by assumption) ?_
            rotate_left
            · (intro w hSw; have c : w.cell? ⟨nt, 2, none⟩ = some (.slice ha j hc) := cell_of_blk hSw.1 2; clear hSw; go_simp; try (with_reducible rfl))
            try simp only [Act.put, List.setIfInBounds_toArray, List.set_cons_zero, List.set_cons_succ]
            refine takeW 3 (some 64) (v := ?_) rfl (by rfl) (by kernel_rfl) (by kernel_rfl) (by kernel_rfl) (fun _ _ _ h => h) (by kernel_rfl) (by kernel_rfl) ?_ (Stage.still (by assumption)) ?_
            rotate_left
            · (intro w; go_simp; try (with_reducible rfl))
            try simp only [Act.put, List.setIfInBounds_toArray, List.set_cons_zero, List.set_cons_succ]
            refine takeW 4 (some 65) (v := ?_) rfl (by rfl) (by kernel_rfl) (by kernel_rfl) (by kernel_rfl) (fun _ _ _ h => h) (by kernel_rfl) (by kernel_rfl) ?_ (Stage.still (by assumption)) ?_
            rotate_left
            · (intro w; go_simp; try (with_reducible rfl))
            try simp only [Act.put, List.setIfInBounds_toArray, List.set_cons_zero, List.set_cons_succ]
            refine takeS 5 (some 66) (v := ?_) rfl (by rfl) (by kernel_rfl) (by kernel_rfl) (by kernel_rfl) (fun _ _ _ h => h) (by kernel_rfl) (by kernel_rfl) (by kernel_rfl) ?_ (by assumption) ?_
            rotate_left
            · (intro w hSw; have c : w.cell? ⟨nt, 3, none⟩ = some (.int .i64 t.hv) := cell_of_blk hSw.1 3; clear hSw; go_simp; try (with_reducible rfl))
            try simp only [Act.put, List.setIfInBounds_toArray, List.set_cons_zero, List.set_cons_succ]
            refine oneT 2 (by kernel_rfl) rfl (fun K hK => ?_)
            go_simp
            go_at_call 77
            refine (max_ints t.highs ha hc j HHH.out HN1.out HN0.out HHI.out.push.push HR.out.drew).mono ?_
            rintro e w5 ⟨rfl, h5⟩
            have hS1 := And.intro h5.getBlk h5.tail.getBlk
            have H5 := Lib.hid h5
            clear h5
            go_wp2_with fail
            refine hK.out _ _ (Stage.still ?_) (fun hSt => ?_)
            · (try dsimp only); exact hS1
            clear hK K hSt
            try simp only [Act.put, List.setIfInBounds_toArray, List.set_cons_zero, List.set_cons_succ]
            refine takeW 6 (some 67) (v := ?_) rfl (by rfl) (by kernel_rfl) (by kernel_rfl) (by kernel_rfl) (fun _ _ _ h => h) (by kernel_rfl) (by kernel_rfl) ?_ (Stage.still (by assumption)) ?_
            rotate_left
            · (intro w; go_simp; try (with_reducible rfl))
            try simp only [Act.put, List.setIfInBounds_toArray, List.set_cons_zero, List.set_cons_succ]
            refine takeW 7 (some 68) (v := ?_) rfl (by rfl) (by kernel_rfl) (by kernel_rfl) (by kernel_rfl) (fun _ _ _ h => h) (by kernel_rfl) (by kernel_rfl) ?_ (Stage.still (by assumption)) ?_
            rotate_left
            · (intro w; go_simp; try (with_reducible rfl))
            try simp only [Act.put, List.setIfInBounds_toArray, List.set_cons_zero, List.set_cons_succ]
            refine skipT 8 (some 69) (by kernel_rfl) (by kernel_rfl) (by kernel_rfl) (by kernel_rfl) (fun _ _ _ h => h) (by kernel_rfl) (Stage.still (by assumption)) ?_
            try simp only [Act.put, List.setIfInBounds_toArray, List.set_cons_zero, List.set_cons_succ]
            refine skipT 9 (some 70) (by kernel_rfl) (by kernel_rfl) (by kernel_rfl) (by kernel_rfl) (fun _ _ _ h => h) (by kernel_rfl) (Stage.still (by assumption)) ?_
            try simp only [Act.put, List.setIfInBounds_toArray, List.set_cons_zero, List.set_cons_succ]
            refine skipT 10 (some 71) (by kernel_rfl) (by kernel_rfl) (by kernel_rfl) (by kernel_rfl) (fun _ _ _ h => h) (by kernel_rfl) (Stage.still (by assumption)) ?_
            try simp only [Act.put, List.setIfInBounds_toArray, List.set_cons_zero, List.set_cons_succ]
            refine skipT 11 (some 72) (by kernel_rfl) (by kernel_rfl) (by kernel_rfl) (by kernel_rfl) (fun _ _ _ h => h) (by kernel_rfl) (Stage.still (by assumption)) ?_
            try simp only [Act.put, List.setIfInBounds_toArray, List.set_cons_zero, List.set_cons_succ]
            refine skipT 12 (some 73) (by kernel_rfl) (by kernel_rfl) (by kernel_rfl) (by kernel_rfl) (fun _ _ _ h => h) (by kernel_rfl) (Stage.still (by assumption)) ?_
            try simp only [Act.put, List.setIfInBounds_toArray, List.set_cons_zero, List.set_cons_succ]
            refine takeW 13 (some 74) (v := ?_) rfl (by rfl) (by kernel_rfl) (by kernel_rfl) (by kernel_rfl) (fun _ _ _ h => h) (by kernel_rfl) (by kernel_rfl) ?_ (Stage.still (by assumption)) ?_
            rotate_left
            · (intro w; go_simp; try (with_reducible rfl))
            try simp only [Act.put, List.setIfInBounds_toArray, List.set_cons_zero, List.set_cons_succ]
            refine takeW 14 (some 6) (v := ?_) rfl (by rfl) (by kernel_rfl) (by kernel_rfl) (by kernel_rfl) (fun _ _ _ h => h) (by kernel_rfl) (by kernel_rfl) ?_ (Stage.still (by assumption)) ?_
            rotate_left
            · (intro w; go_simp; try (with_reducible rfl))
            try simp only [Act.put, List.setIfInBounds_toArray, List.set_cons_zero, List.set_cons_succ]
            refine doneT (by kernel_rfl) ?_ _
            go_wp2_with fail
            go_ret
            exact ⟨by rw [HF.out]; rfl, XJ, HEX.out.mono (by omega), H5.out.tail.tail⟩
    · have hmf : manyB c t.by_ = false := by simpa using hm
      have HF : Hid (tcB X c t = false) := by show _ = _; unfold tcB; rw [hmf]; simp
      rw [hmf]
      clear hm hmf
      go_wp2_with fail
      go_ret
      exact ⟨by rw [HF.out]; rfl, X, (WX.Ext.refl X).mono (by omega), by rw [upd_self hw]; exact H1.out.tail.tail⟩
end
end Go.Proofs.Ytcfhkpjheemkgaa
