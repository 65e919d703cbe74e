/-
  cert.QcOk.
-/
import Derived.Test.YtcfhkpjheemkgaaCert
namespace Go.Proofs.Ytcfhkpjheemkgaa
set_option linter.unusedSectionVars false
set_option linter.unusedSimpArgs false
set_option linter.unusedVariables false
open Go.RowKit Go.MapKept

def qcX (X : WX) (view block : Int) : WX := if view < 1 then (if view = 0 then X.digest rootB else X) else X.digest (voteB view block)
def qcB (X : WX) (c : CfgX) (view block : Int) (L : List Int) : Bool := if view < 1 then decide (view = 0 ∧ block = dg X.T rootB ∧ L = []) else manyB c L && L.all (fun who => decide (who ∈ X.f (dg X.T (voteB view block))))
section
variable {w w' : World} {m : Nat → Thing} {l : List Thing} {p : Nat} {d : Wd} {X : WX}
set_option maxRecDepth 100000 in
set_option maxHeartbeats 1000000 in
theorem qcok_fun {r : List Thing} (nw nd : Nat) (dd x : Int) (hdb : Cap r (fun y => y.heap[nd]? = some (.cells #[.int .i64 dd] 3 (0, 0)))) (hwb : Cap r (fun y => y.heap[nw]? = some (.cells #[.pointer (some ⟨p, 0, none⟩)] 46 (0, 0)))) (h : Sys w m r) (hw : m 0 = worldT p d X) :
    Calls Try.prog 76 #[.int .i64 x, .pointer (some ⟨nw, 0, none⟩), .pointer (some ⟨nd, 0, none⟩)] w fun e w' => e = .returned (.bool (!decide (x ∈ X.f dd))) ∧ Sys w' m r := by
  have hS1 := h.drew
  have HDB := Lib.hid hdb
  have HWB := Lib.hid hwb
  clear h hdb hwb
  go_enter Try.func76, Try.ntmps76
  go_upto_region 1 with fail
  refine wp_region_stage (fun x : World => Sys x m r) [] (by kernel_rfl) ?_
  refine takeS 0 (some 5) (v := ?_) rfl (by rfl) (by kernel_rfl) (by kernel_rfl) (by kernel_rfl) (fun _ _ _ h => h) (by kernel_rfl) (by kernel_rfl) (by kernel_rfl) ?_ (by assumption) ?_
  rotate_left
  · (intro w hSw; have c : w.cell? ⟨nw, 0, none⟩ = some (.pointer (some ⟨p, 0, none⟩)) := cell_of_blk (HWB.out _ _ hSw) 0; clear hSw; go_simp; try (with_reducible rfl))
  try simp only [Act.put, List.setIfInBounds_toArray, List.set_cons_zero, List.set_cons_succ]
  refine takeW 2 (some 7) (v := ?_) rfl (by rfl) (by kernel_rfl) (by kernel_rfl) (by kernel_rfl) (fun _ _ _ h => h) (by kernel_rfl) (by kernel_rfl) ?_ (Stage.still (by assumption)) ?_
  rotate_left
  · (intro w; go_simp; try (with_reducible rfl))
  try simp only [Act.put, List.setIfInBounds_toArray, List.set_cons_zero, List.set_cons_succ]
  refine takeS 3 (some 8) (v := ?_) rfl (by rfl) (by kernel_rfl) (by kernel_rfl) (by kernel_rfl) (fun _ _ _ h => h) (by kernel_rfl) (by kernel_rfl) (by kernel_rfl) ?_ (by assumption) ?_
  rotate_left
  · (intro w hSw; have c : w.cell? ⟨nd, 0, none⟩ = some (.int .i64 dd) := cell_of_blk (HDB.out _ _ hSw) 0; clear hSw; go_simp; try (with_reducible rfl))
  try simp only [Act.put, List.setIfInBounds_toArray, List.set_cons_zero, List.set_cons_succ]
  refine oneT 1 (by kernel_rfl) rfl (fun K hK => ?_)
  go_simp
  go_at_call 37
  refine (world_signs hS1 hw).mono ?_
  rintro e _ ⟨rfl, rfl⟩
  go_wp2_with fail
  refine hK.out _ _ (Stage.still ?_) (fun hSt => ?_)
  · (try dsimp only); exact hS1
  clear hK K hSt
  try simp only [Act.put, List.setIfInBounds_toArray, List.set_cons_zero, List.set_cons_succ]
  refine oneT 4 (by kernel_rfl) rfl (fun K hK => ?_)
  go_simp
  go_at_call 40
  refine (world_has x dd hS1 hw).mono ?_
  rintro e _ ⟨rfl, rfl⟩
  go_wp2_with fail
  refine hK.out _ _ (Stage.still ?_) (fun hSt => ?_)
  · (try dsimp only); exact hS1
  clear hK K hSt
  try simp only [Act.put, List.setIfInBounds_toArray, List.set_cons_zero, List.set_cons_succ]
  refine takeW 5 (some 10) (v := ?_) rfl (by rfl) (by kernel_rfl) (by kernel_rfl) (by kernel_rfl) (fun _ _ _ h => h) (by kernel_rfl) (by kernel_rfl) ?_ (Stage.still (by assumption)) ?_
  rotate_left
  · (intro w; go_simp; try (with_reducible rfl))
  try simp only [Act.put, List.setIfInBounds_toArray, List.set_cons_zero, List.set_cons_succ]
  refine takeW 6 (some 4) (v := ?_) rfl (by rfl) (by kernel_rfl) (by kernel_rfl) (by kernel_rfl) (fun _ _ _ h => h) (by kernel_rfl) (by kernel_rfl) ?_ (Stage.still (by assumption)) ?_
  rotate_left
  · (intro w; go_simp; try (with_reducible rfl))
  try simp only [Act.put, List.setIfInBounds_toArray, List.set_cons_zero, List.set_cons_succ]
  refine doneT (by kernel_rfl) ?_ _
  have HS := Lib.hid hS1
  clear hS1
  go_wp2_with fail
  go_ret
  exact ⟨rfl, HS.out⟩
theorem all_any (q : Int → Bool) (L : List Int) : L.all q = !(L.any fun x => !q x) := by
  induction L with
  | nil => rfl
  | cons a L ih => simp only [List.all_cons, List.any_cons, ih, Bool.not_or, Bool.not_not]
def Found (q : Int → Bool) (L : List Int) (Z : World → Prop) (e : Ending) (w' : World) : Prop := ∃ r : Int, e = .returned (.int .i64 r) ∧ (decide (0 ≤ r) = L.any q) ∧ Z w'
set_option maxRecDepth 100000 in
set_option maxHeartbeats 1000000 in
theorem qcok_index {r : List Thing} (nw nd : Nat) (dd : Int) (L : List Int) (ia : Option Addr) (ic n : Nat) (HN : Hid (L.length = n)) (hn : n ≤ 20000000) (hI : Cap r (fun x => IntsAt x ia L)) (hdb : Cap r (fun y => y.heap[nd]? = some (.cells #[.int .i64 dd] 3 (0, 0)))) (hwb : Cap r (fun y => y.heap[nw]? = some (.cells #[.pointer (some ⟨p, 0, none⟩)] 46 (0, 0)))) (h : Sys w m r) (hw : m 0 = worldT p d X) :
    Calls Try.prog 102 #[.slice ia n ic, .func (.func 76) #[] #[.pointer (some ⟨nw, 0, none⟩), .pointer (some ⟨nd, 0, none⟩)]] w (Found (fun x => !decide (x ∈ X.f dd)) L (fun w' => Sys w' m r)) := by
  have H := Lib.hid h
  have HI := Lib.hid hI
  have HF := Lib.hid (fun x w' (h' : Sys w' m r) => qcok_fun nw nd dd x hdb hwb h' hw)
  clear h hI hdb hwb
  go_enter Try.func102, Try.ntmps102
  go_wp2_with fail
  go_loopw [8] (fun i wr => ∃ j : Nat, j ≤ n ∧ i = .int .i64 j ∧ Sys wr m r ∧ Hid (∀ i, i < j → decide (L.getD i 0 ∈ X.f dd) = true)) (fun i _ => n - (intOf i).toNat)
  case atStart => exact ⟨0, by omega, rfl, H.out, (by intro i hi; omega)⟩
  case round =>
    obtain ⟨j, hj, rfl, hR, HB⟩ := hrel
    by_cases hlt : j < n
    · have hjl : (j : Int) < (n : Int) := by omega
      have hjL : j < L.length := by rw [HN.out]; exact hlt
      obtain ⟨xb, xo, rfl, hcj⟩ : ∃ b off, ia = some ⟨b, off, none⟩ ∧ wr.cell? ⟨b, off + j, none⟩ = some (.int .i64 (L.getD j 0)) := by
        rcases HI.out wr m hR with h | ⟨b, off, rfl, h⟩
        · rw [h] at hjL; simp at hjL
        · exact ⟨b, off, rfl, h j hjL⟩
      have hwj : IntKind.i64.wrap ((j : Int) + 1) = (j : Int) + 1 := by rw [IntKind.wrap_i64]; omega
      have HR := Lib.hid hR
      have HX : Hid (L.getD j 0 ∈ L) := by show _ ∈ _; rw [List.getD_eq_getElem?_getD, List.getElem?_eq_getElem hjL]; exact List.getElem_mem hjL
      obtain ⟨x, hx⟩ : ∃ x, x = L.getD j 0 := ⟨_, rfl⟩
      rw [← hx] at hcj HX
      have HXE := Lib.hid hx
      clear hR hjL hx
      go_wp2_with fail
      refine (HF.out x _ HR.out).mono ?_
      rintro e w2 ⟨rfl, h2⟩
      have HR2 := Lib.hid h2
      clear h2 HR hcj
      by_cases hq : decide (x ∈ X.f dd) = true
      · rw [hq]
        have HQ := Lib.hid hq
        clear hq
        go_wp2_with fail
        go_roundw
        case rel => exact ⟨j + 1, by omega, by go_num, HR2.out, fun i hi => by
          by_cases e : i = j
          · rw [e, ← HXE.out]; exact HQ.out
          · exact HB.out i (by omega)⟩
        case measure => simp [intOf]; omega
      · have hqf : decide (x ∈ X.f dd) = false := by simpa using hq
        rw [hqf]
        have HQ : Hid (L.any (fun x => !decide (x ∈ X.f dd)) = true) := List.any_eq_true.2 ⟨x, HX.out, by rw [hqf]; rfl⟩
        clear hq hqf
        go_wp2_with fail
        go_ret
        exact ⟨(j : Int), rfl, by rw [HQ.out]; simp, HR2.out⟩
    · obtain rfl : j = n := by omega
      have HR := Lib.hid hR
      have HQ : Hid (L.any (fun x => !decide (x ∈ X.f dd)) = false) := by
        refine List.any_eq_false.2 fun x hx => ?_
        obtain ⟨i, hi, rfl⟩ := List.getElem_of_mem hx
        have := HB.out i (by rw [← HN.out]; exact hi)
        rw [List.getD_eq_getElem?_getD, List.getElem?_eq_getElem hi] at this
        simpa using this
      clear hR
      go_wp2_with fail
      go_ret
      exact ⟨-1, rfl, by rw [HQ.out]; rfl, HR.out⟩
set_option maxHeartbeats 1000000 in
theorem qcok_contains {r : List Thing} (nw nd : Nat) (dd : Int) (L : List Int) (ia : Option Addr) (ic n : Nat) (HN : Hid (L.length = n)) (hn : n ≤ 20000000) (hI : Cap r (fun x => IntsAt x ia L)) (hdb : Cap r (fun y => y.heap[nd]? = some (.cells #[.int .i64 dd] 3 (0, 0)))) (hwb : Cap r (fun y => y.heap[nw]? = some (.cells #[.pointer (some ⟨p, 0, none⟩)] 46 (0, 0)))) (h : Sys w m r) (hw : m 0 = worldT p d X) :
    Calls Try.prog 75 #[.slice ia n ic, .func (.func 76) #[] #[.pointer (some ⟨nw, 0, none⟩), .pointer (some ⟨nd, 0, none⟩)]] w fun e w' => e = .returned (.bool (L.any fun x => !decide (x ∈ X.f dd))) ∧ Sys w' m r := by
  have H := Lib.hid (qcok_index nw nd dd L ia ic n HN hn hI hdb hwb h hw)
  clear h hI hdb hwb
  go_enter Try.func75, Try.ntmps75
  go_wp2_with fail
  refine H.out.mono ?_
  rintro e w1 ⟨x, rfl, hx, h1⟩
  have HX := Lib.hid hx
  have H1 := Lib.hid h1
  clear hx h1 H
  by_cases h0 : 0 ≤ x
  · have hd : decide (0 ≤ x) = true := by simpa using h0
    have HD := Lib.hid (HX.out.symm.trans hd)
    clear h0
    go_wp2_with fail
    go_ret
    exact ⟨by rw [HD.out]; rfl, H1.out⟩
  · have hd : decide (0 ≤ x) = false := by simpa using h0
    have HD := Lib.hid (HX.out.symm.trans hd)
    clear h0
    go_wp2_with fail
    go_ret
    exact ⟨by rw [HD.out]; rfl, H1.out⟩
theorem size3 : (Try.prog.info? 28).map (·.size) = some 3 := by kernel_rfl
set_option maxRecDepth 100000 in
set_option maxHeartbeats 1000000 in
theorem cert_qcok (c : CfgX) (hg : c.Good) (view block : Int) (L : List Int) (ia : Option Addr) (ic : Nat) (hI : Cap l (fun x => IntsAt x ia L)) (hL : L.length ≤ 20000000) (h : Sys w m l) (hw : m 0 = worldT p d X) (hT : X.T.length ≤ 1000000000) :
    Calls Try.prog 33 #[.pointer (some ⟨p, 0, none⟩), .agg c.cells.toArray, .agg #[.int .i64 view, .int .i64 block, .slice ia L.length ic]] w fun e w' => e = .returned (.bool (qcB X c view block L)) ∧ Sys w' (upd m 0 (worldT p d (qcX X view block))) l := by
  obtain ⟨n, HN⟩ : ∃ n, Hid (L.length = n) := ⟨_, rfl⟩
  have hn : n ≤ 20000000 := by rw [← HN.out]; exact hL
  rw [HN.out]
  change Calls Try.prog 33 #[.pointer (some ⟨p, 0, none⟩), .agg #[.int .i64 c.f, .int .i64 c.n, .int .i64 c.cl, .int .i64 c.ba, .int .i64 c.mo, .int .i64 c.bt, .int .i64 c.po, .int .i64 c.wi], .agg #[.int .i64 view, .int .i64 block, .slice ia n ic]] w _
  have HI := Lib.hid hI
  have HG := Lib.hid hg
  have HTL := Lib.hid hT
  obtain ⟨nw, hnw⟩ : ∃ n, n = w.heap.size := ⟨_, rfl⟩
  obtain ⟨xw, hxw⟩ : ∃ y, y = w.alloc (.cells #[.pointer (some ⟨p, 0, none⟩)] 46 (0, 0)) := ⟨_, rfl⟩
  have hbw := h.alloc (.cells #[.pointer (some ⟨p, 0, none⟩)] 46 (0, 0)) hnw
  rw [← hxw] at hbw
  have EXw : Hid (w.alloc (.cells #[.pointer (some ⟨p, 0, none⟩)] 46 (0, 0)) = xw) := hxw.symm
  have ENw : Hid (w.heap.size = nw) := by show _ = _; rw [hnw]
  obtain ⟨nc, hnc⟩ : ∃ n, n = xw.heap.size := ⟨_, rfl⟩
  obtain ⟨xc, hxc⟩ : ∃ y, y = xw.alloc (.cells #[.int .i64 c.f, .int .i64 c.n, .int .i64 c.cl, .int .i64 c.ba, .int .i64 c.mo, .int .i64 c.bt, .int .i64 c.po, .int .i64 c.wi] 49 (0, 0)) := ⟨_, rfl⟩
  have hbc := hbw.alloc (.cells #[.int .i64 c.f, .int .i64 c.n, .int .i64 c.cl, .int .i64 c.ba, .int .i64 c.mo, .int .i64 c.bt, .int .i64 c.po, .int .i64 c.wi] 49 (0, 0)) hnc
  rw [← hxc] at hbc
  have EXc : Hid (xw.alloc (.cells #[.int .i64 c.f, .int .i64 c.n, .int .i64 c.cl, .int .i64 c.ba, .int .i64 c.mo, .int .i64 c.bt, .int .i64 c.po, .int .i64 c.wi] 49 (0, 0)) = xc) := hxc.symm
  have ENc : Hid (w.heap.size + 1 = nc) := by show _ = _; rw [hnc, hxw]; simp
  obtain ⟨nq, hnq⟩ : ∃ n, n = xc.heap.size := ⟨_, rfl⟩
  obtain ⟨xq, hxq⟩ : ∃ y, y = xc.alloc (.cells #[.int .i64 view, .int .i64 block, .slice ia n ic] 28 (0, 0)) := ⟨_, rfl⟩
  have hbq := hbc.alloc (.cells #[.int .i64 view, .int .i64 block, .slice ia n ic] 28 (0, 0)) hnq
  rw [← hxq] at hbq
  have EXq : Hid (xc.alloc (.cells #[.int .i64 view, .int .i64 block, .slice ia n ic] 28 (0, 0)) = xq) := hxq.symm
  have ENq : Hid (w.heap.size + 1 + 1 = nq) := by show _ = _; rw [hnq, hxc, hxw]; simp
  have H0 := Lib.hid hbq
  clear h hbw hxw hnw hbc hxc hnc hbq hxq hnq
  clear hI hg hT hL
  have c0 : xq.cell? ⟨nq, 0, none⟩ = some (.int .i64 view) := cell_of_blk H0.out.getBlk 0
  have c1 : xq.cell? ⟨nq, 1, none⟩ = some (.int .i64 block) := cell_of_blk H0.out.getBlk 1
  have cw : xq.cell? ⟨nw, 0, none⟩ = some (.pointer (some ⟨p, 0, none⟩)) := cell_of_blk H0.out.tail.tail.getBlk 0
  by_cases hv : view < 1
  · have hd : decide (view < 1) = true := by simpa using hv
    have H1 := Lib.hid H0.out.drew
    have hS1 := And.intro H1.out.getBlk (And.intro H1.out.tail.getBlk H1.out.tail.tail.getBlk)
    by_cases hv0 : view = 0
    · have hv1 : ((view : Int) == 0) = true := by simpa using hv0
      by_cases hb : block = dg X.T rootB
      · have hb1 : ((block : Int) == dg X.T rootB) = true := by simpa using hb
        have hl1 : ((n : Int) == 0) = decide (L = []) := by rw [← HN.out]; cases L <;> simp; omega
        have HR : Hid (qcB X c view block L = decide (L = [])) := by show _ = _; unfold qcB; rw [if_pos hv]; simp [hv0, hb]
        have HX : Hid (qcX X view block = X.digest rootB) := by show _ = _; unfold qcX; rw [if_pos hv, if_pos hv0]
        generalize decide (L = []) = bb at *
        clear hv hv0 hb c0 c1 cw
        go_enter Try.func33, Try.ntmps33
        go_upto_region 1 with fail
        rw [EXw.out, EXc.out, EXq.out, ENq.out, ENc.out, ENw.out]
        have c0 : xq.cell? ⟨nq, 0, none⟩ = some (.int .i64 view) := cell_of_blk H0.out.getBlk 0
        go_wp2_with fail
        refine wp_region_stage (fun x : World => x.heap[nq]? = some (.cells #[.int .i64 view, .int .i64 block, .slice ia n ic] 28 (0, 0)) ∧ x.heap[nc]? = some (.cells #[.int .i64 c.f, .int .i64 c.n, .int .i64 c.cl, .int .i64 c.ba, .int .i64 c.mo, .int .i64 c.bt, .int .i64 c.po, .int .i64 c.wi] 49 (0, 0)) ∧ x.heap[nw]? = some (.cells #[.pointer (some ⟨p, 0, none⟩)] 46 (0, 0))) [] (by kernel_rfl) ?_
        refine takeS 0 (some 11) (v := ?_) rfl (by rfl) (by kernel_rfl) (by kernel_rfl) (by kernel_rfl) (fun _ _ _ h => h) (by kernel_rfl) (by kernel_rfl) (by kernel_rfl) ?_ (by assumption) ?_
        rotate_left
        · (intro w hSw; refine exec_load_row 49 (.tmp 4) ?_ nc ?_ _ _ _ _ hSw.2.1 Try.underlying49 ?_ size8 <;> rfl)
        try simp only [Act.put, List.setIfInBounds_toArray, List.set_cons_zero, List.set_cons_succ]
        refine oneT 1 (by kernel_rfl) rfl (fun K hK => ?_)
        go_simp
        go_at_call 73
        refine (cert_fits c HG.out H1.out).mono ?_
        rintro e w2 ⟨rfl, h2⟩
        have hS1 := And.intro h2.getBlk (And.intro h2.tail.getBlk h2.tail.tail.getBlk)
        have H2 := Lib.hid h2
        clear h2
        go_wp2_with fail
        refine hK.out _ _ (Stage.still ?_) (fun hSt => ?_)
        · (try dsimp only); exact hS1
        clear hK K hSt
        try simp only [Act.put, List.setIfInBounds_toArray, List.set_cons_zero, List.set_cons_succ]
        refine takeW 2 (some 13) (v := ?_) rfl (by rfl) (by kernel_rfl) (by kernel_rfl) (by kernel_rfl) (fun _ _ _ h => h) (by kernel_rfl) (by kernel_rfl) ?_ (Stage.still (by assumption)) ?_
        rotate_left
        · (intro w; go_simp; try (with_reducible rfl))
        try simp only [Act.put, List.setIfInBounds_toArray, List.set_cons_zero, List.set_cons_succ]
        refine takeW 3 (some 14) (v := ?_) rfl (by rfl) (by kernel_rfl) (by kernel_rfl) (by kernel_rfl) (fun _ _ _ h => h) (by kernel_rfl) (by kernel_rfl) ?_ (Stage.still (by assumption)) ?_
        rotate_left
        · (intro w; go_simp; try (with_reducible rfl))
        try simp only [Act.put, List.setIfInBounds_toArray, List.set_cons_zero, List.set_cons_succ]
        refine takeS 4 (some 15) (v := ?_) rfl (by rfl) (by kernel_rfl) (by kernel_rfl) (by kernel_rfl) (fun _ _ _ h => h) (by kernel_rfl) (by kernel_rfl) (by kernel_rfl) ?_ (by assumption) ?_
        rotate_left
        · (intro w hSw; have c : w.cell? ⟨nq, 0, none⟩ = some (.int .i64 view) := cell_of_blk hSw.1 0; clear hSw; go_simp; try (with_reducible rfl))
        try simp only [Act.put, List.setIfInBounds_toArray, List.set_cons_zero, List.set_cons_succ]
        refine takeW 5 (some 16) (v := ?_) rfl (by rfl) (by kernel_rfl) (by kernel_rfl) (by kernel_rfl) (fun _ _ _ h => h) (by kernel_rfl) (by kernel_rfl) ?_ (Stage.still (by assumption)) ?_
        rotate_left
        · (intro w; go_simp; try (with_reducible rfl))
        try simp only [Act.put, List.setIfInBounds_toArray, List.set_cons_zero, List.set_cons_succ]
        refine takeW 6 (some 17) (v := ?_) rfl (by rfl) (by kernel_rfl) (by kernel_rfl) (by kernel_rfl) (fun _ _ _ h => h) (by kernel_rfl) (by kernel_rfl) ?_ (Stage.still (by assumption)) ?_
        rotate_left
        · (intro w; go_simp; try (with_reducible rfl))
        try simp only [Act.put, List.setIfInBounds_toArray, List.set_cons_zero, List.set_cons_succ]
        refine takeW 7 (some 18) (v := ?_) rfl (by rfl) (by kernel_rfl) (by kernel_rfl) (by kernel_rfl) (fun _ _ _ h => h) (by kernel_rfl) (by kernel_rfl) ?_ (Stage.still (by assumption)) ?_
        rotate_left
        · (intro w; go_simp; try (with_reducible rfl))
        try simp only [Act.put, List.setIfInBounds_toArray, List.set_cons_zero, List.set_cons_succ]
        refine takeW 8 (some 19) (v := ?_) rfl (by rfl) (by kernel_rfl) (by kernel_rfl) (by kernel_rfl) (fun _ _ _ h => h) (by kernel_rfl) (by kernel_rfl) ?_ (Stage.still (by assumption)) ?_
        rotate_left
        · (intro w; go_simp; try (with_reducible rfl))
        try simp only [Act.put, List.setIfInBounds_toArray, List.set_cons_zero, List.set_cons_succ]
        refine takeS 9 (some 20) (v := ?_) rfl (by rfl) (by kernel_rfl) (by kernel_rfl) (by kernel_rfl) (fun _ _ _ h => h) (by kernel_rfl) (by kernel_rfl) (by kernel_rfl) ?_ (by assumption) ?_
        rotate_left
        · (intro w hSw; have c : w.cell? ⟨nq, 1, none⟩ = some (.int .i64 block) := cell_of_blk hSw.1 1; clear hSw; go_simp; try (with_reducible rfl))
        try simp only [Act.put, List.setIfInBounds_toArray, List.set_cons_zero, List.set_cons_succ]
        refine takeS 10 (some 21) (v := ?_) rfl (by rfl) (by kernel_rfl) (by kernel_rfl) (by kernel_rfl) (fun _ _ _ h => h) (by kernel_rfl) (by kernel_rfl) (by kernel_rfl) ?_ (by assumption) ?_
        rotate_left
        · (intro w hSw; have c : w.cell? ⟨nw, 0, none⟩ = some (.pointer (some ⟨p, 0, none⟩)) := cell_of_blk hSw.2.2 0; clear hSw; go_simp; try (with_reducible rfl))
        try simp only [Act.put, List.setIfInBounds_toArray, List.set_cons_zero, List.set_cons_succ]
        refine oneT 11 (by kernel_rfl) rfl (fun K hK => ?_)
        go_simp
        go_at_call 29
        refine (cert_root H2.out hw HTL.out).mono ?_
        rintro e w3 ⟨rfl, h3⟩
        have hS1 := And.intro h3.getBlk (And.intro h3.tail.getBlk h3.tail.tail.getBlk)
        have H3 := Lib.hid h3
        clear h3
        go_wp2_with fail
        refine hK.out _ _ (Stage.still ?_) (fun hSt => ?_)
        · (try dsimp only); exact hS1
        clear hK K hSt
        try simp only [Act.put, List.setIfInBounds_toArray, List.set_cons_zero, List.set_cons_succ]
        refine takeW 12 (some 23) (v := ?_) rfl (by rfl) (by kernel_rfl) (by kernel_rfl) (by kernel_rfl) (fun _ _ _ h => h) (by kernel_rfl) (by kernel_rfl) ?_ (Stage.still (by assumption)) ?_
        rotate_left
        · (intro w; go_simp; try (with_reducible rfl))
        try simp only [Act.put, List.setIfInBounds_toArray, List.set_cons_zero, List.set_cons_succ]
        refine takeW 13 (some 24) (v := ?_) rfl (by rfl) (by kernel_rfl) (by kernel_rfl) (by kernel_rfl) (fun _ _ _ h => h) (by kernel_rfl) (by kernel_rfl) ?_ (Stage.still (by assumption)) ?_
        rotate_left
        · (intro w; go_simp; try (with_reducible rfl))
        try simp only [Act.put, List.setIfInBounds_toArray, List.set_cons_zero, List.set_cons_succ]
        refine takeW 14 (some 25) (v := ?_) rfl (by rfl) (by kernel_rfl) (by kernel_rfl) (by kernel_rfl) (fun _ _ _ h => h) (by kernel_rfl) (by kernel_rfl) ?_ (Stage.still (by assumption)) ?_
        rotate_left
        · (intro w; go_simp; try (with_reducible rfl))
        try simp only [Act.put, List.setIfInBounds_toArray, List.set_cons_zero, List.set_cons_succ]
        refine takeW 15 (some 26) (v := ?_) rfl (by rfl) (by kernel_rfl) (by kernel_rfl) (by kernel_rfl) (fun _ _ _ h => h) (by kernel_rfl) (by kernel_rfl) ?_ (Stage.still (by assumption)) ?_
        rotate_left
        · (intro w; go_simp; try (with_reducible rfl))
        try simp only [Act.put, List.setIfInBounds_toArray, List.set_cons_zero, List.set_cons_succ]
        refine takeS 16 (some 27) (v := ?_) rfl (by rfl) (by kernel_rfl) (by kernel_rfl) (by kernel_rfl) (fun _ _ _ h => h) (by kernel_rfl) (by kernel_rfl) (by kernel_rfl) ?_ (by assumption) ?_
        rotate_left
        · (intro w hSw; have c : w.cell? ⟨nq, 2, none⟩ = some (.slice ia n ic) := cell_of_blk hSw.1 2; clear hSw; go_simp; try (with_reducible rfl))
        try simp only [Act.put, List.setIfInBounds_toArray, List.set_cons_zero, List.set_cons_succ]
        refine takeW 17 (some 28) (v := ?_) rfl (by rfl) (by kernel_rfl) (by kernel_rfl) (by kernel_rfl) (fun _ _ _ h => h) (by kernel_rfl) (by kernel_rfl) ?_ (Stage.still (by assumption)) ?_
        rotate_left
        · (intro w; go_simp; try (with_reducible rfl))
        try simp only [Act.put, List.setIfInBounds_toArray, List.set_cons_zero, List.set_cons_succ]
        refine takeW 18 (some 29) (v := ?_) rfl (by rfl) (by kernel_rfl) (by kernel_rfl) (by kernel_rfl) (fun _ _ _ h => h) (by kernel_rfl) (by kernel_rfl) ?_ (Stage.still (by assumption)) ?_
        rotate_left
        · (intro w; go_simp; try (with_reducible rfl))
        try simp only [Act.put, List.setIfInBounds_toArray, List.set_cons_zero, List.set_cons_succ]
        refine takeW 19 (some 30) (v := ?_) rfl (by rfl) (by kernel_rfl) (by kernel_rfl) (by kernel_rfl) (fun _ _ _ h => h) (by kernel_rfl) (by kernel_rfl) ?_ (Stage.still (by assumption)) ?_
        rotate_left
        · (intro w; go_simp; try (with_reducible rfl))
        try simp only [Act.put, List.setIfInBounds_toArray, List.set_cons_zero, List.set_cons_succ]
        refine takeW 20 (some 6) (v := ?_) rfl (by rfl) (by kernel_rfl) (by kernel_rfl) (by kernel_rfl) (fun _ _ _ h => h) (by kernel_rfl) (by kernel_rfl) ?_ (Stage.still (by assumption)) ?_
        rotate_left
        · (intro w; go_simp; try (with_reducible rfl))
        try simp only [Act.put, List.setIfInBounds_toArray, List.set_cons_zero, List.set_cons_succ]
        refine doneT (by kernel_rfl) ?_ _
        go_wp2_with fail
        go_ret
        exact ⟨by rw [HR.out]; rfl, by rw [HX.out]; exact H3.out.tail.tail.tail⟩
      · have hb1 : ((block : Int) == dg X.T rootB) = false := by simpa using hb
        have HR : Hid (qcB X c view block L = false) := by show _ = _; unfold qcB; rw [if_pos hv]; simp [hb]
        have HX : Hid (qcX X view block = X.digest rootB) := by show _ = _; unfold qcX; rw [if_pos hv, if_pos hv0]
        clear hv hv0 hb c0 c1 cw
        go_enter Try.func33, Try.ntmps33
        go_upto_region 1 with fail
        rw [EXw.out, EXc.out, EXq.out, ENq.out, ENc.out, ENw.out]
        have c0 : xq.cell? ⟨nq, 0, none⟩ = some (.int .i64 view) := cell_of_blk H0.out.getBlk 0
        go_wp2_with fail
        refine wp_region_stage (fun x : World => x.heap[nq]? = some (.cells #[.int .i64 view, .int .i64 block, .slice ia n ic] 28 (0, 0)) ∧ x.heap[nc]? = some (.cells #[.int .i64 c.f, .int .i64 c.n, .int .i64 c.cl, .int .i64 c.ba, .int .i64 c.mo, .int .i64 c.bt, .int .i64 c.po, .int .i64 c.wi] 49 (0, 0)) ∧ x.heap[nw]? = some (.cells #[.pointer (some ⟨p, 0, none⟩)] 46 (0, 0))) [] (by kernel_rfl) ?_
        refine takeS 0 (some 11) (v := ?_) rfl (by rfl) (by kernel_rfl) (by kernel_rfl) (by kernel_rfl) (fun _ _ _ h => h) (by kernel_rfl) (by kernel_rfl) (by kernel_rfl) ?_ (by assumption) ?_
        rotate_left
        · (intro w hSw; refine exec_load_row 49 (.tmp 4) ?_ nc ?_ _ _ _ _ hSw.2.1 Try.underlying49 ?_ size8 <;> rfl)
        try simp only [Act.put, List.setIfInBounds_toArray, List.set_cons_zero, List.set_cons_succ]
        refine oneT 1 (by kernel_rfl) rfl (fun K hK => ?_)
        go_simp
        go_at_call 73
        refine (cert_fits c HG.out H1.out).mono ?_
        rintro e w2 ⟨rfl, h2⟩
        have hS1 := And.intro h2.getBlk (And.intro h2.tail.getBlk h2.tail.tail.getBlk)
        have H2 := Lib.hid h2
        clear h2
        go_wp2_with fail
        refine hK.out _ _ (Stage.still ?_) (fun hSt => ?_)
        · (try dsimp only); exact hS1
        clear hK K hSt
        try simp only [Act.put, List.setIfInBounds_toArray, List.set_cons_zero, List.set_cons_succ]
        refine takeW 2 (some 13) (v := ?_) rfl (by rfl) (by kernel_rfl) (by kernel_rfl) (by kernel_rfl) (fun _ _ _ h => h) (by kernel_rfl) (by kernel_rfl) ?_ (Stage.still (by assumption)) ?_
        rotate_left
        · (intro w; go_simp; try (with_reducible rfl))
        try simp only [Act.put, List.setIfInBounds_toArray, List.set_cons_zero, List.set_cons_succ]
        refine takeW 3 (some 14) (v := ?_) rfl (by rfl) (by kernel_rfl) (by kernel_rfl) (by kernel_rfl) (fun _ _ _ h => h) (by kernel_rfl) (by kernel_rfl) ?_ (Stage.still (by assumption)) ?_
        rotate_left
        · (intro w; go_simp; try (with_reducible rfl))
        try simp only [Act.put, List.setIfInBounds_toArray, List.set_cons_zero, List.set_cons_succ]
        refine takeS 4 (some 15) (v := ?_) rfl (by rfl) (by kernel_rfl) (by kernel_rfl) (by kernel_rfl) (fun _ _ _ h => h) (by kernel_rfl) (by kernel_rfl) (by kernel_rfl) ?_ (by assumption) ?_
        rotate_left
        · (intro w hSw; have c : w.cell? ⟨nq, 0, none⟩ = some (.int .i64 view) := cell_of_blk hSw.1 0; clear hSw; go_simp; try (with_reducible rfl))
        try simp only [Act.put, List.setIfInBounds_toArray, List.set_cons_zero, List.set_cons_succ]
        refine takeW 5 (some 16) (v := ?_) rfl (by rfl) (by kernel_rfl) (by kernel_rfl) (by kernel_rfl) (fun _ _ _ h => h) (by kernel_rfl) (by kernel_rfl) ?_ (Stage.still (by assumption)) ?_
        rotate_left
        · (intro w; go_simp; try (with_reducible rfl))
        try simp only [Act.put, List.setIfInBounds_toArray, List.set_cons_zero, List.set_cons_succ]
        refine takeW 6 (some 17) (v := ?_) rfl (by rfl) (by kernel_rfl) (by kernel_rfl) (by kernel_rfl) (fun _ _ _ h => h) (by kernel_rfl) (by kernel_rfl) ?_ (Stage.still (by assumption)) ?_
        rotate_left
        · (intro w; go_simp; try (with_reducible rfl))
        try simp only [Act.put, List.setIfInBounds_toArray, List.set_cons_zero, List.set_cons_succ]
        refine takeW 7 (some 18) (v := ?_) rfl (by rfl) (by kernel_rfl) (by kernel_rfl) (by kernel_rfl) (fun _ _ _ h => h) (by kernel_rfl) (by kernel_rfl) ?_ (Stage.still (by assumption)) ?_
        rotate_left
        · (intro w; go_simp; try (with_reducible rfl))
        try simp only [Act.put, List.setIfInBounds_toArray, List.set_cons_zero, List.set_cons_succ]
        refine takeW 8 (some 19) (v := ?_) rfl (by rfl) (by kernel_rfl) (by kernel_rfl) (by kernel_rfl) (fun _ _ _ h => h) (by kernel_rfl) (by kernel_rfl) ?_ (Stage.still (by assumption)) ?_
        rotate_left
        · (intro w; go_simp; try (with_reducible rfl))
        try simp only [Act.put, List.setIfInBounds_toArray, List.set_cons_zero, List.set_cons_succ]
        refine takeS 9 (some 20) (v := ?_) rfl (by rfl) (by kernel_rfl) (by kernel_rfl) (by kernel_rfl) (fun _ _ _ h => h) (by kernel_rfl) (by kernel_rfl) (by kernel_rfl) ?_ (by assumption) ?_
        rotate_left
        · (intro w hSw; have c : w.cell? ⟨nq, 1, none⟩ = some (.int .i64 block) := cell_of_blk hSw.1 1; clear hSw; go_simp; try (with_reducible rfl))
        try simp only [Act.put, List.setIfInBounds_toArray, List.set_cons_zero, List.set_cons_succ]
        refine takeS 10 (some 21) (v := ?_) rfl (by rfl) (by kernel_rfl) (by kernel_rfl) (by kernel_rfl) (fun _ _ _ h => h) (by kernel_rfl) (by kernel_rfl) (by kernel_rfl) ?_ (by assumption) ?_
        rotate_left
        · (intro w hSw; have c : w.cell? ⟨nw, 0, none⟩ = some (.pointer (some ⟨p, 0, none⟩)) := cell_of_blk hSw.2.2 0; clear hSw; go_simp; try (with_reducible rfl))
        try simp only [Act.put, List.setIfInBounds_toArray, List.set_cons_zero, List.set_cons_succ]
        refine oneT 11 (by kernel_rfl) rfl (fun K hK => ?_)
        go_simp
        go_at_call 29
        refine (cert_root H2.out hw HTL.out).mono ?_
        rintro e w3 ⟨rfl, h3⟩
        have hS1 := And.intro h3.getBlk (And.intro h3.tail.getBlk h3.tail.tail.getBlk)
        have H3 := Lib.hid h3
        clear h3
        go_wp2_with fail
        refine hK.out _ _ (Stage.still ?_) (fun hSt => ?_)
        · (try dsimp only); exact hS1
        clear hK K hSt
        try simp only [Act.put, List.setIfInBounds_toArray, List.set_cons_zero, List.set_cons_succ]
        refine takeW 12 (some 23) (v := ?_) rfl (by rfl) (by kernel_rfl) (by kernel_rfl) (by kernel_rfl) (fun _ _ _ h => h) (by kernel_rfl) (by kernel_rfl) ?_ (Stage.still (by assumption)) ?_
        rotate_left
        · (intro w; go_simp; try (with_reducible rfl))
        try simp only [Act.put, List.setIfInBounds_toArray, List.set_cons_zero, List.set_cons_succ]
        refine takeW 13 (some 24) (v := ?_) rfl (by rfl) (by kernel_rfl) (by kernel_rfl) (by kernel_rfl) (fun _ _ _ h => h) (by kernel_rfl) (by kernel_rfl) ?_ (Stage.still (by assumption)) ?_
        rotate_left
        · (intro w; go_simp; try (with_reducible rfl))
        try simp only [Act.put, List.setIfInBounds_toArray, List.set_cons_zero, List.set_cons_succ]
        refine takeW 14 (some 25) (v := ?_) rfl (by rfl) (by kernel_rfl) (by kernel_rfl) (by kernel_rfl) (fun _ _ _ h => h) (by kernel_rfl) (by kernel_rfl) ?_ (Stage.still (by assumption)) ?_
        rotate_left
        · (intro w; go_simp; try (with_reducible rfl))
        try simp only [Act.put, List.setIfInBounds_toArray, List.set_cons_zero, List.set_cons_succ]
        refine skipT 15 (some 26) (by kernel_rfl) (by kernel_rfl) (by kernel_rfl) (by kernel_rfl) (fun _ _ _ h => h) (by kernel_rfl) (Stage.still (by assumption)) ?_
        try simp only [Act.put, List.setIfInBounds_toArray, List.set_cons_zero, List.set_cons_succ]
        refine skipT 16 (some 27) (by kernel_rfl) (by kernel_rfl) (by kernel_rfl) (by kernel_rfl) (fun _ _ _ h => h) (by kernel_rfl) (Stage.still (by assumption)) ?_
        try simp only [Act.put, List.setIfInBounds_toArray, List.set_cons_zero, List.set_cons_succ]
        refine skipT 17 (some 28) (by kernel_rfl) (by kernel_rfl) (by kernel_rfl) (by kernel_rfl) (fun _ _ _ h => h) (by kernel_rfl) (Stage.still (by assumption)) ?_
        try simp only [Act.put, List.setIfInBounds_toArray, List.set_cons_zero, List.set_cons_succ]
        refine skipT 18 (some 29) (by kernel_rfl) (by kernel_rfl) (by kernel_rfl) (by kernel_rfl) (fun _ _ _ h => h) (by kernel_rfl) (Stage.still (by assumption)) ?_
        try simp only [Act.put, List.setIfInBounds_toArray, List.set_cons_zero, List.set_cons_succ]
        refine takeW 19 (some 30) (v := ?_) rfl (by rfl) (by kernel_rfl) (by kernel_rfl) (by kernel_rfl) (fun _ _ _ h => h) (by kernel_rfl) (by kernel_rfl) ?_ (Stage.still (by assumption)) ?_
        rotate_left
        · (intro w; go_simp; try (with_reducible rfl))
        try simp only [Act.put, List.setIfInBounds_toArray, List.set_cons_zero, List.set_cons_succ]
        refine takeW 20 (some 6) (v := ?_) rfl (by rfl) (by kernel_rfl) (by kernel_rfl) (by kernel_rfl) (fun _ _ _ h => h) (by kernel_rfl) (by kernel_rfl) ?_ (Stage.still (by assumption)) ?_
        rotate_left
        · (intro w; go_simp; try (with_reducible rfl))
        try simp only [Act.put, List.setIfInBounds_toArray, List.set_cons_zero, List.set_cons_succ]
        refine doneT (by kernel_rfl) ?_ _
        go_wp2_with fail
        go_ret
        exact ⟨by rw [HR.out]; rfl, by rw [HX.out]; exact H3.out.tail.tail.tail⟩
    · have hv1 : ((view : Int) == 0) = false := by simpa using hv0
      have HR : Hid (qcB X c view block L = false) := by show _ = _; unfold qcB; rw [if_pos hv]; simp [hv0]
      have HX : Hid (qcX X view block = X) := by show _ = _; unfold qcX; rw [if_pos hv, if_neg hv0]
      clear hv hv0 c0 c1 cw
      go_enter Try.func33, Try.ntmps33
      go_upto_region 1 with fail
      rw [EXw.out, EXc.out, EXq.out, ENq.out, ENc.out, ENw.out]
      have c0 : xq.cell? ⟨nq, 0, none⟩ = some (.int .i64 view) := cell_of_blk H0.out.getBlk 0
      go_wp2_with fail
      refine wp_region_stage (fun x : World => x.heap[nq]? = some (.cells #[.int .i64 view, .int .i64 block, .slice ia n ic] 28 (0, 0)) ∧ x.heap[nc]? = some (.cells #[.int .i64 c.f, .int .i64 c.n, .int .i64 c.cl, .int .i64 c.ba, .int .i64 c.mo, .int .i64 c.bt, .int .i64 c.po, .int .i64 c.wi] 49 (0, 0)) ∧ x.heap[nw]? = some (.cells #[.pointer (some ⟨p, 0, none⟩)] 46 (0, 0))) [] (by kernel_rfl) ?_
      refine takeS 0 (some 11) (v := ?_) rfl (by rfl) (by kernel_rfl) (by kernel_rfl) (by kernel_rfl) (fun _ _ _ h => h) (by kernel_rfl) (by kernel_rfl) (by kernel_rfl) ?_ (by assumption) ?_
      rotate_left
      · (intro w hSw; refine exec_load_row 49 (.tmp 4) ?_ nc ?_ _ _ _ _ hSw.2.1 Try.underlying49 ?_ size8 <;> rfl)
      try simp only [Act.put, List.setIfInBounds_toArray, List.set_cons_zero, List.set_cons_succ]
      refine oneT 1 (by kernel_rfl) rfl (fun K hK => ?_)
      go_simp
      go_at_call 73
      refine (cert_fits c HG.out H1.out).mono ?_
      rintro e w2 ⟨rfl, h2⟩
      have hS1 := And.intro h2.getBlk (And.intro h2.tail.getBlk h2.tail.tail.getBlk)
      have H2 := Lib.hid h2
      clear h2
      go_wp2_with fail
      refine hK.out _ _ (Stage.still ?_) (fun hSt => ?_)
      · (try dsimp only); exact hS1
      clear hK K hSt
      try simp only [Act.put, List.setIfInBounds_toArray, List.set_cons_zero, List.set_cons_succ]
      refine takeW 2 (some 13) (v := ?_) rfl (by rfl) (by kernel_rfl) (by kernel_rfl) (by kernel_rfl) (fun _ _ _ h => h) (by kernel_rfl) (by kernel_rfl) ?_ (Stage.still (by assumption)) ?_
      rotate_left
      · (intro w; go_simp; try (with_reducible rfl))
      try simp only [Act.put, List.setIfInBounds_toArray, List.set_cons_zero, List.set_cons_succ]
      refine takeW 3 (some 14) (v := ?_) rfl (by rfl) (by kernel_rfl) (by kernel_rfl) (by kernel_rfl) (fun _ _ _ h => h) (by kernel_rfl) (by kernel_rfl) ?_ (Stage.still (by assumption)) ?_
      rotate_left
      · (intro w; go_simp; try (with_reducible rfl))
      try simp only [Act.put, List.setIfInBounds_toArray, List.set_cons_zero, List.set_cons_succ]
      refine takeS 4 (some 15) (v := ?_) rfl (by rfl) (by kernel_rfl) (by kernel_rfl) (by kernel_rfl) (fun _ _ _ h => h) (by kernel_rfl) (by kernel_rfl) (by kernel_rfl) ?_ (by assumption) ?_
      rotate_left
      · (intro w hSw; have c : w.cell? ⟨nq, 0, none⟩ = some (.int .i64 view) := cell_of_blk hSw.1 0; clear hSw; go_simp; try (with_reducible rfl))
      try simp only [Act.put, List.setIfInBounds_toArray, List.set_cons_zero, List.set_cons_succ]
      refine takeW 5 (some 16) (v := ?_) rfl (by rfl) (by kernel_rfl) (by kernel_rfl) (by kernel_rfl) (fun _ _ _ h => h) (by kernel_rfl) (by kernel_rfl) ?_ (Stage.still (by assumption)) ?_
      rotate_left
      · (intro w; go_simp; try (with_reducible rfl))
      try simp only [Act.put, List.setIfInBounds_toArray, List.set_cons_zero, List.set_cons_succ]
      refine takeW 6 (some 17) (v := ?_) rfl (by rfl) (by kernel_rfl) (by kernel_rfl) (by kernel_rfl) (fun _ _ _ h => h) (by kernel_rfl) (by kernel_rfl) ?_ (Stage.still (by assumption)) ?_
      rotate_left
      · (intro w; go_simp; try (with_reducible rfl))
      try simp only [Act.put, List.setIfInBounds_toArray, List.set_cons_zero, List.set_cons_succ]
      refine takeW 7 (some 18) (v := ?_) rfl (by rfl) (by kernel_rfl) (by kernel_rfl) (by kernel_rfl) (fun _ _ _ h => h) (by kernel_rfl) (by kernel_rfl) ?_ (Stage.still (by assumption)) ?_
      rotate_left
      · (intro w; go_simp; try (with_reducible rfl))
      try simp only [Act.put, List.setIfInBounds_toArray, List.set_cons_zero, List.set_cons_succ]
      refine skipT 8 (some 19) (by kernel_rfl) (by kernel_rfl) (by kernel_rfl) (by kernel_rfl) (fun _ _ _ h => h) (by kernel_rfl) (Stage.still (by assumption)) ?_
      try simp only [Act.put, List.setIfInBounds_toArray, List.set_cons_zero, List.set_cons_succ]
      refine skipT 9 (some 20) (by kernel_rfl) (by kernel_rfl) (by kernel_rfl) (by kernel_rfl) (fun _ _ _ h => h) (by kernel_rfl) (Stage.still (by assumption)) ?_
      try simp only [Act.put, List.setIfInBounds_toArray, List.set_cons_zero, List.set_cons_succ]
      refine skipT 10 (some 21) (by kernel_rfl) (by kernel_rfl) (by kernel_rfl) (by kernel_rfl) (fun _ _ _ h => h) (by kernel_rfl) (Stage.still (by assumption)) ?_
      try simp only [Act.put, List.setIfInBounds_toArray, List.set_cons_zero, List.set_cons_succ]
      refine skipT 11 (some 22) (by kernel_rfl) (by kernel_rfl) (by kernel_rfl) (by kernel_rfl) (fun _ _ _ h => h) (by kernel_rfl) (Stage.still (by assumption)) ?_
      try simp only [Act.put, List.setIfInBounds_toArray, List.set_cons_zero, List.set_cons_succ]
      refine skipT 12 (some 23) (by kernel_rfl) (by kernel_rfl) (by kernel_rfl) (by kernel_rfl) (fun _ _ _ h => h) (by kernel_rfl) (Stage.still (by assumption)) ?_
      try simp only [Act.put, List.setIfInBounds_toArray, List.set_cons_zero, List.set_cons_succ]
      refine takeW 13 (some 24) (v := ?_) rfl (by rfl) (by kernel_rfl) (by kernel_rfl) (by kernel_rfl) (fun _ _ _ h => h) (by kernel_rfl) (by kernel_rfl) ?_ (Stage.still (by assumption)) ?_
      rotate_left
      · (intro w; go_simp; try (with_reducible rfl))
      try simp only [Act.put, List.setIfInBounds_toArray, List.set_cons_zero, List.set_cons_succ]
      refine takeW 14 (some 25) (v := ?_) rfl (by rfl) (by kernel_rfl) (by kernel_rfl) (by kernel_rfl) (fun _ _ _ h => h) (by kernel_rfl) (by kernel_rfl) ?_ (Stage.still (by assumption)) ?_
      rotate_left
      · (intro w; go_simp; try (with_reducible rfl))
      try simp only [Act.put, List.setIfInBounds_toArray, List.set_cons_zero, List.set_cons_succ]
      refine skipT 15 (some 26) (by kernel_rfl) (by kernel_rfl) (by kernel_rfl) (by kernel_rfl) (fun _ _ _ h => h) (by kernel_rfl) (Stage.still (by assumption)) ?_
      try simp only [Act.put, List.setIfInBounds_toArray, List.set_cons_zero, List.set_cons_succ]
      refine skipT 16 (some 27) (by kernel_rfl) (by kernel_rfl) (by kernel_rfl) (by kernel_rfl) (fun _ _ _ h => h) (by kernel_rfl) (Stage.still (by assumption)) ?_
      try simp only [Act.put, List.setIfInBounds_toArray, List.set_cons_zero, List.set_cons_succ]
      refine skipT 17 (some 28) (by kernel_rfl) (by kernel_rfl) (by kernel_rfl) (by kernel_rfl) (fun _ _ _ h => h) (by kernel_rfl) (Stage.still (by assumption)) ?_
      try simp only [Act.put, List.setIfInBounds_toArray, List.set_cons_zero, List.set_cons_succ]
      refine skipT 18 (some 29) (by kernel_rfl) (by kernel_rfl) (by kernel_rfl) (by kernel_rfl) (fun _ _ _ h => h) (by kernel_rfl) (Stage.still (by assumption)) ?_
      try simp only [Act.put, List.setIfInBounds_toArray, List.set_cons_zero, List.set_cons_succ]
      refine takeW 19 (some 30) (v := ?_) rfl (by rfl) (by kernel_rfl) (by kernel_rfl) (by kernel_rfl) (fun _ _ _ h => h) (by kernel_rfl) (by kernel_rfl) ?_ (Stage.still (by assumption)) ?_
      rotate_left
      · (intro w; go_simp; try (with_reducible rfl))
      try simp only [Act.put, List.setIfInBounds_toArray, List.set_cons_zero, List.set_cons_succ]
      refine takeW 20 (some 6) (v := ?_) rfl (by rfl) (by kernel_rfl) (by kernel_rfl) (by kernel_rfl) (fun _ _ _ h => h) (by kernel_rfl) (by kernel_rfl) ?_ (Stage.still (by assumption)) ?_
      rotate_left
      · (intro w; go_simp; try (with_reducible rfl))
      try simp only [Act.put, List.setIfInBounds_toArray, List.set_cons_zero, List.set_cons_succ]
      refine doneT (by kernel_rfl) ?_ _
      go_wp2_with fail
      go_ret
      exact ⟨by rw [HR.out]; rfl, by rw [HX.out]; have h := H2.out.tail.tail.tail; rwa [upd_self hw]⟩
  · have hd : decide (view < 1) = false := by simpa using hv
    have HV : Hid (1 ≤ view) := by show _ ≤ _; omega
    clear hv
    go_enter Try.func33, Try.ntmps33
    go_upto_region 1 with fail
    rw [EXw.out, EXc.out, EXq.out, ENq.out, ENc.out, ENw.out]
    go_wp2_with fail
    refine (cert_vote view block H0.out hw HTL.out).mono ?_
    rintro e w1 ⟨rfl, h1⟩
    obtain ⟨dd, hdd⟩ : ∃ dd, dd = dg X.T (voteB view block) := ⟨_, rfl⟩
    rw [← hdd]
    have HDD := Lib.hid hdd
    obtain ⟨nd, hnd⟩ : ∃ n, n = w1.heap.size := ⟨_, rfl⟩
    obtain ⟨w2, hw2⟩ : ∃ y, y = w1.alloc (.cells #[.int .i64 dd] 3 (0, 0)) := ⟨_, rfl⟩
    have h2 := h1.alloc (.cells #[.int .i64 dd] 3 (0, 0)) hnd
    rw [← hw2] at h2
    have E2 := Lib.hid hw2
    have END := Lib.hid hnd
    have H2 := Lib.hid h2
    have cq : w2.cell? ⟨nq, 2, none⟩ = some (.slice ia n ic) := cell_of_blk h2.tail.getBlk 2
    obtain ⟨q0, q1, q2, q3, q4, q5, q6, q7⟩ := cfg_cells h2.tail.tail.getBlk
    clear h1 hdd hnd hw2 h2 c0 c1 cw
    go_upto_region 4 with fail
    rw [← E2.out, ← END.out]
    go_wp2_with fail
    have HM0 := Lib.hid (cert_many c HG.out L ia ic HI.out.push.push.push.push (by rw [HN.out]; exact hn) H2.out)
    rw [HN.out] at HM0
    refine HM0.out.mono ?_
    rintro e w3 ⟨rfl, h3⟩
    have cq : w3.cell? ⟨nq, 2, none⟩ = some (.slice ia n ic) := cell_of_blk h3.tail.getBlk 2
    have H3 := Lib.hid h3
    clear h3 HM0 q0 q1 q2 q3 q4 q5 q6 q7
    by_cases hm : manyB c L = true
    · rw [hm]
      go_wp2_with fail
      refine (qcok_contains nw nd dd L ia ic n HN hn HI.out.push.push.push.push (fun _ _ h' => h'.getBlk) (fun _ _ h' => h'.tail.tail.tail.getBlk) H3.out (upd_same _ _ _)).mono ?_
      rintro e w4 ⟨rfl, h4⟩
      have H4 := Lib.hid h4.tail.tail.tail.tail
      have HR : Hid (qcB X c view block L = !(L.any fun x => !decide (x ∈ (X.digest (voteB view block)).f dd))) := by
        show _ = _
        unfold qcB
        rw [if_neg (by have := HV.out; omega), hm, HDD.out]
        rw [Bool.true_and, all_any]
        rfl
      have HX : Hid (qcX X view block = X.digest (voteB view block)) := by show _ = _; unfold qcX; rw [if_neg (by have := HV.out; omega)]
      clear h4 hm
      generalize (L.any fun x => !decide (x ∈ (X.digest (voteB view block)).f dd)) = bb at *
      go_wp2_with fail
      go_ret
      exact ⟨by rw [HR.out]; rfl, by rw [HX.out]; exact H4.out⟩
    · have hmf : manyB c L = false := by simpa using hm
      rw [hmf]
      have HR : Hid (qcB X c view block L = false) := by show _ = _; unfold qcB; rw [if_neg (by have := HV.out; omega), hmf]; rfl
      have HX : Hid (qcX X view block = X.digest (voteB view block)) := by show _ = _; unfold qcX; rw [if_neg (by have := HV.out; omega)]
      clear hm hmf
      go_wp2_with fail
      go_ret
      exact ⟨by rw [HR.out]; rfl, by rw [HX.out]; exact H3.out.tail.tail.tail.tail⟩
end
end Go.Proofs.Ytcfhkpjheemkgaa
