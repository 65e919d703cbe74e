/-
  Certificates (package cert).
-/
import Derived.Test.YtcfhkpjheemkgaaVault
namespace Go.Proofs.Ytcfhkpjheemkgaa
set_option linter.unusedSectionVars false
set_option linter.unusedSimpArgs false
set_option linter.unusedVariables false
open Go.RowKit Go.MapKept

structure CfgX where
  f : Int
  n : Int
  cl : Int
  ba : Int
  mo : Int
  bt : Int
  po : Int
  wi : Int
def CfgX.cells (c : CfgX) : List Value := [.int .i64 c.f, .int .i64 c.n, .int .i64 c.cl, .int .i64 c.ba, .int .i64 c.mo, .int .i64 c.bt, .int .i64 c.po, .int .i64 c.wi]
/-- Of as many replicas as it needs. -/
def CfgX.Good (c : CfgX) : Prop := 0 ≤ c.f ∧ c.f ≤ 1000 ∧ c.n = 3 * c.f + 1
def repB (c : CfgX) (who : Int) : Bool := decide (0 ≤ who ∧ who < c.n)
section
variable {w w' : World} {m : Nat → Thing} {l : List Thing} {p : Nat} {d : Wd} {X : WX}

set_option maxRecDepth 100000 in
set_option maxHeartbeats 1000000 in
theorem cert_replica (c : CfgX) (hg : c.Good) (who : Int) (h : Sys w m l) : Calls Try.prog 60 #[.agg c.cells.toArray, .int .i64 who] w fun e w' => e = .returned (.bool (repB c who)) ∧ Sys w' m l := by
  obtain ⟨nb, hnb⟩ : ∃ n, n = w.heap.size := ⟨_, rfl⟩
  obtain ⟨wa, hwa⟩ : ∃ wa, wa = w.alloc (.cells #[.int .i64 c.f, .int .i64 c.n, .int .i64 c.cl, .int .i64 c.ba, .int .i64 c.mo, .int .i64 c.bt, .int .i64 c.po, .int .i64 c.wi] 49 (0, 0)) := ⟨_, rfl⟩
  have h1 := h.alloc (.cells #[.int .i64 c.f, .int .i64 c.n, .int .i64 c.cl, .int .i64 c.ba, .int .i64 c.mo, .int .i64 c.bt, .int .i64 c.po, .int .i64 c.wi] 49 (0, 0)) hnb
  rw [← hwa] at h1
  have c0 : wa.cell? ⟨nb, 0, none⟩ = some (.int .i64 c.f) := cell_of_blk h1.getBlk 0
  have c1 : wa.cell? ⟨nb, 1, none⟩ = some (.int .i64 c.n) := cell_of_blk h1.getBlk 1
  have H1 := Lib.hid h1.tail
  have HWA := Lib.hid hwa
  have HNB := Lib.hid hnb
  obtain ⟨g0, g1, g2⟩ := hg
  change Calls Try.prog 60 #[.agg #[.int .i64 c.f, .int .i64 c.n, .int .i64 c.cl, .int .i64 c.ba, .int .i64 c.mo, .int .i64 c.bt, .int .i64 c.po, .int .i64 c.wi], .int .i64 who] w _
  clear h h1 hwa hnb
  clear g0 g1 g2
  by_cases hd : 0 ≤ who
  · have hd1 : decide (0 ≤ who) = true := by simpa using hd
    have hx : repB c who = decide (who < c.n) := by unfold repB; simp [hd]
    rw [hx]
    clear hd hx
    go_enter Try.func60, Try.ntmps60
    go_upto_region 1 with fail
    rw [← HWA.out, ← HNB.out]
    go_wp2_with fail
    go_ret
    exact ⟨rfl, H1.out⟩
  · have hd1 : decide (0 ≤ who) = false := by simpa using hd
    have hx : repB c who = false := by unfold repB; simp [hd]
    rw [hx]
    clear hd hx
    go_enter Try.func60, Try.ntmps60
    go_upto_region 1 with fail
    rw [← HWA.out, ← HNB.out]
    go_wp2_with fail
    go_ret
    exact ⟨rfl, H1.out⟩


set_option maxRecDepth 100000 in
set_option maxHeartbeats 1000000 in
theorem cert_fits (c : CfgX) (hg : c.Good)  (h : Sys w m l) : Calls Try.prog 73 #[.agg c.cells.toArray] w fun e w' => e = .returned (.bool true) ∧ Sys w' m l := by
  obtain ⟨nb, hnb⟩ : ∃ n, n = w.heap.size := ⟨_, rfl⟩
  obtain ⟨wa, hwa⟩ : ∃ wa, wa = w.alloc (.cells #[.int .i64 c.f, .int .i64 c.n, .int .i64 c.cl, .int .i64 c.ba, .int .i64 c.mo, .int .i64 c.bt, .int .i64 c.po, .int .i64 c.wi] 49 (0, 0)) := ⟨_, rfl⟩
  have h1 := h.alloc (.cells #[.int .i64 c.f, .int .i64 c.n, .int .i64 c.cl, .int .i64 c.ba, .int .i64 c.mo, .int .i64 c.bt, .int .i64 c.po, .int .i64 c.wi] 49 (0, 0)) hnb
  rw [← hwa] at h1
  have c0 : wa.cell? ⟨nb, 0, none⟩ = some (.int .i64 c.f) := cell_of_blk h1.getBlk 0
  have c1 : wa.cell? ⟨nb, 1, none⟩ = some (.int .i64 c.n) := cell_of_blk h1.getBlk 1
  have H1 := Lib.hid h1.tail
  have HWA := Lib.hid hwa
  have HNB := Lib.hid hnb
  obtain ⟨g0, g1, g2⟩ := hg
  change Calls Try.prog 73 #[.agg #[.int .i64 c.f, .int .i64 c.n, .int .i64 c.cl, .int .i64 c.ba, .int .i64 c.mo, .int .i64 c.bt, .int .i64 c.po, .int .i64 c.wi]] w _
  clear h h1 hwa hnb
  have d0 : decide (0 ≤ c.f) = true := by simpa using g0
  have d1 : decide (0 < c.n) = true := by simp; omega
  have d2 : (c.n % 3 == 1) = true := by simp; omega
  have d3 : (c.n / 3 == c.f) = true := by simp; omega
  have hp : 0 ≤ c.n ∧ c.n ≤ 4000 := by omega
  clear g0 g1 g2
  go_enter Try.func73, Try.ntmps73
  go_upto_region 1 with fail
  rw [← HWA.out, ← HNB.out]
  go_wp2_with fail
  go_ret
  exact ⟨rfl, H1.out⟩


set_option maxRecDepth 100000 in
set_option maxHeartbeats 1000000 in
theorem cert_quorum (c : CfgX) (hg : c.Good)  (h : Sys w m l) : Calls Try.prog 48 #[.agg c.cells.toArray] w fun e w' => e = .returned (.int .i64 (2 * c.f + 1)) ∧ Sys w' m l := by
  obtain ⟨nb, hnb⟩ : ∃ n, n = w.heap.size := ⟨_, rfl⟩
  obtain ⟨wa, hwa⟩ : ∃ wa, wa = w.alloc (.cells #[.int .i64 c.f, .int .i64 c.n, .int .i64 c.cl, .int .i64 c.ba, .int .i64 c.mo, .int .i64 c.bt, .int .i64 c.po, .int .i64 c.wi] 49 (0, 0)) := ⟨_, rfl⟩
  have h1 := h.alloc (.cells #[.int .i64 c.f, .int .i64 c.n, .int .i64 c.cl, .int .i64 c.ba, .int .i64 c.mo, .int .i64 c.bt, .int .i64 c.po, .int .i64 c.wi] 49 (0, 0)) hnb
  rw [← hwa] at h1
  have c0 : wa.cell? ⟨nb, 0, none⟩ = some (.int .i64 c.f) := cell_of_blk h1.getBlk 0
  have c1 : wa.cell? ⟨nb, 1, none⟩ = some (.int .i64 c.n) := cell_of_blk h1.getBlk 1
  have H1 := Lib.hid h1.tail
  have HWA := Lib.hid hwa
  have HNB := Lib.hid hnb
  obtain ⟨g0, g1, g2⟩ := hg
  change Calls Try.prog 48 #[.agg #[.int .i64 c.f, .int .i64 c.n, .int .i64 c.cl, .int .i64 c.ba, .int .i64 c.mo, .int .i64 c.bt, .int .i64 c.po, .int .i64 c.wi]] w _
  clear h h1 hwa hnb
  have d0 : 0 ≤ c.n ∧ c.n ≤ 4000 := by omega
  have d1 : c.n - c.f = 2 * c.f + 1 := by omega
  clear g0 g1 g2
  go_enter Try.func48, Try.ntmps48
  go_upto_region 1 with fail
  rw [← HWA.out, ← HNB.out]
  go_wp2_with fail
  go_ret
  exact ⟨rfl, H1.out⟩

/-! ### the digests that are signed -/
def voteB (view block : Int) : List UInt8 := tagB [118, 111, 116, 101] [view, block]
def outB (view high : Int) : List UInt8 := tagB [111, 117, 116] [view, high]
def rootB : List UInt8 := tagB [114, 111, 111, 116] []
theorem ints_const {w : World} {k : Nat} {t : List Int} {ty : TypeId} {fr : Nat × Nat} (h : w.heap[k]? = some (.cells (t.map (Value.int .i64)).toArray ty fr)) : IntsAt w (some ⟨k, 0, none⟩) t :=
  .inr ⟨k, 0, rfl, fun j hj => by rw [cell_of_blk h]; simp [hj, List.getD]⟩
set_option maxHeartbeats 1000000 in
theorem cert_root (h : Sys w m l) (hw : m 0 = worldT p d X) (hT : X.T.length ≤ 1000000000) : Calls Try.prog 29 #[.pointer (some ⟨p, 0, none⟩)] w fun e w' => e = .returned (.int .i64 (dg X.T rootB)) ∧ Sys w' (upd m 0 (worldT p d (X.digest rootB))) l := by
  have H := Lib.hid (world_tagged [114, 111, 111, 116] [] none 0 (fun _ _ _ => .inl rfl) h hw (by decide) (by decide) hT)
  clear h hT
  go_enter Try.func29, Try.ntmps29
  go_wp2_with fail
  refine H.out.mono ?_
  rintro e w1 ⟨rfl, h1⟩
  have H1 := Lib.hid h1
  clear h1 H
  go_wp2_with fail
  go_ret
  exact ⟨rfl, H1.out⟩

set_option maxHeartbeats 1000000 in
theorem cert_vote (x y : Int) (h : Sys w m l) (hw : m 0 = worldT p d X) (hT : X.T.length ≤ 1000000000) : Calls Try.prog 39 #[.pointer (some ⟨p, 0, none⟩), .int .i64 x, .int .i64 y] w fun e w' => e = .returned (.int .i64 (dg X.T (voteB x y))) ∧ Sys w' (upd m 0 (worldT p d (X.digest (voteB x y)))) l := by
  have H := Lib.hid (world_tagged (w := w.alloc (.cells #[.int .i64 x, .int .i64 y] 3)) [118, 111, 116, 101] [x, y] (some ⟨w.heap.size, 0, none⟩) 2 (fun w' m' h' => ints_const (t := [x, y]) h'.getBlk) (h.alloc (.cells #[.int .i64 x, .int .i64 y] 3) rfl) hw (by decide) (by simp) hT)
  clear h hT
  go_enter Try.func39, Try.ntmps39
  go_wp2_with fail
  refine H.out.mono ?_
  rintro e w1 ⟨rfl, h1⟩
  have H1 := Lib.hid h1.tail
  clear h1 H
  go_wp2_with fail
  go_ret
  exact ⟨rfl, H1.out⟩

set_option maxHeartbeats 1000000 in
theorem cert_out (x y : Int) (h : Sys w m l) (hw : m 0 = worldT p d X) (hT : X.T.length ≤ 1000000000) : Calls Try.prog 43 #[.pointer (some ⟨p, 0, none⟩), .int .i64 x, .int .i64 y] w fun e w' => e = .returned (.int .i64 (dg X.T (outB x y))) ∧ Sys w' (upd m 0 (worldT p d (X.digest (outB x y)))) l := by
  have H := Lib.hid (world_tagged (w := w.alloc (.cells #[.int .i64 x, .int .i64 y] 3)) [111, 117, 116] [x, y] (some ⟨w.heap.size, 0, none⟩) 2 (fun w' m' h' => ints_const (t := [x, y]) h'.getBlk) (h.alloc (.cells #[.int .i64 x, .int .i64 y] 3) rfl) hw (by decide) (by simp) hT)
  clear h hT
  go_enter Try.func43, Try.ntmps43
  go_wp2_with fail
  refine H.out.mono ?_
  rintro e w1 ⟨rfl, h1⟩
  have H1 := Lib.hid h1.tail
  clear h1 H
  go_wp2_with fail
  go_ret
  exact ⟨rfl, H1.out⟩
theorem size8 : (Try.prog.info? 49).map (·.size) = some 8 := by kernel_rfl
theorem cfg_cells {c : CfgX} {nb : Nat} {t : TypeId} {fr : Nat × Nat} (hb : w.heap[nb]? = some (.cells #[.int .i64 c.f, .int .i64 c.n, .int .i64 c.cl, .int .i64 c.ba, .int .i64 c.mo, .int .i64 c.bt, .int .i64 c.po, .int .i64 c.wi] t fr)) : w.cell? ⟨nb, 0, none⟩ = some (.int .i64 c.f) ∧ w.cell? ⟨nb, 1, none⟩ = some (.int .i64 c.n) ∧ w.cell? ⟨nb, 2, none⟩ = some (.int .i64 c.cl) ∧ w.cell? ⟨nb, 3, none⟩ = some (.int .i64 c.ba) ∧ w.cell? ⟨nb, 4, none⟩ = some (.int .i64 c.mo) ∧ w.cell? ⟨nb, 5, none⟩ = some (.int .i64 c.bt) ∧ w.cell? ⟨nb, 6, none⟩ = some (.int .i64 c.po) ∧ w.cell? ⟨nb, 7, none⟩ = some (.int .i64 c.wi) :=
  ⟨cell_of_blk hb 0, cell_of_blk hb 1, cell_of_blk hb 2, cell_of_blk hb 3, cell_of_blk hb 4, cell_of_blk hb 5, cell_of_blk hb 6, cell_of_blk hb 7⟩
/-- As many as a quorum, rising, all replicas. -/
def stepB (c : CfgX) (L : List Int) (i : Nat) : Bool := repB c (L.getD i 0) && (decide (i = 0) || decide (L.getD (i - 1) 0 < L.getD i 0))
def manyB (c : CfgX) (L : List Int) : Bool := decide ((∀ i, i < L.length → stepB c L i = true) ∧ 2 * c.f + 1 ≤ (L.length : Int))
theorem manyB_no {c : CfgX} {L : List Int} {i : Nat} (h : i < L.length) (h2 : stepB c L i = false) : manyB c L = false := by
  unfold manyB; simp only [decide_eq_false_iff_not]; rintro ⟨h3, _⟩; rw [h3 i h] at h2; cases h2
set_option maxRecDepth 100000 in
set_option maxHeartbeats 2000000 in
theorem cert_many (c : CfgX) (hg : c.Good) (L : List Int) (ia : Option Addr) (ic : Nat) (hI : Cap l (fun x => IntsAt x ia L)) (hL : L.length ≤ 20000000) (h : Sys w m l) :
    Calls Try.prog 74 #[.agg c.cells.toArray, .slice ia L.length ic] w fun e w' => e = .returned (.bool (manyB c L)) ∧ Sys w' m l := by
  obtain ⟨nb, hnb⟩ : ∃ n, n = w.heap.size := ⟨_, rfl⟩
  obtain ⟨wa, hwa⟩ : ∃ wa, wa = w.alloc (.cells #[.int .i64 c.f, .int .i64 c.n, .int .i64 c.cl, .int .i64 c.ba, .int .i64 c.mo, .int .i64 c.bt, .int .i64 c.po, .int .i64 c.wi] 49 (0, 0)) := ⟨_, rfl⟩
  have h1 := h.alloc (.cells #[.int .i64 c.f, .int .i64 c.n, .int .i64 c.cl, .int .i64 c.ba, .int .i64 c.mo, .int .i64 c.bt, .int .i64 c.po, .int .i64 c.wi] 49 (0, 0)) hnb
  rw [← hwa] at h1
  have H1 := Lib.hid h1
  have HWA := Lib.hid hwa
  have HNB := Lib.hid hnb
  have HG := Lib.hid hg
  have HI := Lib.hid hI
  have HL := Lib.hid hL
  obtain ⟨n, HN⟩ : ∃ n, Hid (L.length = n) := ⟨_, rfl⟩
  have hn : n ≤ 20000000 := by rw [← HN.out]; exact hL
  rw [HN.out]
  change Calls Try.prog 74 #[.agg #[.int .i64 c.f, .int .i64 c.n, .int .i64 c.cl, .int .i64 c.ba, .int .i64 c.mo, .int .i64 c.bt, .int .i64 c.po, .int .i64 c.wi], .slice ia n ic] w _
  clear h h1 hwa hnb hg hI hL
  go_enter Try.func74, Try.ntmps74
  go_upto_region 1 with fail
  rw [← HWA.out, ← HNB.out]
  go_wp2_with fail
  go_loopw [9] (fun i wr => ∃ j : Nat, j ≤ n ∧ i = .int .i64 j ∧ Sys wr m (blk nb (.cells #[.int .i64 c.f, .int .i64 c.n, .int .i64 c.cl, .int .i64 c.ba, .int .i64 c.mo, .int .i64 c.bt, .int .i64 c.po, .int .i64 c.wi] 49 (0, 0)) :: l) ∧ Hid (∀ i, i < j → stepB c L i = true)) (fun i _ => n - (intOf i).toNat)
  case atStart => exact ⟨0, by omega, rfl, H1.out, (by intro i hi; omega)⟩
  case round =>
    obtain ⟨j, hj, rfl, hR, HB⟩ := hrel
    have hb := hR.getBlk
    by_cases hlt : j < n
    · have hjl : (j : Int) < (n : Int) := by omega
      have hjL : j < L.length := by rw [HN.out]; exact hlt
      obtain ⟨xb, xo, rfl, hcell⟩ : ∃ b off, ia = some ⟨b, off, none⟩ ∧ ∀ i, i < L.length → wr.cell? ⟨b, off + i, none⟩ = some (.int .i64 (L.getD i 0)) := by
        rcases HI.out wr m hR.tail with h | ⟨b, off, rfl, h⟩
        · rw [h] at hjL; simp at hjL
        · exact ⟨b, off, rfl, h⟩
      have hcj := hcell j hjL
      obtain ⟨x, hx⟩ : ∃ x, x = L.getD j 0 := ⟨_, rfl⟩
      rw [← hx] at hcj
      have HX := Lib.hid hx
      have HCELL := Lib.hid hcell
      have HR := Lib.hid hR
      have HJL := Lib.hid hjL
      clear hx hcell hR hjL
      go_wp2_with (refine wpList_load_row rfl 49 _ rfl nb rfl _ _ _ _ hb Try.underlying49 rfl size8 ?_)
      refine (cert_replica c HG.out x HR.out).mono ?_
      rintro e w2 ⟨rfl, h2⟩
      have HR2 := Lib.hid h2
      clear h2 HR hcj
      by_cases hrep : repB c x = true
      · rw [hrep]
        by_cases h0 : j = 0
        · have h0' : ¬ (0 : Int) < (j : Int) := by omega
          have HST : Hid (stepB c L j = true) := by show _ = _; unfold stepB; rw [← HX.out, hrep]; simp [h0]
          have hwj : IntKind.i64.wrap ((j : Int) + 1) = (j : Int) + 1 := by rw [IntKind.wrap_i64]; omega
          clear hrep h0
          go_wp2_with fail
          go_roundw
          case rel => exact ⟨j + 1, by omega, by go_num, HR2.out, fun i hi => by
            by_cases e : i = j
            · rw [e]; exact HST.out
            · exact HB.out i (by omega)⟩
          case measure => simp [intOf]; omega
        · obtain ⟨k, rfl⟩ : ∃ k, j = k + 1 := ⟨j - 1, by omega⟩
          have h0' : (0 : Int) < ((k + 1 : Nat) : Int) := by omega
          have hck : w2.cell? ⟨xb, xo + k, none⟩ = some (.int .i64 (L.getD k 0)) := by
            rcases HI.out w2 m HR2.out.tail with h | ⟨b, off, e, h⟩
            · have := HJL.out; rw [h] at this; simp at this
            · cases e; exact h k (by have := HJL.out; omega)
          obtain ⟨y, hy⟩ : ∃ y, y = L.getD k 0 := ⟨_, rfl⟩
          rw [← hy] at hck
          have HY := Lib.hid hy
          clear hy h0
          have hwk : (k : Int) + 1 - 1 = (k : Int) := by omega
          by_cases hyx : y < x
          · have hd : decide (x ≤ y) = false := by simp; omega
            have HST : Hid (stepB c L (k + 1) = true) := by show _ = _; unfold stepB; rw [← HX.out, hrep, Nat.add_sub_cancel, ← HY.out]; simp [hyx]
            clear hrep hyx
            go_wp2_with fail
            go_roundw
            case rel => exact ⟨k + 1 + 1, by omega, by go_num, HR2.out, fun i hi => by
              by_cases e : i = k + 1
              · rw [e]; exact HST.out
              · exact HB.out i (by omega)⟩
            case measure => simp [intOf]; omega
          · have hd : decide (x ≤ y) = true := by simp; omega
            have HST : Hid (stepB c L (k + 1) = false) := by show _ = _; unfold stepB; rw [← HX.out, hrep, Nat.add_sub_cancel, ← HY.out]; simp [hyx]
            clear hrep hyx
            go_wp2_with fail
            go_ret
            exact ⟨by rw [manyB_no HJL.out HST.out]; rfl, HR2.out.tail⟩
      · have hrf : repB c x = false := by simpa using hrep
        have HST : Hid (stepB c L j = false) := by show _ = _; unfold stepB; rw [← HX.out, hrf]; rfl
        rw [hrf]
        clear hrep hrf
        go_wp2_with fail
        go_ret
        exact ⟨by rw [manyB_no HJL.out HST.out]; rfl, HR2.out.tail⟩
    · obtain rfl : j = n := by omega
      have HR := Lib.hid hR
      clear hR
      go_wp2_with (refine wpList_load_row rfl 49 _ rfl nb rfl _ _ _ _ hb Try.underlying49 rfl size8 ?_)
      refine (cert_fits c HG.out HR.out).mono ?_
      rintro e w2 ⟨rfl, h2⟩
      have hb2 := h2.getBlk
      have HR2 := Lib.hid h2
      obtain ⟨q0, q1, q2, q3, q4, q5, q6, q7⟩ := cfg_cells hb2
      clear h2 HR hb hb2
      go_wp2_with fail
      refine (cert_quorum c HG.out HR2.out).mono ?_
      rintro e w3 ⟨rfl, h3⟩
      have HR3 := Lib.hid h3.tail
      have hm : manyB c L = decide (2 * c.f + 1 ≤ (j : Int)) := by
        unfold manyB
        rw [HN.out]
        by_cases e : 2 * c.f + 1 ≤ (j : Int)
        · simp only [e, and_true, decide_true, decide_eq_true_eq]; exact HB.out
        · simp [e]
      have HM := Lib.hid hm
      clear h3 HR2 hm
      go_wp2_with fail
      go_ret
      exact ⟨by rw [HM.out]; rfl, HR3.out⟩
end
end Go.Proofs.Ytcfhkpjheemkgaa
