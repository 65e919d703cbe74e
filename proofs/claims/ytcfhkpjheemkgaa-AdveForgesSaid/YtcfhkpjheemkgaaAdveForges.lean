/-
  No certificate comes without honest votes: tolseylaw27.AdveForges.
-/
import Derived.Test.YtcfhkpjheemkgaaAwakeD
import Derived.Test.YtcfhkpjheemkgaaForgesLaw
import Derived.Deep.DeepCutAuto
namespace Go.Proofs.Ytcfhkpjheemkgaa.adveForges
set_option linter.unusedSectionVars false
set_option linter.unnecessarySimpa false
set_option linter.unusedSimpArgs false
set_option linter.unusedVariables false
open Go.RowKit Go.MapKept

def cfgF (f : Int) : CfgX := ⟨f, 3 * f + 1, 0, 0, 0, 3, 0, 0⟩
theorem wf8 {x : Int} (h : 0 ≤ x ∧ x < 8) : (Lit.int .i64 x).wf = true := by
  obtain rfl | rfl | rfl | rfl | rfl | rfl | rfl | rfl : x = 0 ∨ x = 1 ∨ x = 2 ∨ x = 3 ∨ x = 4 ∨ x = 5 ∨ x = 6 ∨ x = 7 := by omega
  all_goals decide
theorem blksOne {w : World} {n : Nat} {b : BlkX} (h : w.heap[n]? = some (.cells (blkCells b (.slice none 0 0) (.slice none 0 0)).toArray 65 (0, 0))) (hy : b.by_ = []) (he : b.envs = []) : BlksAt w (some ⟨n, 0, none⟩) 1 [(b, .slice none 0 0, .slice none 0 0)] := by
  refine ⟨⟨some ⟨n, 0, none⟩, 1, rfl, .inr ⟨n, 0, rfl, fun j u hu => ?_⟩, fun b off e => ⟨trivial, by cases e; exact blk_lt h⟩, fun e => (by cases e), (show 1 ≤ 1000000 by decide)⟩, fun e hm => ?_⟩
  · rw [Nat.zero_add]
    refine ⟨?_, frozen_of_blk h j⟩
    rw [cell_of_blk h]
    have : (flatB [(b, .slice none 0 0, .slice none 0 0)]) = blkCells b (.slice none 0 0) (.slice none 0 0) := by simp [flatB]
    rw [this] at hu
    simpa using hu
  · rcases List.mem_singleton.1 hm with rfl
    exact ⟨by rw [hy]; exact SliceIn.nil _ _, by rw [he]; exact SliceIn.nil _ _⟩
theorem IntsAt.drop_ {w : World} {g : Nat} {L : List Int} (h : IntsAt w (some ⟨g, 0, none⟩) L) (r : Nat) : IntsAt w (some ⟨g, r, none⟩) (L.drop r) := by
  rcases h with h | ⟨b, off, e, h⟩
  · exact .inl (by rw [h]; simp)
  · cases e
    refine .inr ⟨g, r, rfl, fun i hi => ?_⟩
    rw [List.length_drop] at hi
    have := h (r + i) (by omega)
    rw [Nat.zero_add] at this
    rw [this]
    simp [List.getD_eq_getElem?_getD, List.getElem?_drop]
theorem Sys.mem_own {w : World} {m : Nat → Thing} {l : List Thing} {E size n : Nat} {v : Value} {xs : List Value} (h : Sys w m l) (ht : own E size v n xs ∈ l) : Own E size w v n xs := by obtain ⟨F, hF⟩ := h.mem ht; exact hF.1
theorem cfgF_good {f : Int} (h : 1 ≤ f ∧ f ≤ 2) : (cfgF f).Good := ⟨by show 0 ≤ f; omega, by show f ≤ 1000; omega, rfl⟩
set_option maxRecDepth 100000 in
set_option maxHeartbeats 16000000 in
theorem walk (W : World) (a0 : Int) (_ : (Lit.int .i64 a0).wf = true) (a1 : Option Addr) (len1 cap1 : Nat) (z1 : List Int) (w1 : IsRow .i64 W a1 len1 cap1 z1) (a2 : Option Addr) (len2 cap2 : Nat) (z2 : List Int) (w2 : IsRow .i64 W a2 len2 cap2 z2) :
    Calls Try.prog 5 #[.int .i64 a0, .slice a1 len1 cap1, .slice a2 len2 cap2] W fun e w' => e = .returned (.bool true) ∧ Below W.heap.size W w' := by
  obtain ⟨hi1, hlen1⟩ := IntsAt.of_row w1
  obtain ⟨ls, hls⟩ : ∃ ls, ls = z1.take len1 := ⟨_, rfl⟩
  rw [← hls] at hi1 hlen1
  obtain ⟨hi2, hlen2⟩ := IntsAt.of_row w2
  obtain ⟨is, his⟩ : ∃ ls, ls = z2.take len2 := ⟨_, rfl⟩
  rw [← his] at hi2 hlen2
  have HI1 := Lib.hid hi1
  have HLEN1 := Lib.hid hlen1
  have HI2 := Lib.hid hi2
  have HLEN2 := Lib.hid hlen2
  obtain ⟨f, hf⟩ : ∃ f : Int, f = a0 % 2 + 1 := ⟨_, rfl⟩
  have hf2 : 1 ≤ f ∧ f ≤ 2 := by omega
  have HF := Lib.hid hf2
  have hm1 := i64_and1
  have hwf : IntKind.i64.wrap (a0 % 2 + 1) = f := by rw [IntKind.wrap_i64]; omega
  have hw3 : IntKind.i64.wrap (3 * f) = 3 * f := by rw [IntKind.wrap_i64]; omega
  have hw31 : IntKind.i64.wrap (3 * f + 1) = 3 * f + 1 := by rw [IntKind.wrap_i64]; omega
  obtain ⟨nc, x0, EN0, EX0, ES0, H0⟩ := (Sys.start W).box (.cells #[.int .i64 f, .int .i64 (3 * f + 1), .int .i64 0, .int .i64 0, .int .i64 0, .int .i64 3, .int .i64 0, .int .i64 0] 49 (0, 0))
  clear hi1 hlen1 hls w1 hi2 hlen2 his w2 hf hf2
  go_enter Try.func5, Try.ntmps5
  go_upto_region 3 with fail
  rw [EX0.out, EN0.out]
  clear hm1 hwf hw3 hw31
  go_wp2_with fail
  refine (world_new f H0.out).mono ?_
  rintro e x1 ⟨p, d, rfl, h1⟩
  obtain ⟨X0, hX0⟩ : ∃ X : WX, X = ⟨[], fun _ => [], min (max f 0) 100 + 1, []⟩ := ⟨_, rfl⟩
  rw [← hX0] at h1
  have H1 := Lib.hid (h1.putN 0 rfl)
  have hT0 : X0.T.length = 0 := by rw [hX0]; rfl
  have hF0 : ∀ x, X0.f x = [] := fun x => by rw [hX0]
  have HT0 := Lib.hid hT0
  have HF0 := Lib.hid hF0
  clear h1 hX0 hT0 hF0
  by_cases hfew : len1 ≤ 50
  · have hbig : ¬ ((len1 : Int) > 50) := by omega
    have HFEW := Lib.hid hfew
    clear hfew
    have hbc := H1.out.nth 0 rfl
    go_upto_region 6 with fail
    clear hbig
    go_wp2_with (refine wpList_load_row rfl 49 _ rfl nc rfl _ _ _ _ hbc Try.underlying49 rfl size8 ?_)
    refine (adve_new (cfgF f) (cfgF_good HF.out) ls a1 len1 cap1 HLEN1.out (by have := HFEW.out; omega) (fun y m' hs => HI1.out.below (memBaseD (W := W) hs (by simp))) H1.out rfl).mono ?_
    rintro e x2 ⟨pa, rfl, h⟩
    obtain ⟨B, hB⟩ : ∃ B, B = badsOf (cfgF f) ls := ⟨_, rfl⟩
    have hBf : (B.length : Int) ≤ f := by rw [hB]; exact bads_f (cfgF f) (by have := HF.out; show 0 ≤ f; omega) ls
    have H2 : Hid (Sys x2 (two (worldT p d X0) (watchT pa p B [] (oneM []))) [blk nc (.cells #[.int .i64 f, .int .i64 (3 * f + 1), .int .i64 0, .int .i64 0, .int .i64 0, .int .i64 3, .int .i64 0, .int .i64 0] 49 (0, 0)), base W]) := by rw [hB]; exact h
    have HBF := Lib.hid hBf
    clear h hB hbc hBf
    go_wp2_with fail
    refine (cert_root H2.out rfl (by rw [HT0.out]; decide)).mono ?_
    rintro e x3 ⟨rfl, h⟩
    rw [two0] at h
    obtain ⟨R, hR⟩ : ∃ R, R = dg X0.T rootB := ⟨_, rfl⟩
    have hFG : FG R B (X0.digest rootB) 1 := ⟨fun dd _ => HF0.out dd, mem_digest _ _, (dg_digest _ _).trans hR.symm, by have := (X0.ext_digest rootB).len.2; have := HT0.out; omega, fun x who hw => by have := HF0.out x; rw [show (X0.digest rootB).f = X0.f from rfl, this] at hw; cases hw⟩
    rw [← hR]
    obtain ⟨X1, hX1⟩ : ∃ X, X = X0.digest rootB := ⟨_, rfl⟩
    rw [← hX1] at h hFG
    obtain ⟨nr, x4, EN4, EX4, ES4, H4⟩ := Sys.box h (.cells #[.int .i64 0, .int .i64 R, .slice none 0 0] 28 (0, 0))
    have HFG := Lib.hid hFG
    clear h hR hX1 hFG HF0 HT0
    go_upto_region 10 with fail
    rw [EX4.out, EN4.out]
    go_wp2_with fail
    go_loopw [11] (fun iv wr => ∃ (i : Nat) (X : WX), i ≤ len2 ∧ i ≤ 30 ∧ iv = .int .i64 (i : Int) ∧ Hid (FG R B X (1 + 20 * i)) ∧ Sys wr (two (worldT p d X) (watchT pa p B [] (oneM []))) [blk nr (.cells #[.int .i64 0, .int .i64 R, .slice none 0 0] 28 (0, 0)), blk nc (.cells #[.int .i64 f, .int .i64 (3 * f + 1), .int .i64 0, .int .i64 0, .int .i64 0, .int .i64 3, .int .i64 0, .int .i64 0] 49 (0, 0)), base W]) (fun iv _ => 30 - (intOf iv).toNat)
    case atStart => exact ⟨0, X1, by omega, by omega, rfl, HFG.out, H4.out⟩
    case round =>
      obtain ⟨i, X, hi, hi30, rfl, HG, hR⟩ := hrel
      by_cases hgo : i < len2 ∧ i < 30
      · obtain ⟨hlt, h30⟩ := hgo
        have hil : (i : Int) < (len2 : Int) := by omega
        have hi3 : (i : Int) < 30 := by omega
        have hiw : IntKind.i64.wrap ((i : Int) + 1) = (i : Int) + 1 := by rw [IntKind.wrap_i64]; omega
        obtain ⟨x, hx⟩ : ∃ x, x = is.getD i 0 := ⟨_, rfl⟩
        have hiI : i < is.length := by rw [HLEN2.out]; exact hlt
        obtain ⟨b, off, rfl, hc⟩ : ∃ b off, a2 = some ⟨b, off, none⟩ ∧ wr.cell? ⟨b, off + i, none⟩ = some (.int .i64 x) := by
          rcases HI2.out.below (memBaseD (W := W) hR (by simp)) with h | ⟨b, off, e, h⟩
          · rw [h] at hiI; simp at hiI
          · exact ⟨b, off, e, by rw [hx]; exact h i hiI⟩
        have HR := Lib.hid hR
        have HLT := Lib.hid hlt
        have H30 := Lib.hid h30
        clear hx hiI hR hlt h30 hi hi30
        have hm7 := i64_and7
        have hm3 := i64_and3
        go_upto_region 13 with fail
        refine wp_region_seq (fun y : World => y.cell? ⟨b, off + i, none⟩ = some (.int .i64 x)) anyW [] [(0, 0, some 67), (1, 0, some 68), (2, 0, some 69), (3, 1, some 70), (4, 0, some 71), (5, 0, some 72), (6, 0, some 73), (7, 0, some 74), (8, 1, some 75), (9, 0, some 76), (10, 0, some 77), (11, 0, some 78), (12, 0, some 79), (13, 0, some 80), (14, 0, some 81), (15, 1, some 82), (16, 0, some 83), (17, 0, some 84), (18, 0, some 12), (19, 0, some 13), (20, 0, some 14)] (by kernel_rfl) (by kernel_rfl) (fun _ _ _ d _ h => by cases d <;> exact h) hc anyW.i ?_
        repeat (first | (refine seqW (v := ?_) rfl rfl (by kernel_rfl) ?_ ?_; rotate_left; (focus ((intro x; go_simp); try (with_reducible rfl))); try simp only [Act.put, List.setIfInBounds_toArray, List.set_cons_zero, List.set_cons_succ]) | (refine seqS (v := ?_) rfl rfl (by kernel_rfl) ?_ ?_; rotate_left; (focus (intro x hS; first | (have e0 := hS; go_simp; try (with_reducible rfl)))); try simp only [Act.put, List.setIfInBounds_toArray, List.set_cons_zero, List.set_cons_succ]) | (refine seqX rfl rfl (by kernel_rfl) ?_; try simp only [Act.put, List.setIfInBounds_toArray, List.set_cons_zero, List.set_cons_succ]))
        refine seqE ?_
        clear hc hm7 hm3
        have HD := Lib.hid HR.out.drew
        clear HR
        generalize wr.drew = wd at *
        have hv : IntKind.i64.wrap (x / 8 % 4 + 1) = x / 8 % 4 + 1 := by rw [IntKind.wrap_i64]; omega
        rw [hv]
        obtain ⟨who, hwho⟩ : ∃ v, v = x % 8 := ⟨_, rfl⟩
        obtain ⟨view, hview⟩ : ∃ v, v = x / 8 % 4 + 1 := ⟨_, rfl⟩
        obtain ⟨num, hnum⟩ : ∃ v, v = x / 32 % 4 := ⟨_, rfl⟩
        rw [← hwho, ← hview, ← hnum]
        have HWHO : Hid ((Lit.int .i64 who).wf = true) := wf8 (by omega)
        have HVIEW : Hid (1 ≤ view ∧ view ≤ 4) := ⟨by omega, by omega⟩
        clear hv hwho hview hnum
        obtain ⟨nb, x5, EN5, EX5, ES5, H5⟩ := HD.out.box (.cells #[.int .i64 view, .int .i64 who, .int .i64 0, .int .i64 R, .slice none 0 0, .slice none 0 0] 65 (0, 0))
        have hbr := HD.out.nth 0 rfl
        go_upto_region 15 with (refine wpList_load_row rfl 28 _ rfl nr rfl _ _ _ _ hbr Try.underlying28 rfl size3 ?_)
        rw [EX5.out, EN5.out]
        clear hbr
        have hbr := H5.out.nth 1 rfl
        have hbb := H5.out.nth 0 rfl
        obtain ⟨ns, x6, EN6, EX6, ES6, H6⟩ := H5.out.box (.cells #[.int .i64 view, .int .i64 who, .int .i64 0, .int .i64 R, .slice none 0 0, .slice none 0 0] 65 (0, 0))
        obtain ⟨nm, x7, EN7, EX7, ES7, H7⟩ := Sys.box' H6 ES6 (.cells #[.int .i64 3, .int .i64 who, .int .i64 0, .int .i64 view, .int .i64 num, .int .i64 0, .int .i64 0, .slice none 0 0, .int .i64 0, .slice none 0 0, .slice none 0 0, .int .i64 0, .int .i64 0, .slice none 0 0, .int .i64 0, .int .u64 0, .int .u64 0, .int .i64 0, .slice none 0 0, .int .i64 4, .int .i64 who, .int .i64 0, .int .i64 view, .int .i64 0, .int .i64 0, .int .i64 R, .slice none 0 0, .int .i64 0, .slice none 0 0, .slice none 0 0, .int .i64 0, .int .i64 0, .slice none 0 0, .int .i64 0, .int .u64 0, .int .u64 0, .int .i64 0, .slice none 0 0, .int .i64 2, .int .i64 who, .int .i64 0, .int .i64 0, .int .i64 0, .int .i64 0, .int .i64 0, .slice none 0 0, .int .i64 0, .slice none 0 0, .slice none 0 0, .int .i64 0, .int .i64 0, .slice none 0 0, .int .i64 0, .int .u64 0, .int .u64 0, .int .i64 0, .slice (some ⟨ns, 0, none⟩) 1 1] 36 (0, 0))
        go_upto_region 16 with (first | (refine wpList_load_row rfl 28 _ rfl nr rfl _ _ _ _ hbr Try.underlying28 rfl size3 ?_) | (refine wpList_load_row rfl 65 _ rfl nb rfl _ _ _ _ hbb Try.underlying65 rfl size6B ?_))
        have en7 := EN7.out
        rw [EN6.out] at en7
        rw [EX6.out, EN6.out, EX7.out, en7]
        clear en7
        clear hbr hbb
        obtain ⟨tb, htb⟩ : ∃ t, t = decide (who ∈ B) := ⟨_, rfl⟩
        obtain ⟨Xa, hXa⟩ : ∃ Y, Y = if who ∈ B then X.signB who (voteB view num) else X := ⟨_, rfl⟩
        obtain ⟨Xb, hXb⟩ : ∃ Y, Y = if who ∈ B then Xa.signB who (outB view 0) else Xa := ⟨_, rfl⟩
        obtain ⟨bk, hbk⟩ : ∃ b : BlkX, b = ⟨view, who, 0, R, [], []⟩ := ⟨_, rfl⟩
        obtain ⟨Xc, hXc⟩ : ∃ Y, Y = if who ∈ B then signBlk Xb bk else Xb := ⟨_, rfl⟩
        have hGa : FG R B Xa (1 + 20 * i + 1) := by rw [hXa]; split; exact HG.out.signB (by assumption) _; exact HG.out.mono (by omega)
        have hGb : FG R B Xb (1 + 20 * i + 2) := by rw [hXb]; split; exact hGa.signB (by assumption) _; exact hGa.mono (by omega)
        have hGc : FG R B Xc (1 + 20 * i + 4) := by rw [hXc]; split; exact hGb.signBlk bk (by rw [hbk]) (by rw [hbk]; assumption); exact hGb.mono (by omega)
        obtain ⟨lb, hlb⟩ : ∃ t, t = decide (leadOf (cfgF f) view = who) := ⟨_, rfl⟩
        have HOK : Hid (blkOkB Xc (cfgF f) bk = (tb && lb)) := by
          show _ = _
          rw [hXc, hbk, htb, hlb]
          exact forge_ok (cfgF f) (by show (0 : Int) ≤ 3; decide) view who HVIEW.out.1 hGb
        have HTB := Lib.hid htb
        have HXA := Lib.hid hXa
        have HXB := Lib.hid hXb
        have HXC := Lib.hid hXc
        have HBK := Lib.hid hbk
        have HLB := Lib.hid hlb
        have HGA := Lib.hid hGa
        have HGB := Lib.hid hGb
        have HGC := Lib.hid hGc
        have hne : (tb != tb) = false := by cases tb <;> rfl
        clear htb hXa hXb hXc hbk hlb hGa hGb hGc
        go_wp2_with fail
        go_loopw [103] (fun iv wr => (iv = .int .i64 0 ∧ Sys wr (two (worldT p d X) (watchT pa p B [] (oneM []))) [blk nm (.cells #[.int .i64 3, .int .i64 who, .int .i64 0, .int .i64 view, .int .i64 num, .int .i64 0, .int .i64 0, .slice none 0 0, .int .i64 0, .slice none 0 0, .slice none 0 0, .int .i64 0, .int .i64 0, .slice none 0 0, .int .i64 0, .int .u64 0, .int .u64 0, .int .i64 0, .slice none 0 0, .int .i64 4, .int .i64 who, .int .i64 0, .int .i64 view, .int .i64 0, .int .i64 0, .int .i64 R, .slice none 0 0, .int .i64 0, .slice none 0 0, .slice none 0 0, .int .i64 0, .int .i64 0, .slice none 0 0, .int .i64 0, .int .u64 0, .int .u64 0, .int .i64 0, .slice none 0 0, .int .i64 2, .int .i64 who, .int .i64 0, .int .i64 0, .int .i64 0, .int .i64 0, .int .i64 0, .slice none 0 0, .int .i64 0, .slice none 0 0, .slice none 0 0, .int .i64 0, .int .i64 0, .slice none 0 0, .int .i64 0, .int .u64 0, .int .u64 0, .int .i64 0, .slice (some ⟨ns, 0, none⟩) 1 1] 36 (0, 0)), blk ns (.cells #[.int .i64 view, .int .i64 who, .int .i64 0, .int .i64 R, .slice none 0 0, .slice none 0 0] 65 (0, 0)), blk nb (.cells #[.int .i64 view, .int .i64 who, .int .i64 0, .int .i64 R, .slice none 0 0, .slice none 0 0] 65 (0, 0)), blk nr (.cells #[.int .i64 0, .int .i64 R, .slice none 0 0] 28 (0, 0)), blk nc (.cells #[.int .i64 f, .int .i64 (3 * f + 1), .int .i64 0, .int .i64 0, .int .i64 0, .int .i64 3, .int .i64 0, .int .i64 0] 49 (0, 0)), base W]) ∨ (iv = .int .i64 1 ∧ Sys wr (two (worldT p d Xa) (watchT pa p B [] (oneM []))) [blk nm (.cells #[.int .i64 3, .int .i64 who, .int .i64 0, .int .i64 view, .int .i64 num, .int .i64 0, .int .i64 0, .slice none 0 0, .int .i64 0, .slice none 0 0, .slice none 0 0, .int .i64 0, .int .i64 0, .slice none 0 0, .int .i64 0, .int .u64 0, .int .u64 0, .int .i64 0, .slice none 0 0, .int .i64 4, .int .i64 who, .int .i64 0, .int .i64 view, .int .i64 0, .int .i64 0, .int .i64 R, .slice none 0 0, .int .i64 0, .slice none 0 0, .slice none 0 0, .int .i64 0, .int .i64 0, .slice none 0 0, .int .i64 0, .int .u64 0, .int .u64 0, .int .i64 0, .slice none 0 0, .int .i64 2, .int .i64 who, .int .i64 0, .int .i64 0, .int .i64 0, .int .i64 0, .int .i64 0, .slice none 0 0, .int .i64 0, .slice none 0 0, .slice none 0 0, .int .i64 0, .int .i64 0, .slice none 0 0, .int .i64 0, .int .u64 0, .int .u64 0, .int .i64 0, .slice (some ⟨ns, 0, none⟩) 1 1] 36 (0, 0)), blk ns (.cells #[.int .i64 view, .int .i64 who, .int .i64 0, .int .i64 R, .slice none 0 0, .slice none 0 0] 65 (0, 0)), blk nb (.cells #[.int .i64 view, .int .i64 who, .int .i64 0, .int .i64 R, .slice none 0 0, .slice none 0 0] 65 (0, 0)), blk nr (.cells #[.int .i64 0, .int .i64 R, .slice none 0 0] 28 (0, 0)), blk nc (.cells #[.int .i64 f, .int .i64 (3 * f + 1), .int .i64 0, .int .i64 0, .int .i64 0, .int .i64 3, .int .i64 0, .int .i64 0] 49 (0, 0)), base W]) ∨ (iv = .int .i64 2 ∧ Sys wr (two (worldT p d Xb) (watchT pa p B [] (oneM []))) [blk nm (.cells #[.int .i64 3, .int .i64 who, .int .i64 0, .int .i64 view, .int .i64 num, .int .i64 0, .int .i64 0, .slice none 0 0, .int .i64 0, .slice none 0 0, .slice none 0 0, .int .i64 0, .int .i64 0, .slice none 0 0, .int .i64 0, .int .u64 0, .int .u64 0, .int .i64 0, .slice none 0 0, .int .i64 4, .int .i64 who, .int .i64 0, .int .i64 view, .int .i64 0, .int .i64 0, .int .i64 R, .slice none 0 0, .int .i64 0, .slice none 0 0, .slice none 0 0, .int .i64 0, .int .i64 0, .slice none 0 0, .int .i64 0, .int .u64 0, .int .u64 0, .int .i64 0, .slice none 0 0, .int .i64 2, .int .i64 who, .int .i64 0, .int .i64 0, .int .i64 0, .int .i64 0, .int .i64 0, .slice none 0 0, .int .i64 0, .slice none 0 0, .slice none 0 0, .int .i64 0, .int .i64 0, .slice none 0 0, .int .i64 0, .int .u64 0, .int .u64 0, .int .i64 0, .slice (some ⟨ns, 0, none⟩) 1 1] 36 (0, 0)), blk ns (.cells #[.int .i64 view, .int .i64 who, .int .i64 0, .int .i64 R, .slice none 0 0, .slice none 0 0] 65 (0, 0)), blk nb (.cells #[.int .i64 view, .int .i64 who, .int .i64 0, .int .i64 R, .slice none 0 0, .slice none 0 0] 65 (0, 0)), blk nr (.cells #[.int .i64 0, .int .i64 R, .slice none 0 0] 28 (0, 0)), blk nc (.cells #[.int .i64 f, .int .i64 (3 * f + 1), .int .i64 0, .int .i64 0, .int .i64 0, .int .i64 3, .int .i64 0, .int .i64 0] 49 (0, 0)), base W]) ∨ (iv = .int .i64 3 ∧ Sys wr (two (worldT p d Xc) (watchT pa p B [] (oneM []))) [blk nm (.cells #[.int .i64 3, .int .i64 who, .int .i64 0, .int .i64 view, .int .i64 num, .int .i64 0, .int .i64 0, .slice none 0 0, .int .i64 0, .slice none 0 0, .slice none 0 0, .int .i64 0, .int .i64 0, .slice none 0 0, .int .i64 0, .int .u64 0, .int .u64 0, .int .i64 0, .slice none 0 0, .int .i64 4, .int .i64 who, .int .i64 0, .int .i64 view, .int .i64 0, .int .i64 0, .int .i64 R, .slice none 0 0, .int .i64 0, .slice none 0 0, .slice none 0 0, .int .i64 0, .int .i64 0, .slice none 0 0, .int .i64 0, .int .u64 0, .int .u64 0, .int .i64 0, .slice none 0 0, .int .i64 2, .int .i64 who, .int .i64 0, .int .i64 0, .int .i64 0, .int .i64 0, .int .i64 0, .slice none 0 0, .int .i64 0, .slice none 0 0, .slice none 0 0, .int .i64 0, .int .i64 0, .slice none 0 0, .int .i64 0, .int .u64 0, .int .u64 0, .int .i64 0, .slice (some ⟨ns, 0, none⟩) 1 1] 36 (0, 0)), blk ns (.cells #[.int .i64 view, .int .i64 who, .int .i64 0, .int .i64 R, .slice none 0 0, .slice none 0 0] 65 (0, 0)), blk nb (.cells #[.int .i64 view, .int .i64 who, .int .i64 0, .int .i64 R, .slice none 0 0, .slice none 0 0] 65 (0, 0)), blk nr (.cells #[.int .i64 0, .int .i64 R, .slice none 0 0] 28 (0, 0)), blk nc (.cells #[.int .i64 f, .int .i64 (3 * f + 1), .int .i64 0, .int .i64 0, .int .i64 0, .int .i64 3, .int .i64 0, .int .i64 0] 49 (0, 0)), base W])) (fun iv _ => 3 - (intOf iv).toNat)
        case atStart => exact .inl ⟨rfl, H7.out⟩
        case round =>
          rcases hrel with ⟨rfl, hS⟩ | ⟨rfl, hS⟩ | ⟨rfl, hS⟩ | ⟨rfl, hS⟩
          · obtain ⟨cs, hcs⟩ : ∃ cs, cs = (voteP who view num).cells := ⟨_, rfl⟩
            have hce : ∀ (j : Nat) (v : Value), cs[j]? = some v → wr.cell? ⟨nm, 0 + j, none⟩ = some v := by rw [hcs]; exact cells_at (hS.nth 0 rfl) 0 (voteP who view num).cells rfl
            have hone : cs.toArray.all (·.oneCell') = true := by rw [hcs]; simp [MsgP.cells, msgCells, Value.oneCell', voteP, outP, blockP]
            have hsz : (Try.prog.info? 36).map (·.size) = some cs.toArray.size := by rw [hcs]; exact size19
            have hsl : (Try.prog.info? 36).map (·.size) = some cs.length := by rw [hcs]; exact size19
            have hcz : (#[.int .i64 0, .int .i64 0, .int .i64 0, .int .i64 0, .int .i64 0, .int .i64 0, .int .i64 0, .slice none 0 0, .int .i64 0, .slice none 0 0, .slice none 0 0, .int .i64 0, .int .i64 0, .slice none 0 0, .int .i64 0, .int .u64 0, .int .u64 0, .int .i64 0, .slice none 0 0] : Array Value).size = cs.toArray.size := by rw [hcs]; rfl
            obtain ⟨n7, y1, EN8, EX8, ES8, H8⟩ := hS.box (.cells #[.int .i64 0, .int .i64 0, .int .i64 0, .int .i64 0, .int .i64 0, .int .i64 0, .int .i64 0, .slice none 0 0, .int .i64 0, .slice none 0 0, .slice none 0 0, .int .i64 0, .int .i64 0, .slice none 0 0, .int .i64 0, .int .u64 0, .int .u64 0, .int .i64 0, .slice none 0 0] 36 (0, 0))
            have hb7 : y1.heap[n7]? = some (.cells #[.int .i64 0, .int .i64 0, .int .i64 0, .int .i64 0, .int .i64 0, .int .i64 0, .int .i64 0, .slice none 0 0, .int .i64 0, .slice none 0 0, .slice none 0 0, .int .i64 0, .int .i64 0, .slice none 0 0, .int .i64 0, .int .u64 0, .int .u64 0, .int .i64 0, .slice none 0 0] 36 (0, 0)) := H8.out.nth 0 rfl
            obtain ⟨y2, hy2⟩ : ∃ x, x = y1.setRow n7 cs.toArray := ⟨_, rfl⟩
            have H9 : Hid (Sys y2 (two (worldT p d X) (watchT pa p B [] (oneM []))) (blk n7 (.cells cs.toArray 36 (0, 0)) :: [blk nm (.cells #[.int .i64 3, .int .i64 who, .int .i64 0, .int .i64 view, .int .i64 num, .int .i64 0, .int .i64 0, .slice none 0 0, .int .i64 0, .slice none 0 0, .slice none 0 0, .int .i64 0, .int .i64 0, .slice none 0 0, .int .i64 0, .int .u64 0, .int .u64 0, .int .i64 0, .slice none 0 0, .int .i64 4, .int .i64 who, .int .i64 0, .int .i64 view, .int .i64 0, .int .i64 0, .int .i64 R, .slice none 0 0, .int .i64 0, .slice none 0 0, .slice none 0 0, .int .i64 0, .int .i64 0, .slice none 0 0, .int .i64 0, .int .u64 0, .int .u64 0, .int .i64 0, .slice none 0 0, .int .i64 2, .int .i64 who, .int .i64 0, .int .i64 0, .int .i64 0, .int .i64 0, .int .i64 0, .slice none 0 0, .int .i64 0, .slice none 0 0, .slice none 0 0, .int .i64 0, .int .i64 0, .slice none 0 0, .int .i64 0, .int .u64 0, .int .u64 0, .int .i64 0, .slice (some ⟨ns, 0, none⟩) 1 1] 36 (0, 0)), blk ns (.cells #[.int .i64 view, .int .i64 who, .int .i64 0, .int .i64 R, .slice none 0 0, .slice none 0 0] 65 (0, 0)), blk nb (.cells #[.int .i64 view, .int .i64 who, .int .i64 0, .int .i64 R, .slice none 0 0, .slice none 0 0] 65 (0, 0)), blk nr (.cells #[.int .i64 0, .int .i64 R, .slice none 0 0] 28 (0, 0)), blk nc (.cells #[.int .i64 f, .int .i64 (3 * f + 1), .int .i64 0, .int .i64 0, .int .i64 0, .int .i64 3, .int .i64 0, .int .i64 0] 49 (0, 0)), base W])) := by
              rw [hy2]
              exact H8.out.store ((Chg.refl (· = n7) y1).row cs.toArray) (setRow_heap _ _ _ _ _ _ hb7)
            have HSG : Hid (Calls Try.prog 30 #[.pointer (some ⟨pa, 0, none⟩), .agg cs.toArray] y2 fun z w' => z = .returned (.bool tb) ∧ Sys w' (two (worldT p d Xa) (watchT pa p B [] (oneM []))) (blk n7 (.cells cs.toArray 36 (0, 0)) :: [blk nm (.cells #[.int .i64 3, .int .i64 who, .int .i64 0, .int .i64 view, .int .i64 num, .int .i64 0, .int .i64 0, .slice none 0 0, .int .i64 0, .slice none 0 0, .slice none 0 0, .int .i64 0, .int .i64 0, .slice none 0 0, .int .i64 0, .int .u64 0, .int .u64 0, .int .i64 0, .slice none 0 0, .int .i64 4, .int .i64 who, .int .i64 0, .int .i64 view, .int .i64 0, .int .i64 0, .int .i64 R, .slice none 0 0, .int .i64 0, .slice none 0 0, .slice none 0 0, .int .i64 0, .int .i64 0, .slice none 0 0, .int .i64 0, .int .u64 0, .int .u64 0, .int .i64 0, .slice none 0 0, .int .i64 2, .int .i64 who, .int .i64 0, .int .i64 0, .int .i64 0, .int .i64 0, .int .i64 0, .slice none 0 0, .int .i64 0, .slice none 0 0, .slice none 0 0, .int .i64 0, .int .i64 0, .slice none 0 0, .int .i64 0, .int .u64 0, .int .u64 0, .int .i64 0, .slice (some ⟨ns, 0, none⟩) 1 1] 36 (0, 0)), blk ns (.cells #[.int .i64 view, .int .i64 who, .int .i64 0, .int .i64 R, .slice none 0 0, .slice none 0 0] 65 (0, 0)), blk nb (.cells #[.int .i64 view, .int .i64 who, .int .i64 0, .int .i64 R, .slice none 0 0, .slice none 0 0] 65 (0, 0)), blk nr (.cells #[.int .i64 0, .int .i64 R, .slice none 0 0] 28 (0, 0)), blk nc (.cells #[.int .i64 f, .int .i64 (3 * f + 1), .int .i64 0, .int .i64 0, .int .i64 0, .int .i64 3, .int .i64 0, .int .i64 0] 49 (0, 0)), base W])) := by
              show Calls _ _ _ _ _
              rw [HTB.out]
              have hh := watch_sign_vote who view num HWHO.out (by have := HBF.out; have := HF.out; omega) H9.out rfl rfl (by have := HG.out.len; have := H30.out; omega)
              rw [hcs] at hh ⊢
              refine hh.mono ?_
              rintro e w' ⟨he, h⟩
              rw [two0] at h
              exact ⟨he, by rw [HXA.out]; exact h⟩
            have HB7 := Lib.hid hb7
            have HY2 := Lib.hid hy2
            have HCE := Lib.hid hce
            clear hcs hb7 hy2 hce hS H8
            go_upto_region 18 with (first | (refine wpList_load_at rfl 36 _ rfl nm 0 rfl cs _ HCE.out Try.underlying36 rfl hsl ?_) | (rw [EX8.out, EN8.out]; refine wpList_store_row rfl 36 _ _ rfl n7 cs.toArray rfl rfl _ _ HB7.out hsz hcz hone ?_; rw [← HY2.out]))
            have hb := H9.out.nth 0 rfl
            go_wp2_with (refine wpList_load_row rfl 36 _ rfl n7 rfl _ _ _ _ hb Try.underlying36 rfl hsz ?_)
            refine HSG.out.mono ?_
            rintro e y3 ⟨rfl, h⟩
            have H10 := Lib.hid h
            clear h hb
            go_wp2_with fail
            refine (watch_bad who (by have := HBF.out; have := HF.out; omega) H10.out rfl).mono ?_
            rintro e y4 ⟨rfl, rfl⟩
            rw [← HTB.out]
            go_wp2_with fail
            go_roundw
            case rel => exact .inr (.inl ⟨rfl, H10.out.tail⟩)
            case measure => simp [intOf]
          · obtain ⟨cs, hcs⟩ : ∃ cs, cs = (outP who view R).cells := ⟨_, rfl⟩
            have hce : ∀ (j : Nat) (v : Value), cs[j]? = some v → wr.cell? ⟨nm, 19 + j, none⟩ = some v := by rw [hcs]; exact cells_at (hS.nth 0 rfl) 19 (outP who view R).cells rfl
            have hone : cs.toArray.all (·.oneCell') = true := by rw [hcs]; simp [MsgP.cells, msgCells, Value.oneCell', voteP, outP, blockP]
            have hsz : (Try.prog.info? 36).map (·.size) = some cs.toArray.size := by rw [hcs]; exact size19
            have hsl : (Try.prog.info? 36).map (·.size) = some cs.length := by rw [hcs]; exact size19
            have hcz : (#[.int .i64 0, .int .i64 0, .int .i64 0, .int .i64 0, .int .i64 0, .int .i64 0, .int .i64 0, .slice none 0 0, .int .i64 0, .slice none 0 0, .slice none 0 0, .int .i64 0, .int .i64 0, .slice none 0 0, .int .i64 0, .int .u64 0, .int .u64 0, .int .i64 0, .slice none 0 0] : Array Value).size = cs.toArray.size := by rw [hcs]; rfl
            obtain ⟨n7, y1, EN8, EX8, ES8, H8⟩ := hS.box (.cells #[.int .i64 0, .int .i64 0, .int .i64 0, .int .i64 0, .int .i64 0, .int .i64 0, .int .i64 0, .slice none 0 0, .int .i64 0, .slice none 0 0, .slice none 0 0, .int .i64 0, .int .i64 0, .slice none 0 0, .int .i64 0, .int .u64 0, .int .u64 0, .int .i64 0, .slice none 0 0] 36 (0, 0))
            have hb7 : y1.heap[n7]? = some (.cells #[.int .i64 0, .int .i64 0, .int .i64 0, .int .i64 0, .int .i64 0, .int .i64 0, .int .i64 0, .slice none 0 0, .int .i64 0, .slice none 0 0, .slice none 0 0, .int .i64 0, .int .i64 0, .slice none 0 0, .int .i64 0, .int .u64 0, .int .u64 0, .int .i64 0, .slice none 0 0] 36 (0, 0)) := H8.out.nth 0 rfl
            obtain ⟨y2, hy2⟩ : ∃ x, x = y1.setRow n7 cs.toArray := ⟨_, rfl⟩
            have H9 : Hid (Sys y2 (two (worldT p d Xa) (watchT pa p B [] (oneM []))) (blk n7 (.cells cs.toArray 36 (0, 0)) :: [blk nm (.cells #[.int .i64 3, .int .i64 who, .int .i64 0, .int .i64 view, .int .i64 num, .int .i64 0, .int .i64 0, .slice none 0 0, .int .i64 0, .slice none 0 0, .slice none 0 0, .int .i64 0, .int .i64 0, .slice none 0 0, .int .i64 0, .int .u64 0, .int .u64 0, .int .i64 0, .slice none 0 0, .int .i64 4, .int .i64 who, .int .i64 0, .int .i64 view, .int .i64 0, .int .i64 0, .int .i64 R, .slice none 0 0, .int .i64 0, .slice none 0 0, .slice none 0 0, .int .i64 0, .int .i64 0, .slice none 0 0, .int .i64 0, .int .u64 0, .int .u64 0, .int .i64 0, .slice none 0 0, .int .i64 2, .int .i64 who, .int .i64 0, .int .i64 0, .int .i64 0, .int .i64 0, .int .i64 0, .slice none 0 0, .int .i64 0, .slice none 0 0, .slice none 0 0, .int .i64 0, .int .i64 0, .slice none 0 0, .int .i64 0, .int .u64 0, .int .u64 0, .int .i64 0, .slice (some ⟨ns, 0, none⟩) 1 1] 36 (0, 0)), blk ns (.cells #[.int .i64 view, .int .i64 who, .int .i64 0, .int .i64 R, .slice none 0 0, .slice none 0 0] 65 (0, 0)), blk nb (.cells #[.int .i64 view, .int .i64 who, .int .i64 0, .int .i64 R, .slice none 0 0, .slice none 0 0] 65 (0, 0)), blk nr (.cells #[.int .i64 0, .int .i64 R, .slice none 0 0] 28 (0, 0)), blk nc (.cells #[.int .i64 f, .int .i64 (3 * f + 1), .int .i64 0, .int .i64 0, .int .i64 0, .int .i64 3, .int .i64 0, .int .i64 0] 49 (0, 0)), base W])) := by
              rw [hy2]
              exact H8.out.store ((Chg.refl (· = n7) y1).row cs.toArray) (setRow_heap _ _ _ _ _ _ hb7)
            have HSG : Hid (Calls Try.prog 30 #[.pointer (some ⟨pa, 0, none⟩), .agg cs.toArray] y2 fun z w' => z = .returned (.bool tb) ∧ Sys w' (two (worldT p d Xb) (watchT pa p B [] (oneM []))) (blk n7 (.cells cs.toArray 36 (0, 0)) :: [blk nm (.cells #[.int .i64 3, .int .i64 who, .int .i64 0, .int .i64 view, .int .i64 num, .int .i64 0, .int .i64 0, .slice none 0 0, .int .i64 0, .slice none 0 0, .slice none 0 0, .int .i64 0, .int .i64 0, .slice none 0 0, .int .i64 0, .int .u64 0, .int .u64 0, .int .i64 0, .slice none 0 0, .int .i64 4, .int .i64 who, .int .i64 0, .int .i64 view, .int .i64 0, .int .i64 0, .int .i64 R, .slice none 0 0, .int .i64 0, .slice none 0 0, .slice none 0 0, .int .i64 0, .int .i64 0, .slice none 0 0, .int .i64 0, .int .u64 0, .int .u64 0, .int .i64 0, .slice none 0 0, .int .i64 2, .int .i64 who, .int .i64 0, .int .i64 0, .int .i64 0, .int .i64 0, .int .i64 0, .slice none 0 0, .int .i64 0, .slice none 0 0, .slice none 0 0, .int .i64 0, .int .i64 0, .slice none 0 0, .int .i64 0, .int .u64 0, .int .u64 0, .int .i64 0, .slice (some ⟨ns, 0, none⟩) 1 1] 36 (0, 0)), blk ns (.cells #[.int .i64 view, .int .i64 who, .int .i64 0, .int .i64 R, .slice none 0 0, .slice none 0 0] 65 (0, 0)), blk nb (.cells #[.int .i64 view, .int .i64 who, .int .i64 0, .int .i64 R, .slice none 0 0, .slice none 0 0] 65 (0, 0)), blk nr (.cells #[.int .i64 0, .int .i64 R, .slice none 0 0] 28 (0, 0)), blk nc (.cells #[.int .i64 f, .int .i64 (3 * f + 1), .int .i64 0, .int .i64 0, .int .i64 0, .int .i64 3, .int .i64 0, .int .i64 0] 49 (0, 0)), base W])) := by
              show Calls _ _ _ _ _
              rw [HTB.out]
              have hh := watch_sign_out who view R HWHO.out (by have := HBF.out; have := HF.out; omega) H9.out rfl rfl (by have := HGA.out.len; have := H30.out; omega)
              rw [hcs] at hh ⊢
              refine hh.mono ?_
              rintro e w' ⟨he, h⟩
              rw [two0] at h
              exact ⟨he, by rw [HXB.out]; exact h⟩
            have HB7 := Lib.hid hb7
            have HY2 := Lib.hid hy2
            have HCE := Lib.hid hce
            clear hcs hb7 hy2 hce hS H8
            go_upto_region 18 with (first | (refine wpList_load_at rfl 36 _ rfl nm 19 rfl cs _ HCE.out Try.underlying36 rfl hsl ?_) | (rw [EX8.out, EN8.out]; refine wpList_store_row rfl 36 _ _ rfl n7 cs.toArray rfl rfl _ _ HB7.out hsz hcz hone ?_; rw [← HY2.out]))
            have hb := H9.out.nth 0 rfl
            go_wp2_with (refine wpList_load_row rfl 36 _ rfl n7 rfl _ _ _ _ hb Try.underlying36 rfl hsz ?_)
            refine HSG.out.mono ?_
            rintro e y3 ⟨rfl, h⟩
            have H10 := Lib.hid h
            clear h hb
            go_wp2_with fail
            refine (watch_bad who (by have := HBF.out; have := HF.out; omega) H10.out rfl).mono ?_
            rintro e y4 ⟨rfl, rfl⟩
            rw [← HTB.out]
            go_wp2_with fail
            go_roundw
            case rel => exact .inr (.inr (.inl ⟨rfl, H10.out.tail⟩))
            case measure => simp [intOf]
          · obtain ⟨cs, hcs⟩ : ∃ cs, cs = (blockP who (⟨view, who, 0, R, [], []⟩, .slice none 0 0, .slice none 0 0) (some ⟨ns, 0, none⟩) 1).cells := ⟨_, rfl⟩
            have hce : ∀ (j : Nat) (v : Value), cs[j]? = some v → wr.cell? ⟨nm, 38 + j, none⟩ = some v := by rw [hcs]; exact cells_at (hS.nth 0 rfl) 38 (blockP who (⟨view, who, 0, R, [], []⟩, .slice none 0 0, .slice none 0 0) (some ⟨ns, 0, none⟩) 1).cells rfl
            have hone : cs.toArray.all (·.oneCell') = true := by rw [hcs]; simp [MsgP.cells, msgCells, Value.oneCell', voteP, outP, blockP]
            have hsz : (Try.prog.info? 36).map (·.size) = some cs.toArray.size := by rw [hcs]; exact size19
            have hsl : (Try.prog.info? 36).map (·.size) = some cs.length := by rw [hcs]; exact size19
            have hcz : (#[.int .i64 0, .int .i64 0, .int .i64 0, .int .i64 0, .int .i64 0, .int .i64 0, .int .i64 0, .slice none 0 0, .int .i64 0, .slice none 0 0, .slice none 0 0, .int .i64 0, .int .i64 0, .slice none 0 0, .int .i64 0, .int .u64 0, .int .u64 0, .int .i64 0, .slice none 0 0] : Array Value).size = cs.toArray.size := by rw [hcs]; rfl
            obtain ⟨n7, y1, EN8, EX8, ES8, H8⟩ := hS.box (.cells #[.int .i64 0, .int .i64 0, .int .i64 0, .int .i64 0, .int .i64 0, .int .i64 0, .int .i64 0, .slice none 0 0, .int .i64 0, .slice none 0 0, .slice none 0 0, .int .i64 0, .int .i64 0, .slice none 0 0, .int .i64 0, .int .u64 0, .int .u64 0, .int .i64 0, .slice none 0 0] 36 (0, 0))
            have hb7 : y1.heap[n7]? = some (.cells #[.int .i64 0, .int .i64 0, .int .i64 0, .int .i64 0, .int .i64 0, .int .i64 0, .int .i64 0, .slice none 0 0, .int .i64 0, .slice none 0 0, .slice none 0 0, .int .i64 0, .int .i64 0, .slice none 0 0, .int .i64 0, .int .u64 0, .int .u64 0, .int .i64 0, .slice none 0 0] 36 (0, 0)) := H8.out.nth 0 rfl
            obtain ⟨y2, hy2⟩ : ∃ x, x = y1.setRow n7 cs.toArray := ⟨_, rfl⟩
            have H9 : Hid (Sys y2 (two (worldT p d Xb) (watchT pa p B [] (oneM []))) (blk n7 (.cells cs.toArray 36 (0, 0)) :: [blk nm (.cells #[.int .i64 3, .int .i64 who, .int .i64 0, .int .i64 view, .int .i64 num, .int .i64 0, .int .i64 0, .slice none 0 0, .int .i64 0, .slice none 0 0, .slice none 0 0, .int .i64 0, .int .i64 0, .slice none 0 0, .int .i64 0, .int .u64 0, .int .u64 0, .int .i64 0, .slice none 0 0, .int .i64 4, .int .i64 who, .int .i64 0, .int .i64 view, .int .i64 0, .int .i64 0, .int .i64 R, .slice none 0 0, .int .i64 0, .slice none 0 0, .slice none 0 0, .int .i64 0, .int .i64 0, .slice none 0 0, .int .i64 0, .int .u64 0, .int .u64 0, .int .i64 0, .slice none 0 0, .int .i64 2, .int .i64 who, .int .i64 0, .int .i64 0, .int .i64 0, .int .i64 0, .int .i64 0, .slice none 0 0, .int .i64 0, .slice none 0 0, .slice none 0 0, .int .i64 0, .int .i64 0, .slice none 0 0, .int .i64 0, .int .u64 0, .int .u64 0, .int .i64 0, .slice (some ⟨ns, 0, none⟩) 1 1] 36 (0, 0)), blk ns (.cells #[.int .i64 view, .int .i64 who, .int .i64 0, .int .i64 R, .slice none 0 0, .slice none 0 0] 65 (0, 0)), blk nb (.cells #[.int .i64 view, .int .i64 who, .int .i64 0, .int .i64 R, .slice none 0 0, .slice none 0 0] 65 (0, 0)), blk nr (.cells #[.int .i64 0, .int .i64 R, .slice none 0 0] 28 (0, 0)), blk nc (.cells #[.int .i64 f, .int .i64 (3 * f + 1), .int .i64 0, .int .i64 0, .int .i64 0, .int .i64 3, .int .i64 0, .int .i64 0] 49 (0, 0)), base W])) := by
              rw [hy2]
              exact H8.out.store ((Chg.refl (· = n7) y1).row cs.toArray) (setRow_heap _ _ _ _ _ _ hb7)
            have HSG : Hid (Calls Try.prog 30 #[.pointer (some ⟨pa, 0, none⟩), .agg cs.toArray] y2 fun z w' => z = .returned (.bool tb) ∧ Sys w' (two (worldT p d Xc) (watchT pa p B [] (oneM []))) (blk n7 (.cells cs.toArray 36 (0, 0)) :: [blk nm (.cells #[.int .i64 3, .int .i64 who, .int .i64 0, .int .i64 view, .int .i64 num, .int .i64 0, .int .i64 0, .slice none 0 0, .int .i64 0, .slice none 0 0, .slice none 0 0, .int .i64 0, .int .i64 0, .slice none 0 0, .int .i64 0, .int .u64 0, .int .u64 0, .int .i64 0, .slice none 0 0, .int .i64 4, .int .i64 who, .int .i64 0, .int .i64 view, .int .i64 0, .int .i64 0, .int .i64 R, .slice none 0 0, .int .i64 0, .slice none 0 0, .slice none 0 0, .int .i64 0, .int .i64 0, .slice none 0 0, .int .i64 0, .int .u64 0, .int .u64 0, .int .i64 0, .slice none 0 0, .int .i64 2, .int .i64 who, .int .i64 0, .int .i64 0, .int .i64 0, .int .i64 0, .int .i64 0, .slice none 0 0, .int .i64 0, .slice none 0 0, .slice none 0 0, .int .i64 0, .int .i64 0, .slice none 0 0, .int .i64 0, .int .u64 0, .int .u64 0, .int .i64 0, .slice (some ⟨ns, 0, none⟩) 1 1] 36 (0, 0)), blk ns (.cells #[.int .i64 view, .int .i64 who, .int .i64 0, .int .i64 R, .slice none 0 0, .slice none 0 0] 65 (0, 0)), blk nb (.cells #[.int .i64 view, .int .i64 who, .int .i64 0, .int .i64 R, .slice none 0 0, .slice none 0 0] 65 (0, 0)), blk nr (.cells #[.int .i64 0, .int .i64 R, .slice none 0 0] 28 (0, 0)), blk nc (.cells #[.int .i64 f, .int .i64 (3 * f + 1), .int .i64 0, .int .i64 0, .int .i64 0, .int .i64 3, .int .i64 0, .int .i64 0] 49 (0, 0)), base W])) := by
              show Calls _ _ _ _ _
              rw [HTB.out]
              have hh := watch_sign_block ⟨view, who, 0, R, [], []⟩ none none 0 0 ns 0 1 HWHO.out (by have := HBF.out; have := HF.out; omega) (fun y m' hs => blksOne (b := ⟨view, who, 0, R, [], []⟩) (hs.nth 2 rfl) rfl rfl) (fun e he => nomatch he) H9.out rfl rfl (by have := HGB.out.len; have := H30.out; omega)
              rw [hcs] at hh ⊢
              refine hh.mono ?_
              rintro e w' ⟨he, h⟩
              rw [two0] at h
              exact ⟨he, by rw [HXC.out]; rw [HBK.out]; exact h⟩
            have HB7 := Lib.hid hb7
            have HY2 := Lib.hid hy2
            have HCE := Lib.hid hce
            clear hcs hb7 hy2 hce hS H8
            go_upto_region 18 with (first | (refine wpList_load_at rfl 36 _ rfl nm 38 rfl cs _ HCE.out Try.underlying36 rfl hsl ?_) | (rw [EX8.out, EN8.out]; refine wpList_store_row rfl 36 _ _ rfl n7 cs.toArray rfl rfl _ _ HB7.out hsz hcz hone ?_; rw [← HY2.out]))
            have hb := H9.out.nth 0 rfl
            go_wp2_with (refine wpList_load_row rfl 36 _ rfl n7 rfl _ _ _ _ hb Try.underlying36 rfl hsz ?_)
            refine HSG.out.mono ?_
            rintro e y3 ⟨rfl, h⟩
            have H10 := Lib.hid h
            clear h hb
            go_wp2_with fail
            refine (watch_bad who (by have := HBF.out; have := HF.out; omega) H10.out rfl).mono ?_
            rintro e y4 ⟨rfl, rfl⟩
            rw [← HTB.out]
            go_wp2_with fail
            go_roundw
            case rel => exact .inr (.inr (.inr ⟨rfl, H10.out.tail⟩))
            case measure => simp [intOf]
          · have HS := Lib.hid hS
            clear hS hne HD H5 H6 H7 HG HGA HGB HXA HXB HXC
            have hbc := HS.out.nth 4 rfl
            have hbb := HS.out.nth 2 rfl
            have hok := HOK.out
            rw [HBK.out] at hok
            have HOK2 := Lib.hid hok
            clear hok HOK
            go_upto_region 21 with fail
            go_wp2_with (first | (refine wpList_load_row rfl 49 _ rfl nc rfl _ _ _ _ hbc Try.underlying49 rfl size8 ?_) | (refine wpList_load_row rfl 65 _ rfl nb rfl _ _ _ _ hbb Try.underlying65 rfl size6B ?_))
            refine (blok_ok (cfgF f) (cfgF_good HF.out) ⟨view, who, 0, R, [], []⟩ none 0 none 0 (fun y _ _ => ⟨_, _, rfl, SliceIn.nil _ _, SliceIn.nil _ _⟩) (fun e he => nomatch he) (by have := HVIEW.out; show _ ≤ view ∧ view ≤ _; omega) HS.out rfl HGC.out.ok HGC.out.root (by have := HGC.out.len; have := H30.out; omega)).mono ?_
            rintro e y5 ⟨rfl, X', hE, h⟩
            rw [two0] at h
            rw [HOK2.out]
            have HG2 := Lib.hid (HGC.out.ext hE)
            have H12 := Lib.hid h
            clear h hE hbc hbb
            have hbc := H12.out.nth 4 rfl
            cases tb with
            | false =>
              rw [Bool.false_and]
              go_wp2_with fail
              refine (watch_bad who (by have := HBF.out; have := HF.out; omega) H12.out rfl).mono ?_
              rintro e y6 ⟨rfl, rfl⟩
              rw [← HTB.out]
              clear hbc
              go_wp2_with fail
              go_roundw
              case rel => exact ⟨i + 1, X', by have := HLT.out; omega, by have := H30.out; omega, by go_num, HG2.out.mono (by show _ + (2 * 0 + 3) ≤ _; omega), H12.out.dropAt 2 rfl |>.dropAt 1 rfl |>.tail⟩
              case measure => simp [intOf]; have := H30.out; omega
            | true =>
              rw [Bool.true_and]
              have hb1 : (leadOf (cfgF f) view == who) = lb := by rw [HLB.out]; rfl
              have hnl : (lb != lb) = false := by cases lb <;> rfl
              go_wp2_with fail
              refine (watch_bad who (by have := HBF.out; have := HF.out; omega) H12.out rfl).mono ?_
              rintro e y6 ⟨rfl, rfl⟩
              rw [← HTB.out]
              go_wp2_with (refine wpList_load_rowG rfl 49 _ rfl nc rfl _ _ _ _ hbc Try.underlying49 rfl size8 ?_)
              refine (blok_lead_of (cfgF f) (cfgF_good HF.out) view (by have := HVIEW.out; omega) H12.out).mono ?_
              rintro e y7 ⟨rfl, h⟩
              have H13 := Lib.hid h
              clear h hbc
              go_wp2_with fail
              go_roundw
              case rel => exact ⟨i + 1, X', by have := HLT.out; omega, by have := H30.out; omega, by go_num, HG2.out.mono (by show _ + (2 * 0 + 3) ≤ _; omega), H13.out.dropAt 2 rfl |>.dropAt 1 rfl |>.tail⟩
              case measure => simp [intOf]; have := H30.out; omega
      · have HR := Lib.hid hR
        clear hR
        go_upto_region 11 with fail
        go_cut [64] from 57 to 63 (fun tv wx => tv = .bool false ∧ wx = wr)
        case first =>
          by_cases hlt : i < len2
          · have hil : (i : Int) < (len2 : Int) := by omega
            have hi3 : ¬ ((i : Int) < 30) := by omega
            go_wp2_with fail
            go_meet
            case rel => exact ⟨rfl, rfl⟩
          · have hil : ¬ ((i : Int) < (len2 : Int)) := by omega
            go_wp2_with fail
            go_meet
            case rel => exact ⟨rfl, rfl⟩
        case rest =>
          obtain ⟨rfl, rfl⟩ := hcut
          have HG3 : Hid (FG R B X 700) := HG.out.mono (by omega)
          clear hgo hi hi30 HG
          obtain ⟨N, hN⟩ : ∃ N : Nat, (N : Int) = 3 * f + 1 := ⟨(3 * f + 1).toNat, by have := HF.out; omega⟩
          have hN7 : 4 ≤ N ∧ N ≤ 7 := by have := HF.out; omega
          have HNN := Lib.hid hN
          have HN7 := Lib.hid hN7
          have h1 := HR.out.push (F := fun _ => False) (t := own 3 1 (.slice none 0 0) 0 []) (Chg.refl _ _) ⟨Own.nil _ _ _, by funext k; simp [Value.ownBlock]⟩ (fun _ h => h.elim)
          have h2 := h1.push (F := fun _ => False) (t := own 3 1 (.slice none 0 0) 0 []) (Chg.refl _ _) ⟨Own.nil _ _ _, by funext k; simp [Value.ownBlock]⟩ (fun _ h => h.elim)
          have H2' := Lib.hid h2
          clear h1 h2 HR hN hN7
          go_upto_region 25 with fail
          go_loopw [18, 19, 20] (fun bv hv iv wr => ∃ (j : Nat) (ba ha : Option Addr) (bc hc : Nat), j ≤ N ∧ iv = .int .i64 (j : Int) ∧ bv = .slice ba j bc ∧ hv = .slice ha j hc ∧ Sys wr (two (worldT p d X) (watchT pa p B [] (oneM []))) (own 3 1 (.slice ba j bc) j ((upto j).map (Value.int .i64)) :: own 3 1 (.slice ha j hc) j ((List.replicate j (0 : Int)).map (Value.int .i64)) :: [blk nr (.cells #[.int .i64 0, .int .i64 R, .slice none 0 0] 28 (0, 0)), blk nc (.cells #[.int .i64 f, .int .i64 (3 * f + 1), .int .i64 0, .int .i64 0, .int .i64 0, .int .i64 3, .int .i64 0, .int .i64 0] 49 (0, 0)), base W])) (fun _ _ iv _ => N - (intOf iv).toNat)
          case atStart => exact ⟨0, none, none, 0, 0, by omega, rfl, rfl, rfl, H2'.out⟩
          case round =>
            obtain ⟨j, ba, ha, bc, hc, hj, rfl, rfl, rfl, hR⟩ := hrel
            have k1 : World.cell? _ ⟨nc, 1, none⟩ = some (.int .i64 (3 * f + 1)) := (cell_of_blk (hR.nth 3 rfl) 1).trans rfl
            by_cases hlt : j < N
            · have hil : (j : Int) < 3 * f + 1 := by have := HNN.out; omega
              have hiw : IntKind.i64.wrap ((j : Int) + 1) = (j : Int) + 1 := by rw [IntKind.wrap_i64]; have := HN7.out; omega
              have HLT := Lib.hid hlt
              obtain ⟨n1, z1_, EN8, EX8, ES8, H8⟩ := hR.box (.cells #[.int .i64 (j : Int)] 3 (0, 0))
              obtain ⟨v1, z2_, hap1, h3⟩ := (H8.out.front 1 rfl).appInts (k := 1) (some ⟨n1, 0, none⟩) 1 [(j : Int)] rfl (ints_const (t := [(j : Int)]) (H8.out.nth 0 rfl)) (by have := HN7.out; omega) 23
              have h4 := h3.dropAt 1 rfl
              obtain ⟨n2, z3_, EN9, EX9, ES9, H9⟩ := h4.box (.cells #[.int .i64 0] 3 (0, 0))
              obtain ⟨v2, z4_, hap2, h5⟩ := (H9.out.front 2 rfl).appInts (k := 1) (some ⟨n2, 0, none⟩) 1 [0] rfl (ints_const (t := [0]) (H9.out.nth 0 rfl)) (by have := HN7.out; omega) 23
              have h6 := (h5.dropAt 1 rfl).swap
              obtain ⟨ba', m1, bc', rfl, hm1⟩ := h6.getOwn.slice
              obtain rfl : m1 = j + 1 := hm1.out
              obtain ⟨ha', m2, hc', rfl, hm2⟩ := h6.swap.getOwn.slice
              obtain rfl : m2 = j + 1 := hm2.out
              have e1 : upto j ++ [(j : Int)] = upto (j + 1) := by unfold upto; rw [List.range_succ, List.map_append]; rfl
              have e2 : List.replicate j (0 : Int) ++ [0] = List.replicate (j + 1) 0 := by rw [List.replicate_succ']
              rw [e1, e2] at h6
              have H10 := Lib.hid h6
              clear h3 h4 h5 h6 hm1 hm2 e1 e2 hR hlt hj H2'
              go_upto_region 26 with (first | (rw [EX8.out, EN8.out]; (at_builtin; refine wpl_append rfl _ _ _ rfl rfl rfl hap1 ?_)) | (rw [EX9.out, EN9.out]; (at_builtin; refine wpl_append rfl _ _ _ rfl rfl rfl hap2 ?_)))
              clear hap1 hap2 k1
              go_wp2_with fail
              go_roundw
              case rel => exact ⟨j + 1, ba', ha', bc', hc', by have := HLT.out; omega, by go_num, rfl, rfl, H10.out⟩
              case measure => simp [intOf]; have := HLT.out; omega
            · obtain rfl : N = j := by omega
              have hil : ¬ ((N : Int) < 3 * f + 1) := by have := HNN.out; omega
              have HR := Lib.hid hR
              clear hR hlt hj H2'
              obtain ⟨a_, c_, e_, hnc, hcm, -, ha_⟩ := HR.out.getOwn.open
              cases e_
              obtain ⟨gb, rfl⟩ : ∃ g, ba = some ⟨g, 0, none⟩ := by
                rcases ha_ with ⟨_, h, _⟩ | ⟨g, _, h, _⟩
                · have := HN7.out; omega
                · exact ⟨g, h⟩
              obtain ⟨a_, c_, e_, hnc2, hcm2, -, ha_⟩ := HR.out.swap.getOwn.open
              cases e_
              obtain ⟨gh, rfl⟩ : ∃ g, ha = some ⟨g, 0, none⟩ := by
                rcases ha_ with ⟨_, h, _⟩ | ⟨g, _, h, _⟩
                · have := HN7.out; omega
                · exact ⟨g, h⟩
              have HNC := Lib.hid hnc
              have HNC2 := Lib.hid hnc2
              clear ha_ hnc hcm hnc2 hcm2
              go_wp2_with fail
              clear hil k1
              go_loopw [21] (fun iv wr => ∃ (k : Nat) (X : WX), k ≤ 4 ∧ iv = .int .i64 ((k : Int) + 1) ∧ Hid (FG R B X (700 + 400 * k)) ∧ Sys wr (two (worldT p d X) (watchT pa p B [] (oneM []))) (own 3 1 (.slice (some ⟨gb, 0, none⟩) N bc) N ((upto N).map (Value.int .i64)) :: own 3 1 (.slice (some ⟨gh, 0, none⟩) N hc) N ((List.replicate N (0 : Int)).map (Value.int .i64)) :: [blk nr (.cells #[.int .i64 0, .int .i64 R, .slice none 0 0] 28 (0, 0)), blk nc (.cells #[.int .i64 f, .int .i64 (3 * f + 1), .int .i64 0, .int .i64 0, .int .i64 0, .int .i64 3, .int .i64 0, .int .i64 0] 49 (0, 0)), base W])) (fun iv _ => 5 - (intOf iv).toNat)
              case atStart => exact ⟨0, X, by omega, rfl, HG3, HR.out⟩
              case round =>
                obtain ⟨k, X, hk, rfl, HGK, hR⟩ := hrel
                by_cases hk4 : k < 4
                · have hkl : (k : Int) + 1 < 5 := by omega
                  have hkw : IntKind.i64.wrap ((k : Int) + 1 + 1) = (k : Int) + 1 + 1 := by rw [IntKind.wrap_i64]; omega
                  have HK4 := Lib.hid hk4
                  have HRK := Lib.hid hR
                  clear hR hk hk4 HR HG3
                  go_wp2_with fail
                  go_loopw [22] (fun iv wr => ∃ (q : Nat) (X : WX), q ≤ 4 ∧ iv = .int .i64 (q : Int) ∧ Hid (FG R B X (700 + 400 * k + 90 * q)) ∧ Sys wr (two (worldT p d X) (watchT pa p B [] (oneM []))) (own 3 1 (.slice (some ⟨gb, 0, none⟩) N bc) N ((upto N).map (Value.int .i64)) :: own 3 1 (.slice (some ⟨gh, 0, none⟩) N hc) N ((List.replicate N (0 : Int)).map (Value.int .i64)) :: [blk nr (.cells #[.int .i64 0, .int .i64 R, .slice none 0 0] 28 (0, 0)), blk nc (.cells #[.int .i64 f, .int .i64 (3 * f + 1), .int .i64 0, .int .i64 0, .int .i64 0, .int .i64 3, .int .i64 0, .int .i64 0] 49 (0, 0)), base W])) (fun iv _ => 4 - (intOf iv).toNat)
                  case atStart => exact ⟨0, X, by omega, rfl, HGK, HRK.out⟩
                  case round =>
                    obtain ⟨q, X, hq, rfl, HGQ, hR⟩ := hrel
                    by_cases hq4 : q < 4
                    · have hql : (q : Int) < 4 := by omega
                      have hqw : IntKind.i64.wrap ((q : Int) + 1) = (q : Int) + 1 := by rw [IntKind.wrap_i64]; omega
                      have HQ4 := Lib.hid hq4
                      have HRQ := Lib.hid hR
                      clear hR hq hq4 HRK HGK
                      go_wp2_with fail
                      go_loopw [23] (fun iv wr => ∃ (r : Nat) (X : WX), r ≤ N ∧ iv = .int .i64 (r : Int) ∧ Hid (FG R B X (700 + 400 * k + 90 * q + 10 * r)) ∧ Sys wr (two (worldT p d X) (watchT pa p B [] (oneM []))) (own 3 1 (.slice (some ⟨gb, 0, none⟩) N bc) N ((upto N).map (Value.int .i64)) :: own 3 1 (.slice (some ⟨gh, 0, none⟩) N hc) N ((List.replicate N (0 : Int)).map (Value.int .i64)) :: [blk nr (.cells #[.int .i64 0, .int .i64 R, .slice none 0 0] 28 (0, 0)), blk nc (.cells #[.int .i64 f, .int .i64 (3 * f + 1), .int .i64 0, .int .i64 0, .int .i64 0, .int .i64 3, .int .i64 0, .int .i64 0] 49 (0, 0)), base W])) (fun iv _ => N - (intOf iv).toNat)
                      case atStart => exact ⟨0, X, by omega, rfl, HGQ, HRQ.out⟩
                      case round =>
                        obtain ⟨r, X, hr, rfl, HGR, hR⟩ := hrel
                        have k1 : World.cell? _ ⟨nc, 1, none⟩ = some (.int .i64 (3 * f + 1)) := (cell_of_blk (hR.nth 3 rfl) 1).trans rfl
                        by_cases hrN : r < N
                        · have hrl : (r : Int) < 3 * f + 1 := by have := HNN.out; omega
                          have hrw : IntKind.i64.wrap ((r : Int) + 1) = (r : Int) + 1 := by rw [IntKind.wrap_i64]; have := HN7.out; omega
                          have HRN := Lib.hid hrN
                          have HRR := Lib.hid hR
                          clear hR hr hrN HRQ HGQ
                          go_upto_region 37 with fail
                          clear k1
                          have HL1 : Hid (((upto N).drop r).length = N - r) := by show _ = _; rw [List.length_drop, upto_length]
                          have HL2 : Hid (((List.replicate N (0 : Int)).drop r).length = N - r) := by show _ = _; rw [List.length_drop, List.length_replicate]
                          have hrN : (r : Int) ≤ (N : Int) := by have := HRN.out; omega
                          have hbr : ¬ (bc = r) := by have := HNC.out; have := HRN.out; omega
                          have hhr : ¬ (hc = r) := by have := HNC2.out; have := HRN.out; omega
                          refine wp_region_seq (fun x : World => x.heap[nc]? = some (.cells #[.int .i64 f, .int .i64 (3 * f + 1), .int .i64 0, .int .i64 0, .int .i64 0, .int .i64 3, .int .i64 0, .int .i64 0] 49 (0, 0)) ∧ x.heap[nr]? = some (.cells #[.int .i64 0, .int .i64 R, .slice none 0 0] 28 (0, 0))) anyW [] [(0, 0, some 157), (1, 1, some 158), (2, 0, some 159), (3, 0, some 160), (4, 0, some 161), (5, 0, some 162), (6, 0, some 163), (7, 0, some 164), (8, 2, some 165), (9, 0, some 166), (10, 0, some 167), (11, 1, some 168), (12, 0, some 169), (13, 0, some 170), (14, 0, some 171), (15, 0, some 172), (16, 0, some 173), (17, 0, some 174), (18, 0, some 175), (19, 1, some 176), (20, 0, some 177), (21, 2, some 178), (22, 0, some 179)] (by kernel_rfl) (by kernel_rfl) (fun _ _ _ d _ h => by cases d <;> exact h) ⟨HRR.out.drew.nth 3 rfl, HRR.out.drew.nth 2 rfl⟩ anyW.i ?_
                          repeat (first | (refine seqW (v := ?_) rfl rfl (by kernel_rfl) ?_ ?_; rotate_left; (focus ((intro x; go_simp); try (with_reducible rfl))); try simp only [Act.put, List.setIfInBounds_toArray, List.set_cons_zero, List.set_cons_succ]) | (refine seqS (v := ?_) rfl rfl (by kernel_rfl) ?_ ?_; rotate_left; (focus (intro x hS; first | (refine (exec_row 49 _ (by rfl) nc (by rfl) _ _ _ _ hS.1 Try.underlying49 rfl size8).trans ?_; with_reducible rfl) | (refine (exec_row 28 _ (by rfl) nr (by rfl) _ _ _ _ hS.2 Try.underlying28 rfl size3).trans ?_; with_reducible rfl) | (obtain ⟨hS1, hS2⟩ := hS; go_simp; try (with_reducible rfl)))); try simp only [Act.put, List.setIfInBounds_toArray, List.set_cons_zero, List.set_cons_succ]) | (refine seqX rfl rfl (by kernel_rfl) ?_; try simp only [Act.put, List.setIfInBounds_toArray, List.set_cons_zero, List.set_cons_succ]))
                          refine seqL rfl rfl (fun K hK => ?_)
                          go_simp
                          go_at_call 33
                          have hc1 := cert_qcok (cfgF f) (cfgF_good HF.out) ((k : Int) + 1) (q : Int) ((upto N).drop r) (some ⟨gb, r, none⟩) (bc - r) (fun y m' hs => IntsAt.drop_ hs.getOwn.intsAt r) (by rw [HL1.out]; have := HN7.out; omega) HRR.out.drew rfl (by have := HGR.out.len; have := HK4.out; have := HQ4.out; have := HRN.out; have := HN7.out; omega)
                          rw [HL1.out, forge_qc (cfgF f) (show (B.length : Int) ≤ (cfgF f).f from HBF.out) (by have := HF.out; show 0 ≤ f; omega) ((k : Int) + 1) (q : Int) (by omega) ((upto N).drop r) (List.Nodup.sublist (List.drop_sublist r _) (upto_nodup N)) HGR.out] at hc1
                          refine hc1.mono ?_
                          rintro z y1 ⟨rfl, h⟩
                          rw [two0] at h
                          have HG5 := Lib.hid (HGR.out.ext (qcX_ext X ((k : Int) + 1) (q : Int)))
                          have H5' := Lib.hid h
                          clear h hc1
                          go_wp2_with fail
                          refine hK.out _ _ anyW.i ?_ (fun _ hSt => ?_)
                          · exact ⟨H5'.out.nth 3 rfl, H5'.out.nth 2 rfl⟩
                          clear hSt hK K
                          try simp only [Act.put, List.setIfInBounds_toArray, List.set_cons_zero, List.set_cons_succ]
                          repeat (first | (refine seqW (v := ?_) rfl rfl (by kernel_rfl) ?_ ?_; rotate_left; (focus ((intro x; go_simp); try (with_reducible rfl))); try simp only [Act.put, List.setIfInBounds_toArray, List.set_cons_zero, List.set_cons_succ]) | (refine seqS (v := ?_) rfl rfl (by kernel_rfl) ?_ ?_; rotate_left; (focus (intro x hS; first | (refine (exec_row 49 _ (by rfl) nc (by rfl) _ _ _ _ hS.1 Try.underlying49 rfl size8).trans ?_; with_reducible rfl) | (refine (exec_row 28 _ (by rfl) nr (by rfl) _ _ _ _ hS.2 Try.underlying28 rfl size3).trans ?_; with_reducible rfl) | (obtain ⟨hS1, hS2⟩ := hS; go_simp; try (with_reducible rfl)))); try simp only [Act.put, List.setIfInBounds_toArray, List.set_cons_zero, List.set_cons_succ]) | (refine seqX rfl rfl (by kernel_rfl) ?_; try simp only [Act.put, List.setIfInBounds_toArray, List.set_cons_zero, List.set_cons_succ]))
                          refine seqL rfl rfl (fun K hK => ?_)
                          go_simp
                          go_at_call 34
                          have hc2 := cert_tcok (cfgF f) (cfgF_good HF.out) ⟨(k : Int) + 1, (upto N).drop r, (List.replicate N (0 : Int)).drop r, 0, R, []⟩ (some ⟨gb, r, none⟩) (some ⟨gh, r, none⟩) none (bc - r) (hc - r) 0 (N - r) 0 HL1.out HL2.out rfl (by have := HN7.out; omega) (by decide) (fun y m' hs => IntsAt.drop_ hs.getOwn.intsAt r) (fun y m' hs => IntsAt.drop_ hs.tail.getOwn.intsAt r) (fun _ _ _ => .inl rfl) H5'.out rfl HG5.out.ok HG5.out.root (by have := HG5.out.len; have := HK4.out; have := HQ4.out; have := HRN.out; have := HN7.out; omega)
                          rw [forge_tc (cfgF f) (show (B.length : Int) ≤ (cfgF f).f from HBF.out) (by have := HF.out; show 0 ≤ f; omega) ⟨(k : Int) + 1, (upto N).drop r, (List.replicate N (0 : Int)).drop r, 0, R, []⟩ (List.Nodup.sublist (List.drop_sublist r _) (upto_nodup N)) HG5.out] at hc2
                          refine hc2.mono ?_
                          rintro z y2 ⟨rfl, X6, hE, h⟩
                          rw [two0] at h
                          have HG6 := Lib.hid (HG5.out.ext hE)
                          have H6' := Lib.hid h
                          clear h hc2 hE
                          go_wp2_with fail
                          refine hK.out _ _ anyW.i ?_ (fun _ hSt => ?_)
                          · exact ⟨H6'.out.nth 3 rfl, H6'.out.nth 2 rfl⟩
                          clear hSt hK K
                          try simp only [Act.put, List.setIfInBounds_toArray, List.set_cons_zero, List.set_cons_succ]
                          repeat (first | (refine seqW (v := ?_) rfl rfl (by kernel_rfl) ?_ ?_; rotate_left; (focus ((intro x; go_simp); try (with_reducible rfl))); try simp only [Act.put, List.setIfInBounds_toArray, List.set_cons_zero, List.set_cons_succ]) | (refine seqS (v := ?_) rfl rfl (by kernel_rfl) ?_ ?_; rotate_left; (focus (intro x hS; first | (refine (exec_row 49 _ (by rfl) nc (by rfl) _ _ _ _ hS.1 Try.underlying49 rfl size8).trans ?_; with_reducible rfl) | (refine (exec_row 28 _ (by rfl) nr (by rfl) _ _ _ _ hS.2 Try.underlying28 rfl size3).trans ?_; with_reducible rfl) | (obtain ⟨hS1, hS2⟩ := hS; go_simp; try (with_reducible rfl)))); try simp only [Act.put, List.setIfInBounds_toArray, List.set_cons_zero, List.set_cons_succ]) | (refine seqX rfl rfl (by kernel_rfl) ?_; try simp only [Act.put, List.setIfInBounds_toArray, List.set_cons_zero, List.set_cons_succ]))
                          refine seqE ?_
                          go_wp2_with fail
                          go_roundw
                          case rel => exact ⟨r + 1, X6, by have := HRN.out; omega, by go_num, HG6.out.mono (by have := HRN.out; have := HN7.out; omega), H6'.out⟩
                          case measure => simp [intOf]; have := HRN.out; omega
                        · obtain rfl : N = r := by omega
                          have hrl : ¬ ((N : Int) < 3 * f + 1) := by have := HNN.out; omega
                          have HRR := Lib.hid hR
                          clear hR hr hrN HRQ HGQ
                          go_wp2_with fail
                          clear k1 hrl
                          go_roundw
                          case rel => exact ⟨q + 1, X, by have := HQ4.out; omega, by go_num, HGR.out.mono (by have := HN7.out; omega), HRR.out⟩
                          case measure => simp [intOf]; have := HQ4.out; omega
                    · obtain rfl : q = 4 := by omega
                      have HRQ := Lib.hid hR
                      clear hR hq hq4 HRK HGK
                      go_wp2_with fail
                      go_roundw
                      case rel => exact ⟨k + 1, X, by have := HK4.out; omega, by go_num, HGQ.out.mono (by omega), HRQ.out⟩
                      case measure => simp [intOf]; have := HK4.out; omega
                · obtain rfl : k = 4 := by omega
                  have HRK := Lib.hid hR
                  clear hR hk hk4 HR HG3
                  go_wp2_with fail
                  refine (mess_code_own (voteP 0 0 0) (vote_own 0 0 0) (vote_at 0 0 0 _) (vote_wf 0 0 0) (vote_len 0 0 0) HRK.out).mono ?_
                  rintro e y1 ⟨v, rfl, h⟩
                  have H9 := Lib.hid h.tail
                  clear h
                  go_wp2_with fail
                  refine (adve_awake y1).mono ?_
                  rintro e y2 ⟨rfl, hB⟩
                  have HB := Lib.hid ((memBaseD (W := W) H9.out (by simp)).trans (hB.mono (memBaseD (W := W) H9.out (by simp)).size))
                  clear hB
                  go_wp2_with fail
                  go_ret
                  exact ⟨rfl, HB.out⟩
  · have hbig : (len1 : Int) > 50 := by omega
    have HFEW := Lib.hid hfew
    clear hfew
    go_upto_region 5 with fail
    clear hbig
    go_wp2_with fail
    refine (adve_awake x1).mono ?_
    rintro e x2 ⟨rfl, hB⟩
    have HB := Lib.hid ((memBaseD (W := W) H1.out (by simp)).trans (hB.mono (memBaseD (W := W) H1.out (by simp)).size))
    clear hB
    go_wp2_with fail
    go_ret
    exact ⟨rfl, HB.out⟩
end Go.Proofs.Ytcfhkpjheemkgaa.adveForges
