/-
  TallOnce: a certificate comes just when a quorum of unlike replicas voted for one block in one view.
-/
import Derived.Test.YtcfhkpjheemkgaaTallAwake
import Derived.BigQuiet
import Derived.ProofKit
import Derived.OpenShut
import Derived.ChangeOld
namespace Go.Proofs.Ytcfhkpjheemkgaa
set_option linter.unusedSectionVars false
set_option linter.unnecessarySimpa false
set_option linter.unusedSimpArgs false
set_option linter.unusedVariables false
open Go.RowKit Go.MapKept
namespace tallOnce
def cfgF (f : Int) : CfgX := ⟨f, 3 * f + 1, 0, 0, 0, 0, 0, 0⟩
theorem cfgF_good {f : Int} (h : 1 ≤ f ∧ f ≤ 2) : (cfgF f).Good := by show (0 : Int) ≤ f ∧ f ≤ 1000 ∧ 3 * f + 1 = 3 * f + 1; omega
/-- Those who voted for a block: each once, replicas, and signed. -/
def Fit (f : Int) (X : WX) (blk : Int) (B : List Int) (j : Nat) : Prop := B.Nodup ∧ (∀ a ∈ B, repB (cfgF f) a = true ∧ a ∈ sg X (voteB 4 blk)) ∧ B.length ≤ j
def InvT (f : Int) (X : WX) (V : List ((Int × Int) × List Int)) (B0 B1 : List Int) (n j : Nat) : Prop := X.Ok ∧ X.T.length ≤ n ∧ voters V (4, 50) = B0 ∧ voters V (4, 51) = B1 ∧ Fit f X 50 B0 j ∧ Fit f X 51 B1 j
section
variable {f : Int} {X Y : WX} {V : List ((Int × Int) × List Int)} {B B0 B1 : List Int} {n j k : Nat} {blk : Int}
theorem Fit.sign (h : Fit f X blk B j) (hX : X.Ok) (who : Int) (x : List UInt8) : Fit f (X.signB who x) blk B j :=
  ⟨h.1, fun a ha => ⟨(h.2.1 a ha).1, by
    rw [sg_signB hX]
    split
    · rename_i e; rw [← e]; exact mem_addTo.2 (.inl (h.2.1 a ha).2)
    · exact (h.2.1 a ha).2⟩, h.2.2⟩
theorem Fit.ext (h : Fit f X blk B j) (hX : X.Ok) (he : X.Ext k Y) : Fit f Y blk B j := ⟨h.1, fun a ha => ⟨(h.2.1 a ha).1, by rw [sg_ext hX he]; exact (h.2.1 a ha).2⟩, h.2.2⟩
theorem Fit.add (h : Fit f X blk B j) {who : Int} (ok : Bool) (hok : ok = voteOk X (cfgF f) who 4 blk) : Fit f X blk (if ok = true then addTo B who else B) (j + 1) := by
  cases e : ok with
  | false => rw [if_neg (by decide)]; exact ⟨h.1, h.2.1, Nat.le_succ_of_le h.2.2⟩
  | true =>
    rw [if_pos rfl]
    rw [e] at hok
    have h1 := hok.symm
    unfold voteOk at h1
    simp only [Bool.and_eq_true, decide_eq_true_eq] at h1
    refine ⟨addTo_nodup h.1, fun a ha => ?_, Nat.le_trans (addTo_len _ _) (by have := h.2.2; omega)⟩
    rcases mem_addTo.1 ha with ha | rfl
    · exact h.2.1 a ha
    · exact ⟨h1.1.1, h1.2⟩
theorem Fit.more (h : Fit f X blk B j) : Fit f X blk B (j + 1) := ⟨h.1, h.2.1, Nat.le_succ_of_le h.2.2⟩
theorem InvT.sign (h : InvT f X V B0 B1 n j) (who : Int) (x : List UInt8) : InvT f (X.signB who x) V B0 B1 (n + 1) j :=
  ⟨signB_ok h.1 _ _, Nat.le_trans (signB_len _ _ _).1 (by have := h.2.1; omega), h.2.2.1, h.2.2.2.1, h.2.2.2.2.1.sign h.1 _ _, h.2.2.2.2.2.sign h.1 _ _⟩
theorem InvT.ext (h : InvT f X V B0 B1 n j) (he : X.Ext k Y) : InvT f Y V B0 B1 (n + k) j :=
  ⟨he.ok h.1, by have := he.len.2; have := h.2.1; omega, h.2.2.1, h.2.2.2.1, h.2.2.2.2.1.ext h.1 he, h.2.2.2.2.2.ext h.1 he⟩
theorem InvT.mono (h : InvT f X V B0 B1 n j) {n' : Nat} (hn : n ≤ n') : InvT f X V B0 B1 n' j := ⟨h.1, Nat.le_trans h.2.1 hn, h.2.2⟩
theorem voters_set (V : List ((Int × Int) × List Int)) (k k' : Int × Int) (L : List Int) : voters (aset V k L) k' = if k = k' then L else voters V k' := by
  unfold voters
  rw [alook_aset]
  split <;> rfl
theorem InvT.vote0 (h : InvT f X V B0 B1 n j) {who : Int} (ok : Bool) (hok : ok = voteOk X (cfgF f) who 4 50) : InvT f X (voteV V who 4 50 ok) (if ok = true then addTo B0 who else B0) B1 n (j + 1) := by
  refine ⟨h.1, h.2.1, ?_, ?_, h.2.2.2.2.1.add ok hok, h.2.2.2.2.2.more⟩
  · unfold voteV
    cases ok
    · exact h.2.2.1
    · rw [if_pos rfl, if_pos rfl, voters_set, if_pos rfl, h.2.2.1]
  · unfold voteV
    cases ok
    · exact h.2.2.2.1
    · rw [if_pos rfl, voters_set, if_neg (by decide)]; exact h.2.2.2.1
theorem InvT.vote1 (h : InvT f X V B0 B1 n j) {who : Int} (ok : Bool) (hok : ok = voteOk X (cfgF f) who 4 51) : InvT f X (voteV V who 4 51 ok) B0 (if ok = true then addTo B1 who else B1) n (j + 1) := by
  refine ⟨h.1, h.2.1, ?_, ?_, h.2.2.2.2.1.more, h.2.2.2.2.2.add ok hok⟩
  · unfold voteV
    cases ok
    · exact h.2.2.1
    · rw [if_pos rfl, voters_set, if_neg (by decide)]; exact h.2.2.1
  · unfold voteV
    cases ok
    · exact h.2.2.2.1
    · rw [if_pos rfl, if_pos rfl, voters_set, if_pos rfl, h.2.2.2.1]
theorem Fit.qc (h : Fit f X blk B j) (hf : 1 ≤ f ∧ f ≤ 2) (hl : 2 * f + 1 ≤ (B.length : Int)) : qcB X (cfgF f) 4 blk (rising B) = true := by
  unfold qcB
  rw [if_neg (by decide)]
  simp only [Bool.and_eq_true, List.all_eq_true, decide_eq_true_eq]
  refine ⟨?_, fun a ha => (h.2.1 a (mem_rising.1 ha)).2⟩
  unfold manyB
  rw [decide_eq_true_eq]
  refine ⟨fun i hi => ?_, by rw [rising_length]; exact hl⟩
  have hm : (rising B).getD i 0 ∈ B := by
    rw [List.getD_eq_getElem?_getD, List.getElem?_eq_getElem hi]
    exact mem_rising.1 (List.getElem_mem hi)
  unfold stepB
  rw [(h.2.1 _ hm).1, Bool.true_and]
  by_cases h0 : i = 0
  · simp [h0]
  · have h1 := List.pairwise_iff_getElem.1 (rising_lt h.1) (i - 1) i (by omega) hi (by omega)
    rw [List.getD_eq_getElem?_getD, List.getD_eq_getElem?_getD, List.getElem?_eq_getElem hi, List.getElem?_eq_getElem (show i - 1 < _ by omega)]
    simp [h1]
theorem voteOk_digest (X : WX) (f who blk : Int) (h : 0 ≤ who) : voteOk (X.digest (voteB 4 blk)) (cfgF f) who 4 blk = (decide (who < 3 * f + 1) && decide (who ∈ (X.digest (voteB 4 blk)).f (dg X.T (voteB 4 blk)))) := by
  unfold voteOk sg repB
  rw [dg_digest]
  have : (cfgF f).n = 3 * f + 1 := rfl
  simp [this, h]
end
set_option maxRecDepth 100000 in
set_option maxHeartbeats 4000000 in
theorem walk (W : World) (a0 : Int) (_ : (Lit.int .i64 a0).wf = true) (a1 : Option Addr) (len1 cap1 : Nat) (z1 : List Int) (w1 : IsRow .i64 W a1 len1 cap1 z1) :
    Calls Try.prog 6 #[.int .i64 a0, .slice a1 len1 cap1] W fun e w' => e = .returned (.bool true) ∧ Below W.heap.size W w' := by
  obtain ⟨hi0, hlen⟩ := IntsAt.of_row w1
  obtain ⟨ls, hls⟩ : ∃ ls, ls = z1.take len1 := ⟨_, rfl⟩
  rw [← hls] at hi0 hlen
  have HI0 := Lib.hid hi0
  have HLEN := Lib.hid hlen
  obtain ⟨f, hf⟩ : ∃ f : Int, f = a0 % 2 + 1 := ⟨_, rfl⟩
  have hf2 : 1 ≤ f ∧ f ≤ 2 := by omega
  have HF := Lib.hid hf2
  have hm1 := i64_and1
  have hm7 := i64_and7
  have hm3 := i64_and3
  have hwf : IntKind.i64.wrap (a0 % 2 + 1) = f := by rw [IntKind.wrap_i64]; omega
  have hw3 : IntKind.i64.wrap (3 * f) = 3 * f := by rw [IntKind.wrap_i64]; omega
  have hw31 : IntKind.i64.wrap (3 * f + 1) = 3 * f + 1 := by rw [IntKind.wrap_i64]; omega
  have hmm := @run_makeMap Try.prog
  clear hi0 hlen hls w1 hf hf2
  go_enter Try.func6, Try.ntmps6
  go_upto_region 2 with fail
  clear hwf
  obtain ⟨nc, hnc⟩ : ∃ n, n = W.heap.size := ⟨_, rfl⟩
  obtain ⟨x0, hx0⟩ : ∃ y, y = W.alloc (.cells #[.int .i64 f, .int .i64 (3 * f + 1), .int .i64 0, .int .i64 0, .int .i64 0, .int .i64 0, .int .i64 0, .int .i64 0] 49 (0, 0)) := ⟨_, rfl⟩
  have h0 := (Sys.start W).alloc (.cells #[.int .i64 f, .int .i64 (3 * f + 1), .int .i64 0, .int .i64 0, .int .i64 0, .int .i64 0, .int .i64 0, .int .i64 0] 49 (0, 0)) hnc
  rw [← hx0] at h0
  have H0 := Lib.hid h0
  have HX0 := Lib.hid hx0
  have HNC := Lib.hid hnc
  clear hnc hx0 h0
  go_upto_region 3 with fail
  rw [← HX0.out, ← HNC.out]
  go_wp2_with fail
  refine (world_new f H0.out).mono ?_
  rintro e x1 ⟨p, d, rfl, h1⟩
  obtain ⟨X0, hX0⟩ : ∃ X : WX, X = ⟨[], fun _ => [], min (max f 0) 100 + 1, []⟩ := ⟨_, rfl⟩
  rw [← hX0] at h1
  have H1 := Lib.hid (h1.putN 0 rfl)
  have hbc := H1.out.getBlk
  have HOK0 : Hid (InvT f X0 [] [] [] 0 0) := by
    show InvT f X0 [] [] [] 0 0
    subst hX0
    exact ⟨fun _ _ => rfl, Nat.le_refl _, rfl, rfl, ⟨List.nodup_nil, fun _ h => (by cases h), Nat.zero_le _⟩, ⟨List.nodup_nil, fun _ h => (by cases h), Nat.zero_le _⟩⟩
  clear h1 hX0
  go_upto_region 6 with fail
  go_wp2_with (refine wpList_load_row rfl 49 _ rfl nc rfl _ _ _ _ hbc Try.underlying49 rfl size8 ?_)
  refine (tally_new (cfgF f) H1.out).mono ?_
  rintro e x2 ⟨q, rfl, h2⟩
  clear hbc
  obtain ⟨na, hna⟩ : ∃ n, n = x2.heap.size := ⟨_, rfl⟩
  obtain ⟨x3, hx3⟩ : ∃ y, y = x2.alloc (.cells #[.map none, .map none] 76 (0, 0)) := ⟨_, rfl⟩
  have h3 := h2.alloc (.cells #[.map none, .map none] 76 (0, 0)) hna
  rw [← hx3] at h3
  obtain ⟨b0, hb0⟩ : ∃ n, n = x3.heap.size := ⟨_, rfl⟩
  obtain ⟨x4, hx4⟩ : ∃ y, y = x3.alloc (.map #[] 0) := ⟨_, rfl⟩
  have h4 := h3.push (t := mapT intKey b0 []) ((Chg.refl _ _).alloc (.map #[] 0)) (F := (· = b0)) ⟨MapOf.made _ _ hb0, rfl⟩ (fun k e => by have e : k = _ := e; omega)
  rw [← hx4] at h4
  obtain ⟨b1, hb1⟩ : ∃ n, n = x4.heap.size := ⟨_, rfl⟩
  obtain ⟨x5, hx5⟩ : ∃ y, y = x4.alloc (.map #[] 0) := ⟨_, rfl⟩
  have h5 := h4.push (t := mapT intKey b1 []) ((Chg.refl _ _).alloc (.map #[] 0)) (F := (· = b1)) ⟨MapOf.made _ _ hb1, rfl⟩ (fun k e => by have e : k = _ := e; omega)
  rw [← hx5] at h5
  have h5' := h5.front 2 rfl
  have hbz := h5'.getBlk
  have ca0 := cell_of_blk hbz 0
  have ca1 := cell_of_blk hbz 1
  simp at ca0 ca1
  have fa0 := frozen_of_blk hbz 0
  have fa1 := frozen_of_blk hbz 1
  rw [hx5, hx4] at ca0 ca1 fa0 fa1
  have h6 := h5'.setCell (i := 0) (.map (some b0))
  have h7 := h6.setCell (i := 1) (.map (some b1))
  obtain ⟨x7, hx7⟩ : ∃ y, y = (x5.setCell ⟨na, 0, none⟩ (.map (some b0))).setCell ⟨na, 1, none⟩ (.map (some b1)) := ⟨_, rfl⟩
  rw [← hx7] at h7
  have h8 : Sys x7 (upd (fun _ => emp) 0 (worldT p d X0)) (blk na (.cells #[.map (some b0), .map (some b1)] 76 (0, 0)) :: mapT intKey b1 [] :: mapT intKey b0 [] :: tallyT q p (cfgF f) [] [] :: blk nc (.cells #[.int .i64 f, .int .i64 (3 * f + 1), .int .i64 0, .int .i64 0, .int .i64 0, .int .i64 0, .int .i64 0, .int .i64 0] 49 (0, 0)) :: base W :: []) := h7
  have H9 : Hid (Sys x7 (upd (fun _ => emp) 0 (worldT p d X0)) (mapT intKey b0 (ones []) :: mapT intKey b1 (ones []) :: tallyT q p (cfgF f) [] [] :: blk na (.cells #[.map (some b0), .map (some b1)] 76 (0, 0)) :: blk nc (.cells #[.int .i64 f, .int .i64 (3 * f + 1), .int .i64 0, .int .i64 0, .int .i64 0, .int .i64 0, .int .i64 0, .int .i64 0] 49 (0, 0)) :: base W :: [])) := (h8.front 3 rfl).front 2 rfl |>.front 3 rfl
  have HA := Lib.hid hna
  have H3 := Lib.hid hx3
  have HB0 := Lib.hid hb0
  have H4 := Lib.hid hx4
  have HB1 : Hid (b1 = b0 + 1) := by show _ = _; rw [hb1, hx4, hb0]; simp
  have H5 := Lib.hid hx5
  have H7 := Lib.hid hx7
  clear h2 h3 h4 h5 h5' h6 h7 h8 hna hx3 hb0 hx4 hb1 hx5 hx7 hbz
  go_upto_region 10 with fail
  rw [← H3.out, ← HA.out]
  go_upto_region 11 with fail
  rw [← HB0.out, ← H4.out, ← H5.out, ← HB1.out, ← H7.out]
  clear ca0 ca1 fa0 fa1 hmm H3 HA HB0 H4 HB1 H5 H7 HX0 HNC H0 H1
  go_wp2_with fail
  go_loopw [9] (fun i wr => ∃ j : Nat, j ≤ len1 ∧ j ≤ 60 ∧ i = .int .i64 j ∧ ∃ X V B0 B1, Hid (InvT f X V B0 B1 (4 * j) j) ∧ Sys wr (upd (fun _ => emp) 0 (worldT p d X)) (mapT intKey b0 (ones B0) :: mapT intKey b1 (ones B1) :: tallyT q p (cfgF f) V [] :: blk na (.cells #[.map (some b0), .map (some b1)] 76 (0, 0)) :: blk nc (.cells #[.int .i64 f, .int .i64 (3 * f + 1), .int .i64 0, .int .i64 0, .int .i64 0, .int .i64 0, .int .i64 0, .int .i64 0] 49 (0, 0)) :: base W :: [])) (fun i _ => len1 - (intOf i).toNat)
  case atStart => exact ⟨0, by omega, by omega, rfl, X0, [], [], [], HOK0.out, H9.out⟩
  case round =>
    obtain ⟨j, hj, hj6, rfl, X, V, B0, B1, HI, hR⟩ := hrel
    have HR := Lib.hid hR
    by_cases hlt : j < len1
    · have hjl : (j : Int) < (len1 : Int) := by omega
      by_cases h60 : j < 60
      · have hj60 : (j : Int) < 60 := by omega
        have hwrap : IntKind.i64.wrap ((j : Int) + 1) = (j : Int) + 1 := by rw [IntKind.wrap_i64]; omega
        obtain ⟨yb, yo, rfl, hcj⟩ : ∃ b off, a1 = some ⟨b, off, none⟩ ∧ wr.cell? ⟨b, off + j, none⟩ = some (.int .i64 (ls.getD j 0)) := by
          rcases HI0.out.below (Sys.memBase (W := W) hR (by simp)) with h | ⟨b, off, e, h⟩
          · have := HLEN.out; rw [h] at this; simp at this; omega
          · exact ⟨b, off, e, h j (by rw [HLEN.out]; exact hlt)⟩
        obtain ⟨lj, hlj⟩ : ∃ x, x = ls.getD j 0 := ⟨_, rfl⟩
        rw [← hlj] at hcj
        clear hR hlj
        go_upto_region 14 with fail
        go_quiet (fail)
        have hr1 := HR.out.drewN nq
        have hcj1 : (wr.drewN nq).cell? ⟨yb, yo + j, none⟩ = some (.int .i64 lj) := by simpa using hcj
        obtain ⟨wr1, hwr1⟩ : ∃ y, y = wr.drewN nq := ⟨_, rfl⟩
        rw [← hwr1] at hr1 hcj1 ⊢
        have HR1 := Lib.hid hr1
        clear hr1 hwr1 hcj HR nq
        obtain ⟨who, hwho⟩ : ∃ x, x = lj % 8 := ⟨_, rfl⟩
        rw [← hwho]
        have HWH : Hid (0 ≤ who ∧ who < 8) := by show _ ∧ _; omega
        clear hwho
        rcases (by omega : lj / 8 % 2 = 0 ∨ lj / 8 % 2 = 1) with hk | hk
        · rw [hk]
          clear hk
          go_upto_region 16 with fail
          generalize decide (0 < lj / 16 % 4) = sb
          go_upto_if 64 with fail
          go_cut [] (fun wx => ∃ X1, Hid (InvT f X1 V B0 B1 (4 * j + 1) j) ∧ Sys wx (upd (fun _ => emp) 0 (worldT p d X1)) (mapT intKey b0 (ones B0) :: mapT intKey b1 (ones B1) :: tallyT q p (cfgF f) V [] :: blk na (.cells #[.map (some b0), .map (some b1)] 76 (0, 0)) :: blk nc (.cells #[.int .i64 f, .int .i64 (3 * f + 1), .int .i64 0, .int .i64 0, .int .i64 0, .int .i64 0, .int .i64 0, .int .i64 0] 49 (0, 0)) :: base W :: []))
          case first =>
            cases sb
            · go_wp2_with fail
              go_meet
              case rel => exact ⟨X, HI.out.mono (by omega), HR1.out⟩
            · go_wp2_with fail
              refine (world_signs HR1.out (upd_same _ _ _)).mono ?_
              rintro e wa ⟨rfl, rfl⟩
              go_wp2_with fail
              refine (cert_vote 4 50 HR1.out (upd_same _ _ _) (by have := HI.out.2.1; omega)).mono ?_
              rintro e wb ⟨rfl, hb⟩
              rw [upd_upd] at hb
              have HB := Lib.hid hb
              clear hb
              go_wp2_with fail
              refine (world_sign who (dg X.T (voteB 4 50)) (by have h := HWH.out; exact wf_mk (by omega) (by omega)) HB.out (upd_same _ _ _)).mono ?_
              rintro e wd ⟨rfl, hd⟩
              rw [upd_upd] at hd
              have HD : Hid (Sys wd (upd (fun _ => emp) 0 (worldT p d (X.signB who (voteB 4 50)))) (mapT intKey b0 (ones B0) :: mapT intKey b1 (ones B1) :: tallyT q p (cfgF f) V [] :: blk na (.cells #[.map (some b0), .map (some b1)] 76 (0, 0)) :: blk nc (.cells #[.int .i64 f, .int .i64 (3 * f + 1), .int .i64 0, .int .i64 0, .int .i64 0, .int .i64 0, .int .i64 0, .int .i64 0] 49 (0, 0)) :: base W :: [])) := hd
              clear hd HB
              go_wp2_with fail
              go_meet
              case rel => exact ⟨_, HI.out.sign who _, HD.out⟩
          case rest =>
          obtain ⟨X1, HI1, hc1⟩ := hcut
          have HR2 := Lib.hid hc1
          clear hc1 HI HR1
          go_upto_region 18 with fail
          go_cut [12] (fun s12 wx => ∃ X2, s12 = .bool (voteOk X2 (cfgF f) who 4 50) ∧ Hid (InvT f X2 V B0 B1 (4 * j + 2) j) ∧ Sys wx (upd (fun _ => emp) 0 (worldT p d X2)) (mapT intKey b0 (ones B0) :: mapT intKey b1 (ones B1) :: tallyT q p (cfgF f) V [] :: blk na (.cells #[.map (some b0), .map (some b1)] 76 (0, 0)) :: blk nc (.cells #[.int .i64 f, .int .i64 (3 * f + 1), .int .i64 0, .int .i64 0, .int .i64 0, .int .i64 0, .int .i64 0, .int .i64 0] 49 (0, 0)) :: base W :: []))
          case first =>
            go_wp2_with fail
            refine (world_signs HR2.out (upd_same _ _ _)).mono ?_
            rintro e wa ⟨rfl, rfl⟩
            go_wp2_with fail
            refine (cert_vote 4 50 HR2.out (upd_same _ _ _) (by have := HI1.out.2.1; omega)).mono ?_
            rintro e wb ⟨rfl, hb⟩
            rw [upd_upd] at hb
            have HB := Lib.hid hb
            have cn : wb.cell? ⟨nc, 1, none⟩ = some (.int .i64 (3 * f + 1)) := cell_of_blk (Sys.memBlk (n := nc) (o := .cells #[.int .i64 f, .int .i64 (3 * f + 1), .int .i64 0, .int .i64 0, .int .i64 0, .int .i64 0, .int .i64 0, .int .i64 0] 49 (0, 0)) hb (by simp)) 1
            clear hb
            go_wp2_with fail
            refine (world_has who (dg X1.T (voteB 4 50)) HB.out (upd_same _ _ _)).mono ?_
            rintro e wd ⟨rfl, rfl⟩
            have HVO := Lib.hid (voteOk_digest X1 f who 50 HWH.out.1)
            generalize decide (who ∈ (X1.digest (voteB 4 50)).f (dg X1.T (voteB 4 50))) = sh at HVO ⊢
            cases sh
            · go_wp2_with fail
              go_meet
              case rel => exact ⟨X1.digest (voteB 4 50), by rw [HVO.out, Bool.and_false], HI1.out.ext (X1.ext_digest _), HB.out⟩
            · go_wp2_with fail
              go_meet
              case rel => exact ⟨X1.digest (voteB 4 50), by rw [HVO.out, Bool.and_true], HI1.out.ext (X1.ext_digest _), HB.out⟩
          case rest =>
          obtain ⟨X2, hs12, HI2, hc2⟩ := hcut
          subst hs12
          have HR3 := Lib.hid hc2
          clear hc2 HI1 HR2
          obtain ⟨ok, hok⟩ : ∃ b, b = voteOk X2 (cfgF f) who 4 50 := ⟨_, rfl⟩
          rw [← hok]
          have HOKV := Lib.hid hok
          clear hok
          go_upto_if 87 with fail
          go_cut [] (fun wx => Sys wx (upd (fun _ => emp) 0 (worldT p d X2)) (mapT intKey b0 (ones (if ok = true then addTo B0 who else B0)) :: mapT intKey b1 (ones B1) :: tallyT q p (cfgF f) V [] :: blk na (.cells #[.map (some b0), .map (some b1)] 76 (0, 0)) :: blk nc (.cells #[.int .i64 f, .int .i64 (3 * f + 1), .int .i64 0, .int .i64 0, .int .i64 0, .int .i64 0, .int .i64 0, .int .i64 0] 49 (0, 0)) :: base W :: []))
          case first =>
            cases ok
            · go_wp2_with fail
              go_meet
              case rel => first | (rw [if_neg (by decide)]; exact HR3.out) | (rw [if_neg not_false]; exact HR3.out)
            · have hca : wc.cell? ⟨na, 0, none⟩ = some (.map (some b0)) := cell_of_blk (Sys.memBlk (n := na) (o := .cells #[.map (some b0), .map (some b1)] 76 (0, 0)) HR3.out (by simp)) 0
              have hfr := HR3.out
              obtain ⟨wu, hu, hmu, hcu, -⟩ := hfr.getMap.update (P := Try.prog) Try.underlying75 Try.underlying3 who (.int .i64 1)
              rw [show aset (ones B0) who (.int .i64 1) = ones (addTo B0 who) from aset_ones B0 who] at hmu
              simp only [intKey] at hu
              have HU := Lib.hid (hfr.mapTo hmu hcu)
              clear hfr hmu hcu
              go_wp2_with fail
              go_meet
              case rel => first | (rw [if_pos rfl]; exact HU.out) | (rw [if_pos trivial]; exact HU.out)
          case rest =>
          have HR4 := Lib.hid hcut
          clear hcut HR3
          obtain ⟨BN, hBN⟩ : ∃ B, B = if ok = true then addTo B0 who else B0 := ⟨_, rfl⟩
          rw [← hBN] at HR4
          have HBN := Lib.hid hBN
          clear hBN
          go_upto_region 21 with fail
          go_wp2_with fail
          refine (tally_vote (cfgF f) (cfgF_good HF.out) who 4 50 (HR4.out.front 2 rfl) (upd_same _ _ _) (by have := HI2.out.2.1; omega) (by have h := HI2.out.2.2.2.2.1.2.2; rw [HI2.out.2.2.1]; omega)).mono ?_
          rintro e wv ⟨v, L, yes, hy, hL, he, X3, hE, hv⟩
          rw [← HOKV.out, upd_upd] at hv
          obtain ⟨va, vk, vc, hvs, hvk⟩ := hv.getOwn.slice
          have hvk' := hvk.out
          subst hvk'
          subst hvs
          subst he
          have HI3 : Hid (InvT f X3 (voteV V who 4 50 ok) BN B1 (4 * j + 3) (j + 1)) := by
            show InvT _ _ _ _ _ _ _
            have h := (HI2.out.vote0 ok HOKV.out).ext hE
            rw [← HBN.out] at h
            exact h.mono (by omega)
          have HV5 : Hid (Sys wv (upd (fun _ => emp) 0 (worldT p d X3)) (own 3 1 (.slice va L.length vc) L.length (L.map (Value.int .i64)) :: tallyT q p (cfgF f) (voteV V who 4 50 ok) [] :: mapT intKey b0 (ones BN) :: mapT intKey b1 (ones B1) :: blk na (.cells #[.map (some b0), .map (some b1)] 76 (0, 0)) :: blk nc (.cells #[.int .i64 f, .int .i64 (3 * f + 1), .int .i64 0, .int .i64 0, .int .i64 0, .int .i64 0, .int .i64 0, .int .i64 0] 49 (0, 0)) :: base W :: [])) := hv
          have hyy : yes = (ok && decide (2 * f + 1 ≤ ((addTo B0 who).length : Int))) := by
            rw [hy]; unfold voteYes; rw [← HOKV.out, HI2.out.2.2.1]; rfl
          have hLL : L = if yes = true then rising (addTo B0 who) else [] := by rw [hL, HI2.out.2.2.1]
          clear hv hy hL hE hvk
          obtain ⟨vw, hvw⟩ : ∃ x : Int, x = if yes = true then 4 else 0 := ⟨_, rfl⟩
          obtain ⟨vb, hvb⟩ : ∃ x : Int, x = if yes = true then 50 else 0 := ⟨_, rfl⟩
          rw [← hvw, ← hvb]
          obtain ⟨nq, hnq⟩ : ∃ n, n = wv.heap.size := ⟨_, rfl⟩
          obtain ⟨wq, hwq⟩ : ∃ y, y = wv.alloc (.cells #[.int .i64 vw, .int .i64 vb, .slice va L.length vc] 28 (0, 0)) := ⟨_, rfl⟩
          have h5 := HV5.out.alloc (.cells #[.int .i64 vw, .int .i64 vb, .slice va L.length vc] 28 (0, 0)) hnq
          rw [← hwq] at h5
          have H5 := Lib.hid h5.drew
          have HWQ := Lib.hid hwq
          have HNQ := Lib.hid hnq
          have HYY := Lib.hid hyy
          have HLL := Lib.hid hLL
          have HVW := Lib.hid hvw
          have HVB := Lib.hid hvb
          clear h5 hwq hnq hyy hLL hvw hvb HV5 HR4 HOKV
          have hw2f : IntKind.i64.wrap (2 * f) = 2 * f := by have h := HF.out; rw [IntKind.wrap_i64]; omega
          have hw2f1 : IntKind.i64.wrap (2 * f + 1) = 2 * f + 1 := by have h := HF.out; rw [IntKind.wrap_i64]; omega
          go_upto_region 22 with fail
          rw [← HWQ.out, ← HNQ.out]
          have hS1 : ∃ m', Sys wq.drew m' (blk nq (.cells #[.int .i64 vw, .int .i64 vb, .slice va L.length vc] 28 (0, 0)) :: own 3 1 (.slice va L.length vc) L.length (L.map (Value.int .i64)) :: tallyT q p (cfgF f) (voteV V who 4 50 ok) [] :: mapT intKey b0 (ones BN) :: mapT intKey b1 (ones B1) :: blk na (.cells #[.map (some b0), .map (some b1)] 76 (0, 0)) :: blk nc (.cells #[.int .i64 f, .int .i64 (3 * f + 1), .int .i64 0, .int .i64 0, .int .i64 0, .int .i64 0, .int .i64 0, .int .i64 0] 49 (0, 0)) :: base W :: []) := ⟨_, H5.out⟩
          cases ok
          · have hyf : yes = false := by rw [HYY.out]; rfl
            subst hyf
            refine wp_region_stage (fun x : World => ∃ m', Sys x m' (blk nq (.cells #[.int .i64 vw, .int .i64 vb, .slice va L.length vc] 28 (0, 0)) :: own 3 1 (.slice va L.length vc) L.length (L.map (Value.int .i64)) :: tallyT q p (cfgF f) (voteV V who 4 50 false) [] :: mapT intKey b0 (ones BN) :: mapT intKey b1 (ones B1) :: blk na (.cells #[.map (some b0), .map (some b1)] 76 (0, 0)) :: blk nc (.cells #[.int .i64 f, .int .i64 (3 * f + 1), .int .i64 0, .int .i64 0, .int .i64 0, .int .i64 0, .int .i64 0, .int .i64 0] 49 (0, 0)) :: base W :: [])) [] (by kernel_rfl) ?_
            refine takeW 0 (some 100) (v := ?_) rfl (by rfl) (by kernel_rfl) (by kernel_rfl) (by kernel_rfl) (fun _ _ _ h => h) (by kernel_rfl) (by kernel_rfl) ?_ (Stage.still (by assumption)) ?_
            rotate_left
            · (intro w; go_simp; try (with_reducible rfl))
            try simp only [Act.put, List.setIfInBounds_toArray, List.set_cons_zero, List.set_cons_succ]
            refine takeW 1 (some 101) (v := ?_) rfl (by rfl) (by kernel_rfl) (by kernel_rfl) (by kernel_rfl) (fun _ _ _ h => h) (by kernel_rfl) (by kernel_rfl) ?_ (Stage.still (by assumption)) ?_
            rotate_left
            · (intro w; go_simp; try (with_reducible rfl))
            try simp only [Act.put, List.setIfInBounds_toArray, List.set_cons_zero, List.set_cons_succ]
            refine takeW 2 (some 102) (v := ?_) rfl (by rfl) (by kernel_rfl) (by kernel_rfl) (by kernel_rfl) (fun _ _ _ h => h) (by kernel_rfl) (by kernel_rfl) ?_ (Stage.still (by assumption)) ?_
            rotate_left
            · (intro w; go_simp; try (with_reducible rfl))
            try simp only [Act.put, List.setIfInBounds_toArray, List.set_cons_zero, List.set_cons_succ]
            refine skipT 3 (some 103) (by kernel_rfl) (by kernel_rfl) (by kernel_rfl) (by kernel_rfl) (fun _ _ _ h => h) (by kernel_rfl) (Stage.still (by assumption)) ?_
            try simp only [Act.put, List.setIfInBounds_toArray, List.set_cons_zero, List.set_cons_succ]
            refine skipT 4 (some 104) (by kernel_rfl) (by kernel_rfl) (by kernel_rfl) (by kernel_rfl) (fun _ _ _ h => h) (by kernel_rfl) (Stage.still (by assumption)) ?_
            try simp only [Act.put, List.setIfInBounds_toArray, List.set_cons_zero, List.set_cons_succ]
            refine skipT 5 (some 105) (by kernel_rfl) (by kernel_rfl) (by kernel_rfl) (by kernel_rfl) (fun _ _ _ h => h) (by kernel_rfl) (Stage.still (by assumption)) ?_
            try simp only [Act.put, List.setIfInBounds_toArray, List.set_cons_zero, List.set_cons_succ]
            refine skipT 6 (some 106) (by kernel_rfl) (by kernel_rfl) (by kernel_rfl) (by kernel_rfl) (fun _ _ _ h => h) (by kernel_rfl) (Stage.still (by assumption)) ?_
            try simp only [Act.put, List.setIfInBounds_toArray, List.set_cons_zero, List.set_cons_succ]
            refine skipT 7 (some 107) (by kernel_rfl) (by kernel_rfl) (by kernel_rfl) (by kernel_rfl) (fun _ _ _ h => h) (by kernel_rfl) (Stage.still (by assumption)) ?_
            try simp only [Act.put, List.setIfInBounds_toArray, List.set_cons_zero, List.set_cons_succ]
            refine skipT 8 (some 108) (by kernel_rfl) (by kernel_rfl) (by kernel_rfl) (by kernel_rfl) (fun _ _ _ h => h) (by kernel_rfl) (Stage.still (by assumption)) ?_
            try simp only [Act.put, List.setIfInBounds_toArray, List.set_cons_zero, List.set_cons_succ]
            refine skipT 9 (some 109) (by kernel_rfl) (by kernel_rfl) (by kernel_rfl) (by kernel_rfl) (fun _ _ _ h => h) (by kernel_rfl) (Stage.still (by assumption)) ?_
            try simp only [Act.put, List.setIfInBounds_toArray, List.set_cons_zero, List.set_cons_succ]
            refine skipT 10 (some 110) (by kernel_rfl) (by kernel_rfl) (by kernel_rfl) (by kernel_rfl) (fun _ _ _ h => h) (by kernel_rfl) (Stage.still (by assumption)) ?_
            try simp only [Act.put, List.setIfInBounds_toArray, List.set_cons_zero, List.set_cons_succ]
            refine takeW 11 (some 111) (v := ?_) rfl (by rfl) (by kernel_rfl) (by kernel_rfl) (by kernel_rfl) (fun _ _ _ h => h) (by kernel_rfl) (by kernel_rfl) ?_ (Stage.still (by assumption)) ?_
            rotate_left
            · (intro w; go_simp; try (with_reducible rfl))
            try simp only [Act.put, List.setIfInBounds_toArray, List.set_cons_zero, List.set_cons_succ]
            refine takeW 12 (some 112) (v := ?_) rfl (by rfl) (by kernel_rfl) (by kernel_rfl) (by kernel_rfl) (fun _ _ _ h => h) (by kernel_rfl) (by kernel_rfl) ?_ (Stage.still (by assumption)) ?_
            rotate_left
            · (intro w; go_simp; try (with_reducible rfl))
            try simp only [Act.put, List.setIfInBounds_toArray, List.set_cons_zero, List.set_cons_succ]
            refine takeW 13 (some 113) (v := ?_) rfl (by rfl) (by kernel_rfl) (by kernel_rfl) (by kernel_rfl) (fun _ _ _ h => h) (by kernel_rfl) (by kernel_rfl) ?_ (Stage.still (by assumption)) ?_
            rotate_left
            · (intro w; go_simp; try (with_reducible rfl))
            try simp only [Act.put, List.setIfInBounds_toArray, List.set_cons_zero, List.set_cons_succ]
            refine takeW 14 (some 114) (v := ?_) rfl (by rfl) (by kernel_rfl) (by kernel_rfl) (by kernel_rfl) (fun _ _ _ h => h) (by kernel_rfl) (by kernel_rfl) ?_ (Stage.still (by assumption)) ?_
            rotate_left
            · (intro w; go_simp; try (with_reducible rfl))
            try simp only [Act.put, List.setIfInBounds_toArray, List.set_cons_zero, List.set_cons_succ]
            refine takeW 15 (some 115) (v := ?_) rfl (by rfl) (by kernel_rfl) (by kernel_rfl) (by kernel_rfl) (fun _ _ _ h => h) (by kernel_rfl) (by kernel_rfl) ?_ (Stage.still (by assumption)) ?_
            rotate_left
            · (intro w; go_simp; try (with_reducible rfl))
            try simp only [Act.put, List.setIfInBounds_toArray, List.set_cons_zero, List.set_cons_succ]
            refine skipT 16 (some 116) (by kernel_rfl) (by kernel_rfl) (by kernel_rfl) (by kernel_rfl) (fun _ _ _ h => h) (by kernel_rfl) (Stage.still (by assumption)) ?_
            try simp only [Act.put, List.setIfInBounds_toArray, List.set_cons_zero, List.set_cons_succ]
            refine skipT 17 (some 117) (by kernel_rfl) (by kernel_rfl) (by kernel_rfl) (by kernel_rfl) (fun _ _ _ h => h) (by kernel_rfl) (Stage.still (by assumption)) ?_
            try simp only [Act.put, List.setIfInBounds_toArray, List.set_cons_zero, List.set_cons_succ]
            refine skipT 18 (some 118) (by kernel_rfl) (by kernel_rfl) (by kernel_rfl) (by kernel_rfl) (fun _ _ _ h => h) (by kernel_rfl) (Stage.still (by assumption)) ?_
            try simp only [Act.put, List.setIfInBounds_toArray, List.set_cons_zero, List.set_cons_succ]
            refine skipT 19 (some 119) (by kernel_rfl) (by kernel_rfl) (by kernel_rfl) (by kernel_rfl) (fun _ _ _ h => h) (by kernel_rfl) (Stage.still (by assumption)) ?_
            try simp only [Act.put, List.setIfInBounds_toArray, List.set_cons_zero, List.set_cons_succ]
            refine skipT 20 (some 120) (by kernel_rfl) (by kernel_rfl) (by kernel_rfl) (by kernel_rfl) (fun _ _ _ h => h) (by kernel_rfl) (Stage.still (by assumption)) ?_
            try simp only [Act.put, List.setIfInBounds_toArray, List.set_cons_zero, List.set_cons_succ]
            refine skipT 21 (some 121) (by kernel_rfl) (by kernel_rfl) (by kernel_rfl) (by kernel_rfl) (fun _ _ _ h => h) (by kernel_rfl) (Stage.still (by assumption)) ?_
            try simp only [Act.put, List.setIfInBounds_toArray, List.set_cons_zero, List.set_cons_succ]
            refine skipT 22 (some 122) (by kernel_rfl) (by kernel_rfl) (by kernel_rfl) (by kernel_rfl) (fun _ _ _ h => h) (by kernel_rfl) (Stage.still (by assumption)) ?_
            try simp only [Act.put, List.setIfInBounds_toArray, List.set_cons_zero, List.set_cons_succ]
            refine skipT 23 (some 123) (by kernel_rfl) (by kernel_rfl) (by kernel_rfl) (by kernel_rfl) (fun _ _ _ h => h) (by kernel_rfl) (Stage.still (by assumption)) ?_
            try simp only [Act.put, List.setIfInBounds_toArray, List.set_cons_zero, List.set_cons_succ]
            refine skipT 24 (some 124) (by kernel_rfl) (by kernel_rfl) (by kernel_rfl) (by kernel_rfl) (fun _ _ _ h => h) (by kernel_rfl) (Stage.still (by assumption)) ?_
            try simp only [Act.put, List.setIfInBounds_toArray, List.set_cons_zero, List.set_cons_succ]
            refine skipT 25 (some 125) (by kernel_rfl) (by kernel_rfl) (by kernel_rfl) (by kernel_rfl) (fun _ _ _ h => h) (by kernel_rfl) (Stage.still (by assumption)) ?_
            try simp only [Act.put, List.setIfInBounds_toArray, List.set_cons_zero, List.set_cons_succ]
            refine skipT 26 (some 126) (by kernel_rfl) (by kernel_rfl) (by kernel_rfl) (by kernel_rfl) (fun _ _ _ h => h) (by kernel_rfl) (Stage.still (by assumption)) ?_
            try simp only [Act.put, List.setIfInBounds_toArray, List.set_cons_zero, List.set_cons_succ]
            refine skipT 27 (some 127) (by kernel_rfl) (by kernel_rfl) (by kernel_rfl) (by kernel_rfl) (fun _ _ _ h => h) (by kernel_rfl) (Stage.still (by assumption)) ?_
            try simp only [Act.put, List.setIfInBounds_toArray, List.set_cons_zero, List.set_cons_succ]
            refine skipT 28 (some 128) (by kernel_rfl) (by kernel_rfl) (by kernel_rfl) (by kernel_rfl) (fun _ _ _ h => h) (by kernel_rfl) (Stage.still (by assumption)) ?_
            try simp only [Act.put, List.setIfInBounds_toArray, List.set_cons_zero, List.set_cons_succ]
            refine skipT 29 (some 129) (by kernel_rfl) (by kernel_rfl) (by kernel_rfl) (by kernel_rfl) (fun _ _ _ h => h) (by kernel_rfl) (Stage.still (by assumption)) ?_
            try simp only [Act.put, List.setIfInBounds_toArray, List.set_cons_zero, List.set_cons_succ]
            refine skipT 30 (some 130) (by kernel_rfl) (by kernel_rfl) (by kernel_rfl) (by kernel_rfl) (fun _ _ _ h => h) (by kernel_rfl) (Stage.still (by assumption)) ?_
            try simp only [Act.put, List.setIfInBounds_toArray, List.set_cons_zero, List.set_cons_succ]
            refine takeW 31 (some 131) (v := ?_) rfl (by rfl) (by kernel_rfl) (by kernel_rfl) (by kernel_rfl) (fun _ _ _ h => h) (by kernel_rfl) (by kernel_rfl) ?_ (Stage.still (by assumption)) ?_
            rotate_left
            · (intro w; go_simp; try (with_reducible rfl))
            try simp only [Act.put, List.setIfInBounds_toArray, List.set_cons_zero, List.set_cons_succ]
            refine takeW 32 (some 132) (v := ?_) rfl (by rfl) (by kernel_rfl) (by kernel_rfl) (by kernel_rfl) (fun _ _ _ h => h) (by kernel_rfl) (by kernel_rfl) ?_ (Stage.still (by assumption)) ?_
            rotate_left
            · (intro w; go_simp; try (with_reducible rfl))
            try simp only [Act.put, List.setIfInBounds_toArray, List.set_cons_zero, List.set_cons_succ]
            refine doneT (by kernel_rfl) ?_ _
            go_wp2_with fail
            go_roundw
            case rel => exact ⟨j + 1, by omega, by omega, by go_num, X3, voteV V who 4 50 false, BN, B1, HI3.out.mono (by omega), ((H5.out.tail.tail.front 2 rfl).front 2 rfl)⟩
            case measure => simp [intOf]; omega
          · have hbn : BN = addTo B0 who := by rw [HBN.out]; rfl
            by_cases hq : 2 * f + 1 ≤ ((addTo B0 who).length : Int)
            · have hyf : yes = true := by rw [HYY.out]; simp [hq]
              subst hyf
              have hd : decide (2 * f + 1 ≤ (BN.length : Int)) = true := by rw [hbn]; simpa using hq
              have hLB : L = rising BN := by rw [HLL.out, if_pos rfl, hbn]
              have hLn : L.length = BN.length := by rw [hLB, rising_length]
              have hne : ((L.length : Int) != (BN.length : Int)) = false := by rw [hLn]; simp
              have HQC : Hid (qcB X3 (cfgF f) 4 50 L = true) := by
                show _ = _
                rw [hLB]
                exact HI3.out.2.2.2.2.1.qc HF.out (by rw [hbn]; exact hq)
              have HLN : Hid (L.length ≤ 20000000) := by
                show _ ≤ _
                have h := HI3.out.2.2.2.2.1.2.2
                omega
              have hvw : vw = 4 := by rw [HVW.out]; rfl
              have hvb : vb = 50 := by rw [HVB.out]; rfl
              subst hvw hvb
              clear hLB hLn hq hbn
              refine wp_region_stage (fun x : World => ∃ m', Sys x m' (blk nq (.cells #[.int .i64 4, .int .i64 50, .slice va L.length vc] 28 (0, 0)) :: own 3 1 (.slice va L.length vc) L.length (L.map (Value.int .i64)) :: tallyT q p (cfgF f) (voteV V who 4 50 true) [] :: mapT intKey b0 (ones BN) :: mapT intKey b1 (ones B1) :: blk na (.cells #[.map (some b0), .map (some b1)] 76 (0, 0)) :: blk nc (.cells #[.int .i64 f, .int .i64 (3 * f + 1), .int .i64 0, .int .i64 0, .int .i64 0, .int .i64 0, .int .i64 0, .int .i64 0] 49 (0, 0)) :: base W :: [])) [] (by kernel_rfl) ?_
              refine takeW 0 (some 100) (v := ?_) rfl (by rfl) (by kernel_rfl) (by kernel_rfl) (by kernel_rfl) (fun _ _ _ h => h) (by kernel_rfl) (by kernel_rfl) ?_ (Stage.still (by assumption)) ?_
              rotate_left
              · (intro w; go_simp; try (with_reducible rfl))
              try simp only [Act.put, List.setIfInBounds_toArray, List.set_cons_zero, List.set_cons_succ]
              refine takeW 1 (some 101) (v := ?_) rfl (by rfl) (by kernel_rfl) (by kernel_rfl) (by kernel_rfl) (fun _ _ _ h => h) (by kernel_rfl) (by kernel_rfl) ?_ (Stage.still (by assumption)) ?_
              rotate_left
              · (intro w; go_simp; try (with_reducible rfl))
              try simp only [Act.put, List.setIfInBounds_toArray, List.set_cons_zero, List.set_cons_succ]
              refine takeW 2 (some 102) (v := ?_) rfl (by rfl) (by kernel_rfl) (by kernel_rfl) (by kernel_rfl) (fun _ _ _ h => h) (by kernel_rfl) (by kernel_rfl) ?_ (Stage.still (by assumption)) ?_
              rotate_left
              · (intro w; go_simp; try (with_reducible rfl))
              try simp only [Act.put, List.setIfInBounds_toArray, List.set_cons_zero, List.set_cons_succ]
              refine takeW 3 (some 103) (v := ?_) rfl (by rfl) (by kernel_rfl) (by kernel_rfl) (by kernel_rfl) (fun _ _ _ h => h) (by kernel_rfl) (by kernel_rfl) ?_ (Stage.still (by assumption)) ?_
              rotate_left
              · (intro w; go_simp; try (with_reducible rfl))
              try simp only [Act.put, List.setIfInBounds_toArray, List.set_cons_zero, List.set_cons_succ]
              refine takeW 4 (some 104) (v := ?_) rfl (by rfl) (by kernel_rfl) (by kernel_rfl) (by kernel_rfl) (fun _ _ _ h => h) (by kernel_rfl) (by kernel_rfl) ?_ (Stage.still (by assumption)) ?_
              rotate_left
              · (intro w; go_simp; try (with_reducible rfl))
              try simp only [Act.put, List.setIfInBounds_toArray, List.set_cons_zero, List.set_cons_succ]
              refine takeS 5 (some 105) (v := ?_) rfl (by rfl) (by kernel_rfl) (by kernel_rfl) (by kernel_rfl) (fun _ _ _ h => h) (by kernel_rfl) (by kernel_rfl) (by kernel_rfl) ?_ (by assumption) ?_
              rotate_left
              · (intro w hSw; obtain ⟨m', hSw⟩ := hSw; have c : w.cell? ⟨na, 0, none⟩ = some (.map (some b0)) := cell_of_blk (Sys.memBlk (n := na) (o := .cells #[.map (some b0), .map (some b1)] 76 (0, 0)) hSw (by simp)) 0; clear hSw; go_simp; try (with_reducible rfl))
              try simp only [Act.put, List.setIfInBounds_toArray, List.set_cons_zero, List.set_cons_succ]
              refine takeS 6 (some 106) (v := ?_) rfl (by rfl) (by kernel_rfl) (by kernel_rfl) (by kernel_rfl) (fun _ _ _ h => h) (by kernel_rfl) (by kernel_rfl) (by kernel_rfl) ?_ (by assumption) ?_
              rotate_left
              · (intro w hSw; obtain ⟨m', hSw⟩ := hSw; have e := (Sys.memMap (K := intKey) (b := b0) (x := ones BN) hSw (by simp)).len (P := Try.prog) (ty := 3) Try.underlying75; rw [show (ones BN).length = BN.length by simp [ones]] at e; clear hSw; go_simp; try (with_reducible rfl))
              try simp only [Act.put, List.setIfInBounds_toArray, List.set_cons_zero, List.set_cons_succ]
              refine takeW 7 (some 107) (v := ?_) rfl (by rfl) (by kernel_rfl) (by kernel_rfl) (by kernel_rfl) (fun _ _ _ h => h) (by kernel_rfl) (by kernel_rfl) ?_ (Stage.still (by assumption)) ?_
              rotate_left
              · (intro w; go_simp; try (with_reducible rfl))
              try simp only [Act.put, List.setIfInBounds_toArray, List.set_cons_zero, List.set_cons_succ]
              refine takeW 8 (some 108) (v := ?_) rfl (by rfl) (by kernel_rfl) (by kernel_rfl) (by kernel_rfl) (fun _ _ _ h => h) (by kernel_rfl) (by kernel_rfl) ?_ (Stage.still (by assumption)) ?_
              rotate_left
              · (intro w; go_simp; try (with_reducible rfl))
              try simp only [Act.put, List.setIfInBounds_toArray, List.set_cons_zero, List.set_cons_succ]
              refine takeW 9 (some 109) (v := ?_) rfl (by rfl) (by kernel_rfl) (by kernel_rfl) (by kernel_rfl) (fun _ _ _ h => h) (by kernel_rfl) (by kernel_rfl) ?_ (Stage.still (by assumption)) ?_
              rotate_left
              · (intro w; go_simp; try (with_reducible rfl))
              try simp only [Act.put, List.setIfInBounds_toArray, List.set_cons_zero, List.set_cons_succ]
              refine takeW 10 (some 110) (v := ?_) rfl (by rfl) (by kernel_rfl) (by kernel_rfl) (by kernel_rfl) (fun _ _ _ h => h) (by kernel_rfl) (by kernel_rfl) ?_ (Stage.still (by assumption)) ?_
              rotate_left
              · (intro w; go_simp; try (with_reducible rfl))
              try simp only [Act.put, List.setIfInBounds_toArray, List.set_cons_zero, List.set_cons_succ]
              refine takeW 11 (some 111) (v := ?_) rfl (by rfl) (by kernel_rfl) (by kernel_rfl) (by kernel_rfl) (fun _ _ _ h => h) (by kernel_rfl) (by kernel_rfl) ?_ (Stage.still (by assumption)) ?_
              rotate_left
              · (intro w; go_simp; try (with_reducible rfl))
              try simp only [Act.put, List.setIfInBounds_toArray, List.set_cons_zero, List.set_cons_succ]
              refine takeW 12 (some 112) (v := ?_) rfl (by rfl) (by kernel_rfl) (by kernel_rfl) (by kernel_rfl) (fun _ _ _ h => h) (by kernel_rfl) (by kernel_rfl) ?_ (Stage.still (by assumption)) ?_
              rotate_left
              · (intro w; go_simp; try (with_reducible rfl))
              try simp only [Act.put, List.setIfInBounds_toArray, List.set_cons_zero, List.set_cons_succ]
              refine takeW 13 (some 113) (v := ?_) rfl (by rfl) (by kernel_rfl) (by kernel_rfl) (by kernel_rfl) (fun _ _ _ h => h) (by kernel_rfl) (by kernel_rfl) ?_ (Stage.still (by assumption)) ?_
              rotate_left
              · (intro w; go_simp; try (with_reducible rfl))
              try simp only [Act.put, List.setIfInBounds_toArray, List.set_cons_zero, List.set_cons_succ]
              refine takeW 14 (some 114) (v := ?_) rfl (by rfl) (by kernel_rfl) (by kernel_rfl) (by kernel_rfl) (fun _ _ _ h => h) (by kernel_rfl) (by kernel_rfl) ?_ (Stage.still (by assumption)) ?_
              rotate_left
              · (intro w; go_simp; try (with_reducible rfl))
              try simp only [Act.put, List.setIfInBounds_toArray, List.set_cons_zero, List.set_cons_succ]
              refine takeW 15 (some 115) (v := ?_) rfl (by rfl) (by kernel_rfl) (by kernel_rfl) (by kernel_rfl) (fun _ _ _ h => h) (by kernel_rfl) (by kernel_rfl) ?_ (Stage.still (by assumption)) ?_
              rotate_left
              · (intro w; go_simp; try (with_reducible rfl))
              try simp only [Act.put, List.setIfInBounds_toArray, List.set_cons_zero, List.set_cons_succ]
              refine takeW 16 (some 116) (v := ?_) rfl (by rfl) (by kernel_rfl) (by kernel_rfl) (by kernel_rfl) (fun _ _ _ h => h) (by kernel_rfl) (by kernel_rfl) ?_ (Stage.still (by assumption)) ?_
              rotate_left
              · (intro w; go_simp; try (with_reducible rfl))
              try simp only [Act.put, List.setIfInBounds_toArray, List.set_cons_zero, List.set_cons_succ]
              refine takeS 17 (some 117) (v := ?_) rfl (by rfl) (by kernel_rfl) (by kernel_rfl) (by kernel_rfl) (fun _ _ _ h => h) (by kernel_rfl) (by kernel_rfl) (by kernel_rfl) ?_ (by assumption) ?_
              rotate_left
              · (intro w hSw; obtain ⟨m', hSw⟩ := hSw; have c : w.cell? ⟨nq, 2, none⟩ = some (.slice va L.length vc) := cell_of_blk (Sys.memBlk (n := nq) (o := .cells #[.int .i64 4, .int .i64 50, .slice va L.length vc] 28 (0, 0)) hSw (by simp)) 2; clear hSw; go_simp; try (with_reducible rfl))
              try simp only [Act.put, List.setIfInBounds_toArray, List.set_cons_zero, List.set_cons_succ]
              refine takeW 18 (some 118) (v := ?_) rfl (by rfl) (by kernel_rfl) (by kernel_rfl) (by kernel_rfl) (fun _ _ _ h => h) (by kernel_rfl) (by kernel_rfl) ?_ (Stage.still (by assumption)) ?_
              rotate_left
              · (intro w; go_simp; try (with_reducible rfl))
              try simp only [Act.put, List.setIfInBounds_toArray, List.set_cons_zero, List.set_cons_succ]
              refine takeW 19 (some 119) (v := ?_) rfl (by rfl) (by kernel_rfl) (by kernel_rfl) (by kernel_rfl) (fun _ _ _ h => h) (by kernel_rfl) (by kernel_rfl) ?_ (Stage.still (by assumption)) ?_
              rotate_left
              · (intro w; go_simp; try (with_reducible rfl))
              try simp only [Act.put, List.setIfInBounds_toArray, List.set_cons_zero, List.set_cons_succ]
              refine takeW 20 (some 120) (v := ?_) rfl (by rfl) (by kernel_rfl) (by kernel_rfl) (by kernel_rfl) (fun _ _ _ h => h) (by kernel_rfl) (by kernel_rfl) ?_ (Stage.still (by assumption)) ?_
              rotate_left
              · (intro w; go_simp; try (with_reducible rfl))
              try simp only [Act.put, List.setIfInBounds_toArray, List.set_cons_zero, List.set_cons_succ]
              refine takeS 21 (some 121) (v := ?_) rfl (by rfl) (by kernel_rfl) (by kernel_rfl) (by kernel_rfl) (fun _ _ _ h => h) (by kernel_rfl) (by kernel_rfl) (by kernel_rfl) ?_ (by assumption) ?_
              rotate_left
              · (intro w hSw; obtain ⟨m', hSw⟩ := hSw; have c : w.cell? ⟨na, 0, none⟩ = some (.map (some b0)) := cell_of_blk (Sys.memBlk (n := na) (o := .cells #[.map (some b0), .map (some b1)] 76 (0, 0)) hSw (by simp)) 0; clear hSw; go_simp; try (with_reducible rfl))
              try simp only [Act.put, List.setIfInBounds_toArray, List.set_cons_zero, List.set_cons_succ]
              refine takeS 22 (some 122) (v := ?_) rfl (by rfl) (by kernel_rfl) (by kernel_rfl) (by kernel_rfl) (fun _ _ _ h => h) (by kernel_rfl) (by kernel_rfl) (by kernel_rfl) ?_ (by assumption) ?_
              rotate_left
              · (intro w hSw; obtain ⟨m', hSw⟩ := hSw; have e := (Sys.memMap (K := intKey) (b := b0) (x := ones BN) hSw (by simp)).len (P := Try.prog) (ty := 3) Try.underlying75; rw [show (ones BN).length = BN.length by simp [ones]] at e; clear hSw; go_simp; try (with_reducible rfl))
              try simp only [Act.put, List.setIfInBounds_toArray, List.set_cons_zero, List.set_cons_succ]
              refine takeW 23 (some 123) (v := ?_) rfl (by rfl) (by kernel_rfl) (by kernel_rfl) (by kernel_rfl) (fun _ _ _ h => h) (by kernel_rfl) (by kernel_rfl) ?_ (Stage.still (by assumption)) ?_
              rotate_left
              · (intro w; go_simp; try (with_reducible rfl))
              try simp only [Act.put, List.setIfInBounds_toArray, List.set_cons_zero, List.set_cons_succ]
              refine takeW 24 (some 124) (v := ?_) rfl (by rfl) (by kernel_rfl) (by kernel_rfl) (by kernel_rfl) (fun _ _ _ h => h) (by kernel_rfl) (by kernel_rfl) ?_ (Stage.still (by assumption)) ?_
              rotate_left
              · (intro w; go_simp; try (with_reducible rfl))
              try simp only [Act.put, List.setIfInBounds_toArray, List.set_cons_zero, List.set_cons_succ]
              refine takeW 25 (some 125) (v := ?_) rfl (by rfl) (by kernel_rfl) (by kernel_rfl) (by kernel_rfl) (fun _ _ _ h => h) (by kernel_rfl) (by kernel_rfl) ?_ (Stage.still (by assumption)) ?_
              rotate_left
              · (intro w; go_simp; try (with_reducible rfl))
              try simp only [Act.put, List.setIfInBounds_toArray, List.set_cons_zero, List.set_cons_succ]
              refine takeS 26 (some 126) (v := ?_) rfl (by rfl) (by kernel_rfl) (by kernel_rfl) (by kernel_rfl) (fun _ _ _ h => h) (by kernel_rfl) (by kernel_rfl) (by kernel_rfl) ?_ (by assumption) ?_
              rotate_left
              · (intro w hSw; obtain ⟨m', hSw⟩ := hSw; have hb := Sys.memBlk (n := nc) (o := .cells #[.int .i64 f, .int .i64 (3 * f + 1), .int .i64 0, .int .i64 0, .int .i64 0, .int .i64 0, .int .i64 0, .int .i64 0] 49 (0, 0)) hSw (by simp); have c0 : w.cell? ⟨nc, 0, none⟩ = some (.int .i64 f) := cell_of_blk hb 0; have c1 : w.cell? ⟨nc, 1, none⟩ = some (.int .i64 (3 * f + 1)) := cell_of_blk hb 1; have c2 : w.cell? ⟨nc, 2, none⟩ = some (.int .i64 0) := cell_of_blk hb 2; have c3 : w.cell? ⟨nc, 3, none⟩ = some (.int .i64 0) := cell_of_blk hb 3; have c4 : w.cell? ⟨nc, 4, none⟩ = some (.int .i64 0) := cell_of_blk hb 4; have c5 : w.cell? ⟨nc, 5, none⟩ = some (.int .i64 0) := cell_of_blk hb 5; have c6 : w.cell? ⟨nc, 6, none⟩ = some (.int .i64 0) := cell_of_blk hb 6; have c7 : w.cell? ⟨nc, 7, none⟩ = some (.int .i64 0) := cell_of_blk hb 7; clear hb; clear hSw; go_simp; try (with_reducible rfl))
              try simp only [Act.put, List.setIfInBounds_toArray, List.set_cons_zero, List.set_cons_succ]
              refine takeS 27 (some 127) (v := ?_) rfl (by rfl) (by kernel_rfl) (by kernel_rfl) (by kernel_rfl) (fun _ _ _ h => h) (by kernel_rfl) (by kernel_rfl) (by kernel_rfl) ?_ (by assumption) ?_
              rotate_left
              · (intro w hSw; obtain ⟨m', hSw⟩ := hSw; have hb := Sys.memBlk (n := nq) (o := .cells #[.int .i64 4, .int .i64 50, .slice va L.length vc] 28 (0, 0)) hSw (by simp); have c0 : w.cell? ⟨nq, 0, none⟩ = some (.int .i64 4) := cell_of_blk hb 0; have c1 : w.cell? ⟨nq, 1, none⟩ = some (.int .i64 50) := cell_of_blk hb 1; have c2 : w.cell? ⟨nq, 2, none⟩ = some (.slice va L.length vc) := cell_of_blk hb 2; clear hb; clear hSw; go_simp; try (with_reducible rfl))
              try simp only [Act.put, List.setIfInBounds_toArray, List.set_cons_zero, List.set_cons_succ]
              refine oneT 28 (by kernel_rfl) rfl (fun K hK => ?_)
              go_simp
              go_at_call 33
              have HQ := Lib.hid (cert_qcok (cfgF f) (cfgF_good HF.out) 4 50 L va vc (fun x m' hs => own_ints_at (Sys.memOwn (E := 3) (size := 1) (v := .slice va L.length vc) (n := L.length) (xs := L.map (Value.int .i64)) hs (by simp)) rfl) HLN.out H5.out (upd_same _ _ _) (by have := HI3.out.2.1; omega))
              rw [HQC.out] at HQ
              refine HQ.out.mono ?_
              rintro e wF ⟨rfl, hF⟩
              rw [upd_upd] at hF
              have H6 := Lib.hid hF
              have hS1 : ∃ m', Sys wF m' (blk nq (.cells #[.int .i64 4, .int .i64 50, .slice va L.length vc] 28 (0, 0)) :: own 3 1 (.slice va L.length vc) L.length (L.map (Value.int .i64)) :: tallyT q p (cfgF f) (voteV V who 4 50 true) [] :: mapT intKey b0 (ones BN) :: mapT intKey b1 (ones B1) :: blk na (.cells #[.map (some b0), .map (some b1)] 76 (0, 0)) :: blk nc (.cells #[.int .i64 f, .int .i64 (3 * f + 1), .int .i64 0, .int .i64 0, .int .i64 0, .int .i64 0, .int .i64 0, .int .i64 0] 49 (0, 0)) :: base W :: []) := ⟨_, hF⟩
              clear hF HQ
              go_wp2_with fail
              refine hK.out _ _ (Stage.still ?_) (fun hSt => ?_)
              · (try dsimp only); exact hS1
              clear hK K hSt
              try simp only [Act.put, List.setIfInBounds_toArray, List.set_cons_zero, List.set_cons_succ]
              refine takeW 29 (some 129) (v := ?_) rfl (by rfl) (by kernel_rfl) (by kernel_rfl) (by kernel_rfl) (fun _ _ _ h => h) (by kernel_rfl) (by kernel_rfl) ?_ (Stage.still (by assumption)) ?_
              rotate_left
              · (intro w; go_simp; try (with_reducible rfl))
              try simp only [Act.put, List.setIfInBounds_toArray, List.set_cons_zero, List.set_cons_succ]
              refine takeW 30 (some 130) (v := ?_) rfl (by rfl) (by kernel_rfl) (by kernel_rfl) (by kernel_rfl) (fun _ _ _ h => h) (by kernel_rfl) (by kernel_rfl) ?_ (Stage.still (by assumption)) ?_
              rotate_left
              · (intro w; go_simp; try (with_reducible rfl))
              try simp only [Act.put, List.setIfInBounds_toArray, List.set_cons_zero, List.set_cons_succ]
              refine takeW 31 (some 131) (v := ?_) rfl (by rfl) (by kernel_rfl) (by kernel_rfl) (by kernel_rfl) (fun _ _ _ h => h) (by kernel_rfl) (by kernel_rfl) ?_ (Stage.still (by assumption)) ?_
              rotate_left
              · (intro w; go_simp; try (with_reducible rfl))
              try simp only [Act.put, List.setIfInBounds_toArray, List.set_cons_zero, List.set_cons_succ]
              refine takeW 32 (some 132) (v := ?_) rfl (by rfl) (by kernel_rfl) (by kernel_rfl) (by kernel_rfl) (fun _ _ _ h => h) (by kernel_rfl) (by kernel_rfl) ?_ (Stage.still (by assumption)) ?_
              rotate_left
              · (intro w; go_simp; try (with_reducible rfl))
              try simp only [Act.put, List.setIfInBounds_toArray, List.set_cons_zero, List.set_cons_succ]
              refine doneT (by kernel_rfl) ?_ _
              go_wp2_with fail
              go_roundw
              case rel => exact ⟨j + 1, by omega, by omega, by go_num, qcX X3 4 50, voteV V who 4 50 true, BN, B1, (HI3.out.ext (qcX_ext X3 4 50)).mono (by omega), ((H6.out.tail.tail.front 2 rfl).front 2 rfl)⟩
              case measure => simp [intOf]; omega
            · have hyf : yes = false := by rw [HYY.out]; simp [hq]
              subst hyf
              have hd : decide (2 * f + 1 ≤ (BN.length : Int)) = false := by rw [hbn]; simpa using hq
              clear hq hbn
              refine wp_region_stage (fun x : World => ∃ m', Sys x m' (blk nq (.cells #[.int .i64 vw, .int .i64 vb, .slice va L.length vc] 28 (0, 0)) :: own 3 1 (.slice va L.length vc) L.length (L.map (Value.int .i64)) :: tallyT q p (cfgF f) (voteV V who 4 50 true) [] :: mapT intKey b0 (ones BN) :: mapT intKey b1 (ones B1) :: blk na (.cells #[.map (some b0), .map (some b1)] 76 (0, 0)) :: blk nc (.cells #[.int .i64 f, .int .i64 (3 * f + 1), .int .i64 0, .int .i64 0, .int .i64 0, .int .i64 0, .int .i64 0, .int .i64 0] 49 (0, 0)) :: base W :: [])) [] (by kernel_rfl) ?_
              refine takeW 0 (some 100) (v := ?_) rfl (by rfl) (by kernel_rfl) (by kernel_rfl) (by kernel_rfl) (fun _ _ _ h => h) (by kernel_rfl) (by kernel_rfl) ?_ (Stage.still (by assumption)) ?_
              rotate_left
              · (intro w; go_simp; try (with_reducible rfl))
              try simp only [Act.put, List.setIfInBounds_toArray, List.set_cons_zero, List.set_cons_succ]
              refine takeW 1 (some 101) (v := ?_) rfl (by rfl) (by kernel_rfl) (by kernel_rfl) (by kernel_rfl) (fun _ _ _ h => h) (by kernel_rfl) (by kernel_rfl) ?_ (Stage.still (by assumption)) ?_
              rotate_left
              · (intro w; go_simp; try (with_reducible rfl))
              try simp only [Act.put, List.setIfInBounds_toArray, List.set_cons_zero, List.set_cons_succ]
              refine takeW 2 (some 102) (v := ?_) rfl (by rfl) (by kernel_rfl) (by kernel_rfl) (by kernel_rfl) (fun _ _ _ h => h) (by kernel_rfl) (by kernel_rfl) ?_ (Stage.still (by assumption)) ?_
              rotate_left
              · (intro w; go_simp; try (with_reducible rfl))
              try simp only [Act.put, List.setIfInBounds_toArray, List.set_cons_zero, List.set_cons_succ]
              refine takeW 3 (some 103) (v := ?_) rfl (by rfl) (by kernel_rfl) (by kernel_rfl) (by kernel_rfl) (fun _ _ _ h => h) (by kernel_rfl) (by kernel_rfl) ?_ (Stage.still (by assumption)) ?_
              rotate_left
              · (intro w; go_simp; try (with_reducible rfl))
              try simp only [Act.put, List.setIfInBounds_toArray, List.set_cons_zero, List.set_cons_succ]
              refine takeW 4 (some 104) (v := ?_) rfl (by rfl) (by kernel_rfl) (by kernel_rfl) (by kernel_rfl) (fun _ _ _ h => h) (by kernel_rfl) (by kernel_rfl) ?_ (Stage.still (by assumption)) ?_
              rotate_left
              · (intro w; go_simp; try (with_reducible rfl))
              try simp only [Act.put, List.setIfInBounds_toArray, List.set_cons_zero, List.set_cons_succ]
              refine takeS 5 (some 105) (v := ?_) rfl (by rfl) (by kernel_rfl) (by kernel_rfl) (by kernel_rfl) (fun _ _ _ h => h) (by kernel_rfl) (by kernel_rfl) (by kernel_rfl) ?_ (by assumption) ?_
              rotate_left
              · (intro w hSw; obtain ⟨m', hSw⟩ := hSw; have c : w.cell? ⟨na, 0, none⟩ = some (.map (some b0)) := cell_of_blk (Sys.memBlk (n := na) (o := .cells #[.map (some b0), .map (some b1)] 76 (0, 0)) hSw (by simp)) 0; clear hSw; go_simp; try (with_reducible rfl))
              try simp only [Act.put, List.setIfInBounds_toArray, List.set_cons_zero, List.set_cons_succ]
              refine takeS 6 (some 106) (v := ?_) rfl (by rfl) (by kernel_rfl) (by kernel_rfl) (by kernel_rfl) (fun _ _ _ h => h) (by kernel_rfl) (by kernel_rfl) (by kernel_rfl) ?_ (by assumption) ?_
              rotate_left
              · (intro w hSw; obtain ⟨m', hSw⟩ := hSw; have e := (Sys.memMap (K := intKey) (b := b0) (x := ones BN) hSw (by simp)).len (P := Try.prog) (ty := 3) Try.underlying75; rw [show (ones BN).length = BN.length by simp [ones]] at e; clear hSw; go_simp; try (with_reducible rfl))
              try simp only [Act.put, List.setIfInBounds_toArray, List.set_cons_zero, List.set_cons_succ]
              refine takeW 7 (some 107) (v := ?_) rfl (by rfl) (by kernel_rfl) (by kernel_rfl) (by kernel_rfl) (fun _ _ _ h => h) (by kernel_rfl) (by kernel_rfl) ?_ (Stage.still (by assumption)) ?_
              rotate_left
              · (intro w; go_simp; try (with_reducible rfl))
              try simp only [Act.put, List.setIfInBounds_toArray, List.set_cons_zero, List.set_cons_succ]
              refine takeW 8 (some 108) (v := ?_) rfl (by rfl) (by kernel_rfl) (by kernel_rfl) (by kernel_rfl) (fun _ _ _ h => h) (by kernel_rfl) (by kernel_rfl) ?_ (Stage.still (by assumption)) ?_
              rotate_left
              · (intro w; go_simp; try (with_reducible rfl))
              try simp only [Act.put, List.setIfInBounds_toArray, List.set_cons_zero, List.set_cons_succ]
              refine takeW 9 (some 109) (v := ?_) rfl (by rfl) (by kernel_rfl) (by kernel_rfl) (by kernel_rfl) (fun _ _ _ h => h) (by kernel_rfl) (by kernel_rfl) ?_ (Stage.still (by assumption)) ?_
              rotate_left
              · (intro w; go_simp; try (with_reducible rfl))
              try simp only [Act.put, List.setIfInBounds_toArray, List.set_cons_zero, List.set_cons_succ]
              refine takeW 10 (some 110) (v := ?_) rfl (by rfl) (by kernel_rfl) (by kernel_rfl) (by kernel_rfl) (fun _ _ _ h => h) (by kernel_rfl) (by kernel_rfl) ?_ (Stage.still (by assumption)) ?_
              rotate_left
              · (intro w; go_simp; try (with_reducible rfl))
              try simp only [Act.put, List.setIfInBounds_toArray, List.set_cons_zero, List.set_cons_succ]
              refine takeW 11 (some 111) (v := ?_) rfl (by rfl) (by kernel_rfl) (by kernel_rfl) (by kernel_rfl) (fun _ _ _ h => h) (by kernel_rfl) (by kernel_rfl) ?_ (Stage.still (by assumption)) ?_
              rotate_left
              · (intro w; go_simp; try (with_reducible rfl))
              try simp only [Act.put, List.setIfInBounds_toArray, List.set_cons_zero, List.set_cons_succ]
              refine takeW 12 (some 112) (v := ?_) rfl (by rfl) (by kernel_rfl) (by kernel_rfl) (by kernel_rfl) (fun _ _ _ h => h) (by kernel_rfl) (by kernel_rfl) ?_ (Stage.still (by assumption)) ?_
              rotate_left
              · (intro w; go_simp; try (with_reducible rfl))
              try simp only [Act.put, List.setIfInBounds_toArray, List.set_cons_zero, List.set_cons_succ]
              refine takeW 13 (some 113) (v := ?_) rfl (by rfl) (by kernel_rfl) (by kernel_rfl) (by kernel_rfl) (fun _ _ _ h => h) (by kernel_rfl) (by kernel_rfl) ?_ (Stage.still (by assumption)) ?_
              rotate_left
              · (intro w; go_simp; try (with_reducible rfl))
              try simp only [Act.put, List.setIfInBounds_toArray, List.set_cons_zero, List.set_cons_succ]
              refine takeW 14 (some 114) (v := ?_) rfl (by rfl) (by kernel_rfl) (by kernel_rfl) (by kernel_rfl) (fun _ _ _ h => h) (by kernel_rfl) (by kernel_rfl) ?_ (Stage.still (by assumption)) ?_
              rotate_left
              · (intro w; go_simp; try (with_reducible rfl))
              try simp only [Act.put, List.setIfInBounds_toArray, List.set_cons_zero, List.set_cons_succ]
              refine takeW 15 (some 115) (v := ?_) rfl (by rfl) (by kernel_rfl) (by kernel_rfl) (by kernel_rfl) (fun _ _ _ h => h) (by kernel_rfl) (by kernel_rfl) ?_ (Stage.still (by assumption)) ?_
              rotate_left
              · (intro w; go_simp; try (with_reducible rfl))
              try simp only [Act.put, List.setIfInBounds_toArray, List.set_cons_zero, List.set_cons_succ]
              refine skipT 16 (some 116) (by kernel_rfl) (by kernel_rfl) (by kernel_rfl) (by kernel_rfl) (fun _ _ _ h => h) (by kernel_rfl) (Stage.still (by assumption)) ?_
              try simp only [Act.put, List.setIfInBounds_toArray, List.set_cons_zero, List.set_cons_succ]
              refine skipT 17 (some 117) (by kernel_rfl) (by kernel_rfl) (by kernel_rfl) (by kernel_rfl) (fun _ _ _ h => h) (by kernel_rfl) (Stage.still (by assumption)) ?_
              try simp only [Act.put, List.setIfInBounds_toArray, List.set_cons_zero, List.set_cons_succ]
              refine skipT 18 (some 118) (by kernel_rfl) (by kernel_rfl) (by kernel_rfl) (by kernel_rfl) (fun _ _ _ h => h) (by kernel_rfl) (Stage.still (by assumption)) ?_
              try simp only [Act.put, List.setIfInBounds_toArray, List.set_cons_zero, List.set_cons_succ]
              refine skipT 19 (some 119) (by kernel_rfl) (by kernel_rfl) (by kernel_rfl) (by kernel_rfl) (fun _ _ _ h => h) (by kernel_rfl) (Stage.still (by assumption)) ?_
              try simp only [Act.put, List.setIfInBounds_toArray, List.set_cons_zero, List.set_cons_succ]
              refine skipT 20 (some 120) (by kernel_rfl) (by kernel_rfl) (by kernel_rfl) (by kernel_rfl) (fun _ _ _ h => h) (by kernel_rfl) (Stage.still (by assumption)) ?_
              try simp only [Act.put, List.setIfInBounds_toArray, List.set_cons_zero, List.set_cons_succ]
              refine skipT 21 (some 121) (by kernel_rfl) (by kernel_rfl) (by kernel_rfl) (by kernel_rfl) (fun _ _ _ h => h) (by kernel_rfl) (Stage.still (by assumption)) ?_
              try simp only [Act.put, List.setIfInBounds_toArray, List.set_cons_zero, List.set_cons_succ]
              refine skipT 22 (some 122) (by kernel_rfl) (by kernel_rfl) (by kernel_rfl) (by kernel_rfl) (fun _ _ _ h => h) (by kernel_rfl) (Stage.still (by assumption)) ?_
              try simp only [Act.put, List.setIfInBounds_toArray, List.set_cons_zero, List.set_cons_succ]
              refine skipT 23 (some 123) (by kernel_rfl) (by kernel_rfl) (by kernel_rfl) (by kernel_rfl) (fun _ _ _ h => h) (by kernel_rfl) (Stage.still (by assumption)) ?_
              try simp only [Act.put, List.setIfInBounds_toArray, List.set_cons_zero, List.set_cons_succ]
              refine skipT 24 (some 124) (by kernel_rfl) (by kernel_rfl) (by kernel_rfl) (by kernel_rfl) (fun _ _ _ h => h) (by kernel_rfl) (Stage.still (by assumption)) ?_
              try simp only [Act.put, List.setIfInBounds_toArray, List.set_cons_zero, List.set_cons_succ]
              refine skipT 25 (some 125) (by kernel_rfl) (by kernel_rfl) (by kernel_rfl) (by kernel_rfl) (fun _ _ _ h => h) (by kernel_rfl) (Stage.still (by assumption)) ?_
              try simp only [Act.put, List.setIfInBounds_toArray, List.set_cons_zero, List.set_cons_succ]
              refine skipT 26 (some 126) (by kernel_rfl) (by kernel_rfl) (by kernel_rfl) (by kernel_rfl) (fun _ _ _ h => h) (by kernel_rfl) (Stage.still (by assumption)) ?_
              try simp only [Act.put, List.setIfInBounds_toArray, List.set_cons_zero, List.set_cons_succ]
              refine skipT 27 (some 127) (by kernel_rfl) (by kernel_rfl) (by kernel_rfl) (by kernel_rfl) (fun _ _ _ h => h) (by kernel_rfl) (Stage.still (by assumption)) ?_
              try simp only [Act.put, List.setIfInBounds_toArray, List.set_cons_zero, List.set_cons_succ]
              refine skipT 28 (some 128) (by kernel_rfl) (by kernel_rfl) (by kernel_rfl) (by kernel_rfl) (fun _ _ _ h => h) (by kernel_rfl) (Stage.still (by assumption)) ?_
              try simp only [Act.put, List.setIfInBounds_toArray, List.set_cons_zero, List.set_cons_succ]
              refine skipT 29 (some 129) (by kernel_rfl) (by kernel_rfl) (by kernel_rfl) (by kernel_rfl) (fun _ _ _ h => h) (by kernel_rfl) (Stage.still (by assumption)) ?_
              try simp only [Act.put, List.setIfInBounds_toArray, List.set_cons_zero, List.set_cons_succ]
              refine skipT 30 (some 130) (by kernel_rfl) (by kernel_rfl) (by kernel_rfl) (by kernel_rfl) (fun _ _ _ h => h) (by kernel_rfl) (Stage.still (by assumption)) ?_
              try simp only [Act.put, List.setIfInBounds_toArray, List.set_cons_zero, List.set_cons_succ]
              refine takeW 31 (some 131) (v := ?_) rfl (by rfl) (by kernel_rfl) (by kernel_rfl) (by kernel_rfl) (fun _ _ _ h => h) (by kernel_rfl) (by kernel_rfl) ?_ (Stage.still (by assumption)) ?_
              rotate_left
              · (intro w; go_simp; try (with_reducible rfl))
              try simp only [Act.put, List.setIfInBounds_toArray, List.set_cons_zero, List.set_cons_succ]
              refine takeW 32 (some 132) (v := ?_) rfl (by rfl) (by kernel_rfl) (by kernel_rfl) (by kernel_rfl) (fun _ _ _ h => h) (by kernel_rfl) (by kernel_rfl) ?_ (Stage.still (by assumption)) ?_
              rotate_left
              · (intro w; go_simp; try (with_reducible rfl))
              try simp only [Act.put, List.setIfInBounds_toArray, List.set_cons_zero, List.set_cons_succ]
              refine doneT (by kernel_rfl) ?_ _
              go_wp2_with fail
              go_roundw
              case rel => exact ⟨j + 1, by omega, by omega, by go_num, X3, voteV V who 4 50 true, BN, B1, HI3.out.mono (by omega), ((H5.out.tail.tail.front 2 rfl).front 2 rfl)⟩
              case measure => simp [intOf]; omega
        · rw [hk]
          clear hk
          go_upto_region 16 with fail
          generalize decide (0 < lj / 16 % 4) = sb
          go_upto_if 64 with fail
          go_cut [] (fun wx => ∃ X1, Hid (InvT f X1 V B0 B1 (4 * j + 1) j) ∧ Sys wx (upd (fun _ => emp) 0 (worldT p d X1)) (mapT intKey b0 (ones B0) :: mapT intKey b1 (ones B1) :: tallyT q p (cfgF f) V [] :: blk na (.cells #[.map (some b0), .map (some b1)] 76 (0, 0)) :: blk nc (.cells #[.int .i64 f, .int .i64 (3 * f + 1), .int .i64 0, .int .i64 0, .int .i64 0, .int .i64 0, .int .i64 0, .int .i64 0] 49 (0, 0)) :: base W :: []))
          case first =>
            cases sb
            · go_wp2_with fail
              go_meet
              case rel => exact ⟨X, HI.out.mono (by omega), HR1.out⟩
            · go_wp2_with fail
              refine (world_signs HR1.out (upd_same _ _ _)).mono ?_
              rintro e wa ⟨rfl, rfl⟩
              go_wp2_with fail
              refine (cert_vote 4 51 HR1.out (upd_same _ _ _) (by have := HI.out.2.1; omega)).mono ?_
              rintro e wb ⟨rfl, hb⟩
              rw [upd_upd] at hb
              have HB := Lib.hid hb
              clear hb
              go_wp2_with fail
              refine (world_sign who (dg X.T (voteB 4 51)) (by have h := HWH.out; exact wf_mk (by omega) (by omega)) HB.out (upd_same _ _ _)).mono ?_
              rintro e wd ⟨rfl, hd⟩
              rw [upd_upd] at hd
              have HD : Hid (Sys wd (upd (fun _ => emp) 0 (worldT p d (X.signB who (voteB 4 51)))) (mapT intKey b0 (ones B0) :: mapT intKey b1 (ones B1) :: tallyT q p (cfgF f) V [] :: blk na (.cells #[.map (some b0), .map (some b1)] 76 (0, 0)) :: blk nc (.cells #[.int .i64 f, .int .i64 (3 * f + 1), .int .i64 0, .int .i64 0, .int .i64 0, .int .i64 0, .int .i64 0, .int .i64 0] 49 (0, 0)) :: base W :: [])) := hd
              clear hd HB
              go_wp2_with fail
              go_meet
              case rel => exact ⟨_, HI.out.sign who _, HD.out⟩
          case rest =>
          obtain ⟨X1, HI1, hc1⟩ := hcut
          have HR2 := Lib.hid hc1
          clear hc1 HI HR1
          go_upto_region 18 with fail
          go_cut [12] (fun s12 wx => ∃ X2, s12 = .bool (voteOk X2 (cfgF f) who 4 51) ∧ Hid (InvT f X2 V B0 B1 (4 * j + 2) j) ∧ Sys wx (upd (fun _ => emp) 0 (worldT p d X2)) (mapT intKey b0 (ones B0) :: mapT intKey b1 (ones B1) :: tallyT q p (cfgF f) V [] :: blk na (.cells #[.map (some b0), .map (some b1)] 76 (0, 0)) :: blk nc (.cells #[.int .i64 f, .int .i64 (3 * f + 1), .int .i64 0, .int .i64 0, .int .i64 0, .int .i64 0, .int .i64 0, .int .i64 0] 49 (0, 0)) :: base W :: []))
          case first =>
            go_wp2_with fail
            refine (world_signs HR2.out (upd_same _ _ _)).mono ?_
            rintro e wa ⟨rfl, rfl⟩
            go_wp2_with fail
            refine (cert_vote 4 51 HR2.out (upd_same _ _ _) (by have := HI1.out.2.1; omega)).mono ?_
            rintro e wb ⟨rfl, hb⟩
            rw [upd_upd] at hb
            have HB := Lib.hid hb
            have cn : wb.cell? ⟨nc, 1, none⟩ = some (.int .i64 (3 * f + 1)) := cell_of_blk (Sys.memBlk (n := nc) (o := .cells #[.int .i64 f, .int .i64 (3 * f + 1), .int .i64 0, .int .i64 0, .int .i64 0, .int .i64 0, .int .i64 0, .int .i64 0] 49 (0, 0)) hb (by simp)) 1
            clear hb
            go_wp2_with fail
            refine (world_has who (dg X1.T (voteB 4 51)) HB.out (upd_same _ _ _)).mono ?_
            rintro e wd ⟨rfl, rfl⟩
            have HVO := Lib.hid (voteOk_digest X1 f who 51 HWH.out.1)
            generalize decide (who ∈ (X1.digest (voteB 4 51)).f (dg X1.T (voteB 4 51))) = sh at HVO ⊢
            cases sh
            · go_wp2_with fail
              go_meet
              case rel => exact ⟨X1.digest (voteB 4 51), by rw [HVO.out, Bool.and_false], HI1.out.ext (X1.ext_digest _), HB.out⟩
            · go_wp2_with fail
              go_meet
              case rel => exact ⟨X1.digest (voteB 4 51), by rw [HVO.out, Bool.and_true], HI1.out.ext (X1.ext_digest _), HB.out⟩
          case rest =>
          obtain ⟨X2, hs12, HI2, hc2⟩ := hcut
          subst hs12
          have HR3 := Lib.hid hc2
          clear hc2 HI1 HR2
          obtain ⟨ok, hok⟩ : ∃ b, b = voteOk X2 (cfgF f) who 4 51 := ⟨_, rfl⟩
          rw [← hok]
          have HOKV := Lib.hid hok
          clear hok
          go_upto_if 87 with fail
          go_cut [] (fun wx => Sys wx (upd (fun _ => emp) 0 (worldT p d X2)) (mapT intKey b0 (ones B0) :: mapT intKey b1 (ones (if ok = true then addTo B1 who else B1)) :: tallyT q p (cfgF f) V [] :: blk na (.cells #[.map (some b0), .map (some b1)] 76 (0, 0)) :: blk nc (.cells #[.int .i64 f, .int .i64 (3 * f + 1), .int .i64 0, .int .i64 0, .int .i64 0, .int .i64 0, .int .i64 0, .int .i64 0] 49 (0, 0)) :: base W :: []))
          case first =>
            cases ok
            · go_wp2_with fail
              go_meet
              case rel => first | (rw [if_neg (by decide)]; exact HR3.out) | (rw [if_neg not_false]; exact HR3.out)
            · have hca : wc.cell? ⟨na, 1, none⟩ = some (.map (some b1)) := cell_of_blk (Sys.memBlk (n := na) (o := .cells #[.map (some b0), .map (some b1)] 76 (0, 0)) HR3.out (by simp)) 1
              have hfr := HR3.out.swap
              obtain ⟨wu, hu, hmu, hcu, -⟩ := hfr.getMap.update (P := Try.prog) Try.underlying75 Try.underlying3 who (.int .i64 1)
              rw [show aset (ones B1) who (.int .i64 1) = ones (addTo B1 who) from aset_ones B1 who] at hmu
              simp only [intKey] at hu
              have HU := Lib.hid (hfr.mapTo hmu hcu).swap
              clear hfr hmu hcu
              go_wp2_with fail
              go_meet
              case rel => first | (rw [if_pos rfl]; exact HU.out) | (rw [if_pos trivial]; exact HU.out)
          case rest =>
          have HR4 := Lib.hid hcut
          clear hcut HR3
          obtain ⟨BN, hBN⟩ : ∃ B, B = if ok = true then addTo B1 who else B1 := ⟨_, rfl⟩
          rw [← hBN] at HR4
          have HBN := Lib.hid hBN
          clear hBN
          go_upto_region 21 with fail
          go_wp2_with fail
          refine (tally_vote (cfgF f) (cfgF_good HF.out) who 4 51 (HR4.out.front 2 rfl) (upd_same _ _ _) (by have := HI2.out.2.1; omega) (by have h := HI2.out.2.2.2.2.2.2.2; rw [HI2.out.2.2.2.1]; omega)).mono ?_
          rintro e wv ⟨v, L, yes, hy, hL, he, X3, hE, hv⟩
          rw [← HOKV.out, upd_upd] at hv
          obtain ⟨va, vk, vc, hvs, hvk⟩ := hv.getOwn.slice
          have hvk' := hvk.out
          subst hvk'
          subst hvs
          subst he
          have HI3 : Hid (InvT f X3 (voteV V who 4 51 ok) B0 BN (4 * j + 3) (j + 1)) := by
            show InvT _ _ _ _ _ _ _
            have h := (HI2.out.vote1 ok HOKV.out).ext hE
            rw [← HBN.out] at h
            exact h.mono (by omega)
          have HV5 : Hid (Sys wv (upd (fun _ => emp) 0 (worldT p d X3)) (own 3 1 (.slice va L.length vc) L.length (L.map (Value.int .i64)) :: tallyT q p (cfgF f) (voteV V who 4 51 ok) [] :: mapT intKey b0 (ones B0) :: mapT intKey b1 (ones BN) :: blk na (.cells #[.map (some b0), .map (some b1)] 76 (0, 0)) :: blk nc (.cells #[.int .i64 f, .int .i64 (3 * f + 1), .int .i64 0, .int .i64 0, .int .i64 0, .int .i64 0, .int .i64 0, .int .i64 0] 49 (0, 0)) :: base W :: [])) := hv
          have hyy : yes = (ok && decide (2 * f + 1 ≤ ((addTo B1 who).length : Int))) := by
            rw [hy]; unfold voteYes; rw [← HOKV.out, HI2.out.2.2.2.1]; rfl
          have hLL : L = if yes = true then rising (addTo B1 who) else [] := by rw [hL, HI2.out.2.2.2.1]
          clear hv hy hL hE hvk
          obtain ⟨vw, hvw⟩ : ∃ x : Int, x = if yes = true then 4 else 0 := ⟨_, rfl⟩
          obtain ⟨vb, hvb⟩ : ∃ x : Int, x = if yes = true then 51 else 0 := ⟨_, rfl⟩
          rw [← hvw, ← hvb]
          obtain ⟨nq, hnq⟩ : ∃ n, n = wv.heap.size := ⟨_, rfl⟩
          obtain ⟨wq, hwq⟩ : ∃ y, y = wv.alloc (.cells #[.int .i64 vw, .int .i64 vb, .slice va L.length vc] 28 (0, 0)) := ⟨_, rfl⟩
          have h5 := HV5.out.alloc (.cells #[.int .i64 vw, .int .i64 vb, .slice va L.length vc] 28 (0, 0)) hnq
          rw [← hwq] at h5
          have H5 := Lib.hid h5.drew
          have HWQ := Lib.hid hwq
          have HNQ := Lib.hid hnq
          have HYY := Lib.hid hyy
          have HLL := Lib.hid hLL
          have HVW := Lib.hid hvw
          have HVB := Lib.hid hvb
          clear h5 hwq hnq hyy hLL hvw hvb HV5 HR4 HOKV
          have hw2f : IntKind.i64.wrap (2 * f) = 2 * f := by have h := HF.out; rw [IntKind.wrap_i64]; omega
          have hw2f1 : IntKind.i64.wrap (2 * f + 1) = 2 * f + 1 := by have h := HF.out; rw [IntKind.wrap_i64]; omega
          go_upto_region 22 with fail
          rw [← HWQ.out, ← HNQ.out]
          have hS1 : ∃ m', Sys wq.drew m' (blk nq (.cells #[.int .i64 vw, .int .i64 vb, .slice va L.length vc] 28 (0, 0)) :: own 3 1 (.slice va L.length vc) L.length (L.map (Value.int .i64)) :: tallyT q p (cfgF f) (voteV V who 4 51 ok) [] :: mapT intKey b0 (ones B0) :: mapT intKey b1 (ones BN) :: blk na (.cells #[.map (some b0), .map (some b1)] 76 (0, 0)) :: blk nc (.cells #[.int .i64 f, .int .i64 (3 * f + 1), .int .i64 0, .int .i64 0, .int .i64 0, .int .i64 0, .int .i64 0, .int .i64 0] 49 (0, 0)) :: base W :: []) := ⟨_, H5.out⟩
          cases ok
          · have hyf : yes = false := by rw [HYY.out]; rfl
            subst hyf
            refine wp_region_stage (fun x : World => ∃ m', Sys x m' (blk nq (.cells #[.int .i64 vw, .int .i64 vb, .slice va L.length vc] 28 (0, 0)) :: own 3 1 (.slice va L.length vc) L.length (L.map (Value.int .i64)) :: tallyT q p (cfgF f) (voteV V who 4 51 false) [] :: mapT intKey b0 (ones B0) :: mapT intKey b1 (ones BN) :: blk na (.cells #[.map (some b0), .map (some b1)] 76 (0, 0)) :: blk nc (.cells #[.int .i64 f, .int .i64 (3 * f + 1), .int .i64 0, .int .i64 0, .int .i64 0, .int .i64 0, .int .i64 0, .int .i64 0] 49 (0, 0)) :: base W :: [])) [] (by kernel_rfl) ?_
            refine takeW 0 (some 100) (v := ?_) rfl (by rfl) (by kernel_rfl) (by kernel_rfl) (by kernel_rfl) (fun _ _ _ h => h) (by kernel_rfl) (by kernel_rfl) ?_ (Stage.still (by assumption)) ?_
            rotate_left
            · (intro w; go_simp; try (with_reducible rfl))
            try simp only [Act.put, List.setIfInBounds_toArray, List.set_cons_zero, List.set_cons_succ]
            refine takeW 1 (some 101) (v := ?_) rfl (by rfl) (by kernel_rfl) (by kernel_rfl) (by kernel_rfl) (fun _ _ _ h => h) (by kernel_rfl) (by kernel_rfl) ?_ (Stage.still (by assumption)) ?_
            rotate_left
            · (intro w; go_simp; try (with_reducible rfl))
            try simp only [Act.put, List.setIfInBounds_toArray, List.set_cons_zero, List.set_cons_succ]
            refine takeW 2 (some 102) (v := ?_) rfl (by rfl) (by kernel_rfl) (by kernel_rfl) (by kernel_rfl) (fun _ _ _ h => h) (by kernel_rfl) (by kernel_rfl) ?_ (Stage.still (by assumption)) ?_
            rotate_left
            · (intro w; go_simp; try (with_reducible rfl))
            try simp only [Act.put, List.setIfInBounds_toArray, List.set_cons_zero, List.set_cons_succ]
            refine skipT 3 (some 103) (by kernel_rfl) (by kernel_rfl) (by kernel_rfl) (by kernel_rfl) (fun _ _ _ h => h) (by kernel_rfl) (Stage.still (by assumption)) ?_
            try simp only [Act.put, List.setIfInBounds_toArray, List.set_cons_zero, List.set_cons_succ]
            refine skipT 4 (some 104) (by kernel_rfl) (by kernel_rfl) (by kernel_rfl) (by kernel_rfl) (fun _ _ _ h => h) (by kernel_rfl) (Stage.still (by assumption)) ?_
            try simp only [Act.put, List.setIfInBounds_toArray, List.set_cons_zero, List.set_cons_succ]
            refine skipT 5 (some 105) (by kernel_rfl) (by kernel_rfl) (by kernel_rfl) (by kernel_rfl) (fun _ _ _ h => h) (by kernel_rfl) (Stage.still (by assumption)) ?_
            try simp only [Act.put, List.setIfInBounds_toArray, List.set_cons_zero, List.set_cons_succ]
            refine skipT 6 (some 106) (by kernel_rfl) (by kernel_rfl) (by kernel_rfl) (by kernel_rfl) (fun _ _ _ h => h) (by kernel_rfl) (Stage.still (by assumption)) ?_
            try simp only [Act.put, List.setIfInBounds_toArray, List.set_cons_zero, List.set_cons_succ]
            refine skipT 7 (some 107) (by kernel_rfl) (by kernel_rfl) (by kernel_rfl) (by kernel_rfl) (fun _ _ _ h => h) (by kernel_rfl) (Stage.still (by assumption)) ?_
            try simp only [Act.put, List.setIfInBounds_toArray, List.set_cons_zero, List.set_cons_succ]
            refine skipT 8 (some 108) (by kernel_rfl) (by kernel_rfl) (by kernel_rfl) (by kernel_rfl) (fun _ _ _ h => h) (by kernel_rfl) (Stage.still (by assumption)) ?_
            try simp only [Act.put, List.setIfInBounds_toArray, List.set_cons_zero, List.set_cons_succ]
            refine skipT 9 (some 109) (by kernel_rfl) (by kernel_rfl) (by kernel_rfl) (by kernel_rfl) (fun _ _ _ h => h) (by kernel_rfl) (Stage.still (by assumption)) ?_
            try simp only [Act.put, List.setIfInBounds_toArray, List.set_cons_zero, List.set_cons_succ]
            refine skipT 10 (some 110) (by kernel_rfl) (by kernel_rfl) (by kernel_rfl) (by kernel_rfl) (fun _ _ _ h => h) (by kernel_rfl) (Stage.still (by assumption)) ?_
            try simp only [Act.put, List.setIfInBounds_toArray, List.set_cons_zero, List.set_cons_succ]
            refine takeW 11 (some 111) (v := ?_) rfl (by rfl) (by kernel_rfl) (by kernel_rfl) (by kernel_rfl) (fun _ _ _ h => h) (by kernel_rfl) (by kernel_rfl) ?_ (Stage.still (by assumption)) ?_
            rotate_left
            · (intro w; go_simp; try (with_reducible rfl))
            try simp only [Act.put, List.setIfInBounds_toArray, List.set_cons_zero, List.set_cons_succ]
            refine takeW 12 (some 112) (v := ?_) rfl (by rfl) (by kernel_rfl) (by kernel_rfl) (by kernel_rfl) (fun _ _ _ h => h) (by kernel_rfl) (by kernel_rfl) ?_ (Stage.still (by assumption)) ?_
            rotate_left
            · (intro w; go_simp; try (with_reducible rfl))
            try simp only [Act.put, List.setIfInBounds_toArray, List.set_cons_zero, List.set_cons_succ]
            refine takeW 13 (some 113) (v := ?_) rfl (by rfl) (by kernel_rfl) (by kernel_rfl) (by kernel_rfl) (fun _ _ _ h => h) (by kernel_rfl) (by kernel_rfl) ?_ (Stage.still (by assumption)) ?_
            rotate_left
            · (intro w; go_simp; try (with_reducible rfl))
            try simp only [Act.put, List.setIfInBounds_toArray, List.set_cons_zero, List.set_cons_succ]
            refine takeW 14 (some 114) (v := ?_) rfl (by rfl) (by kernel_rfl) (by kernel_rfl) (by kernel_rfl) (fun _ _ _ h => h) (by kernel_rfl) (by kernel_rfl) ?_ (Stage.still (by assumption)) ?_
            rotate_left
            · (intro w; go_simp; try (with_reducible rfl))
            try simp only [Act.put, List.setIfInBounds_toArray, List.set_cons_zero, List.set_cons_succ]
            refine takeW 15 (some 115) (v := ?_) rfl (by rfl) (by kernel_rfl) (by kernel_rfl) (by kernel_rfl) (fun _ _ _ h => h) (by kernel_rfl) (by kernel_rfl) ?_ (Stage.still (by assumption)) ?_
            rotate_left
            · (intro w; go_simp; try (with_reducible rfl))
            try simp only [Act.put, List.setIfInBounds_toArray, List.set_cons_zero, List.set_cons_succ]
            refine skipT 16 (some 116) (by kernel_rfl) (by kernel_rfl) (by kernel_rfl) (by kernel_rfl) (fun _ _ _ h => h) (by kernel_rfl) (Stage.still (by assumption)) ?_
            try simp only [Act.put, List.setIfInBounds_toArray, List.set_cons_zero, List.set_cons_succ]
            refine skipT 17 (some 117) (by kernel_rfl) (by kernel_rfl) (by kernel_rfl) (by kernel_rfl) (fun _ _ _ h => h) (by kernel_rfl) (Stage.still (by assumption)) ?_
            try simp only [Act.put, List.setIfInBounds_toArray, List.set_cons_zero, List.set_cons_succ]
            refine skipT 18 (some 118) (by kernel_rfl) (by kernel_rfl) (by kernel_rfl) (by kernel_rfl) (fun _ _ _ h => h) (by kernel_rfl) (Stage.still (by assumption)) ?_
            try simp only [Act.put, List.setIfInBounds_toArray, List.set_cons_zero, List.set_cons_succ]
            refine skipT 19 (some 119) (by kernel_rfl) (by kernel_rfl) (by kernel_rfl) (by kernel_rfl) (fun _ _ _ h => h) (by kernel_rfl) (Stage.still (by assumption)) ?_
            try simp only [Act.put, List.setIfInBounds_toArray, List.set_cons_zero, List.set_cons_succ]
            refine skipT 20 (some 120) (by kernel_rfl) (by kernel_rfl) (by kernel_rfl) (by kernel_rfl) (fun _ _ _ h => h) (by kernel_rfl) (Stage.still (by assumption)) ?_
            try simp only [Act.put, List.setIfInBounds_toArray, List.set_cons_zero, List.set_cons_succ]
            refine skipT 21 (some 121) (by kernel_rfl) (by kernel_rfl) (by kernel_rfl) (by kernel_rfl) (fun _ _ _ h => h) (by kernel_rfl) (Stage.still (by assumption)) ?_
            try simp only [Act.put, List.setIfInBounds_toArray, List.set_cons_zero, List.set_cons_succ]
            refine skipT 22 (some 122) (by kernel_rfl) (by kernel_rfl) (by kernel_rfl) (by kernel_rfl) (fun _ _ _ h => h) (by kernel_rfl) (Stage.still (by assumption)) ?_
            try simp only [Act.put, List.setIfInBounds_toArray, List.set_cons_zero, List.set_cons_succ]
            refine skipT 23 (some 123) (by kernel_rfl) (by kernel_rfl) (by kernel_rfl) (by kernel_rfl) (fun _ _ _ h => h) (by kernel_rfl) (Stage.still (by assumption)) ?_
            try simp only [Act.put, List.setIfInBounds_toArray, List.set_cons_zero, List.set_cons_succ]
            refine skipT 24 (some 124) (by kernel_rfl) (by kernel_rfl) (by kernel_rfl) (by kernel_rfl) (fun _ _ _ h => h) (by kernel_rfl) (Stage.still (by assumption)) ?_
            try simp only [Act.put, List.setIfInBounds_toArray, List.set_cons_zero, List.set_cons_succ]
            refine skipT 25 (some 125) (by kernel_rfl) (by kernel_rfl) (by kernel_rfl) (by kernel_rfl) (fun _ _ _ h => h) (by kernel_rfl) (Stage.still (by assumption)) ?_
            try simp only [Act.put, List.setIfInBounds_toArray, List.set_cons_zero, List.set_cons_succ]
            refine skipT 26 (some 126) (by kernel_rfl) (by kernel_rfl) (by kernel_rfl) (by kernel_rfl) (fun _ _ _ h => h) (by kernel_rfl) (Stage.still (by assumption)) ?_
            try simp only [Act.put, List.setIfInBounds_toArray, List.set_cons_zero, List.set_cons_succ]
            refine skipT 27 (some 127) (by kernel_rfl) (by kernel_rfl) (by kernel_rfl) (by kernel_rfl) (fun _ _ _ h => h) (by kernel_rfl) (Stage.still (by assumption)) ?_
            try simp only [Act.put, List.setIfInBounds_toArray, List.set_cons_zero, List.set_cons_succ]
            refine skipT 28 (some 128) (by kernel_rfl) (by kernel_rfl) (by kernel_rfl) (by kernel_rfl) (fun _ _ _ h => h) (by kernel_rfl) (Stage.still (by assumption)) ?_
            try simp only [Act.put, List.setIfInBounds_toArray, List.set_cons_zero, List.set_cons_succ]
            refine skipT 29 (some 129) (by kernel_rfl) (by kernel_rfl) (by kernel_rfl) (by kernel_rfl) (fun _ _ _ h => h) (by kernel_rfl) (Stage.still (by assumption)) ?_
            try simp only [Act.put, List.setIfInBounds_toArray, List.set_cons_zero, List.set_cons_succ]
            refine skipT 30 (some 130) (by kernel_rfl) (by kernel_rfl) (by kernel_rfl) (by kernel_rfl) (fun _ _ _ h => h) (by kernel_rfl) (Stage.still (by assumption)) ?_
            try simp only [Act.put, List.setIfInBounds_toArray, List.set_cons_zero, List.set_cons_succ]
            refine takeW 31 (some 131) (v := ?_) rfl (by rfl) (by kernel_rfl) (by kernel_rfl) (by kernel_rfl) (fun _ _ _ h => h) (by kernel_rfl) (by kernel_rfl) ?_ (Stage.still (by assumption)) ?_
            rotate_left
            · (intro w; go_simp; try (with_reducible rfl))
            try simp only [Act.put, List.setIfInBounds_toArray, List.set_cons_zero, List.set_cons_succ]
            refine takeW 32 (some 132) (v := ?_) rfl (by rfl) (by kernel_rfl) (by kernel_rfl) (by kernel_rfl) (fun _ _ _ h => h) (by kernel_rfl) (by kernel_rfl) ?_ (Stage.still (by assumption)) ?_
            rotate_left
            · (intro w; go_simp; try (with_reducible rfl))
            try simp only [Act.put, List.setIfInBounds_toArray, List.set_cons_zero, List.set_cons_succ]
            refine doneT (by kernel_rfl) ?_ _
            go_wp2_with fail
            go_roundw
            case rel => exact ⟨j + 1, by omega, by omega, by go_num, X3, voteV V who 4 51 false, B0, BN, HI3.out.mono (by omega), ((H5.out.tail.tail.front 2 rfl).front 2 rfl)⟩
            case measure => simp [intOf]; omega
          · have hbn : BN = addTo B1 who := by rw [HBN.out]; rfl
            by_cases hq : 2 * f + 1 ≤ ((addTo B1 who).length : Int)
            · have hyf : yes = true := by rw [HYY.out]; simp [hq]
              subst hyf
              have hd : decide (2 * f + 1 ≤ (BN.length : Int)) = true := by rw [hbn]; simpa using hq
              have hLB : L = rising BN := by rw [HLL.out, if_pos rfl, hbn]
              have hLn : L.length = BN.length := by rw [hLB, rising_length]
              have hne : ((L.length : Int) != (BN.length : Int)) = false := by rw [hLn]; simp
              have HQC : Hid (qcB X3 (cfgF f) 4 51 L = true) := by
                show _ = _
                rw [hLB]
                exact HI3.out.2.2.2.2.2.qc HF.out (by rw [hbn]; exact hq)
              have HLN : Hid (L.length ≤ 20000000) := by
                show _ ≤ _
                have h := HI3.out.2.2.2.2.2.2.2
                omega
              have hvw : vw = 4 := by rw [HVW.out]; rfl
              have hvb : vb = 51 := by rw [HVB.out]; rfl
              subst hvw hvb
              clear hLB hLn hq hbn
              refine wp_region_stage (fun x : World => ∃ m', Sys x m' (blk nq (.cells #[.int .i64 4, .int .i64 51, .slice va L.length vc] 28 (0, 0)) :: own 3 1 (.slice va L.length vc) L.length (L.map (Value.int .i64)) :: tallyT q p (cfgF f) (voteV V who 4 51 true) [] :: mapT intKey b0 (ones B0) :: mapT intKey b1 (ones BN) :: blk na (.cells #[.map (some b0), .map (some b1)] 76 (0, 0)) :: blk nc (.cells #[.int .i64 f, .int .i64 (3 * f + 1), .int .i64 0, .int .i64 0, .int .i64 0, .int .i64 0, .int .i64 0, .int .i64 0] 49 (0, 0)) :: base W :: [])) [] (by kernel_rfl) ?_
              refine takeW 0 (some 100) (v := ?_) rfl (by rfl) (by kernel_rfl) (by kernel_rfl) (by kernel_rfl) (fun _ _ _ h => h) (by kernel_rfl) (by kernel_rfl) ?_ (Stage.still (by assumption)) ?_
              rotate_left
              · (intro w; go_simp; try (with_reducible rfl))
              try simp only [Act.put, List.setIfInBounds_toArray, List.set_cons_zero, List.set_cons_succ]
              refine takeW 1 (some 101) (v := ?_) rfl (by rfl) (by kernel_rfl) (by kernel_rfl) (by kernel_rfl) (fun _ _ _ h => h) (by kernel_rfl) (by kernel_rfl) ?_ (Stage.still (by assumption)) ?_
              rotate_left
              · (intro w; go_simp; try (with_reducible rfl))
              try simp only [Act.put, List.setIfInBounds_toArray, List.set_cons_zero, List.set_cons_succ]
              refine takeW 2 (some 102) (v := ?_) rfl (by rfl) (by kernel_rfl) (by kernel_rfl) (by kernel_rfl) (fun _ _ _ h => h) (by kernel_rfl) (by kernel_rfl) ?_ (Stage.still (by assumption)) ?_
              rotate_left
              · (intro w; go_simp; try (with_reducible rfl))
              try simp only [Act.put, List.setIfInBounds_toArray, List.set_cons_zero, List.set_cons_succ]
              refine takeW 3 (some 103) (v := ?_) rfl (by rfl) (by kernel_rfl) (by kernel_rfl) (by kernel_rfl) (fun _ _ _ h => h) (by kernel_rfl) (by kernel_rfl) ?_ (Stage.still (by assumption)) ?_
              rotate_left
              · (intro w; go_simp; try (with_reducible rfl))
              try simp only [Act.put, List.setIfInBounds_toArray, List.set_cons_zero, List.set_cons_succ]
              refine takeW 4 (some 104) (v := ?_) rfl (by rfl) (by kernel_rfl) (by kernel_rfl) (by kernel_rfl) (fun _ _ _ h => h) (by kernel_rfl) (by kernel_rfl) ?_ (Stage.still (by assumption)) ?_
              rotate_left
              · (intro w; go_simp; try (with_reducible rfl))
              try simp only [Act.put, List.setIfInBounds_toArray, List.set_cons_zero, List.set_cons_succ]
              refine takeS 5 (some 105) (v := ?_) rfl (by rfl) (by kernel_rfl) (by kernel_rfl) (by kernel_rfl) (fun _ _ _ h => h) (by kernel_rfl) (by kernel_rfl) (by kernel_rfl) ?_ (by assumption) ?_
              rotate_left
              · (intro w hSw; obtain ⟨m', hSw⟩ := hSw; have c : w.cell? ⟨na, 1, none⟩ = some (.map (some b1)) := cell_of_blk (Sys.memBlk (n := na) (o := .cells #[.map (some b0), .map (some b1)] 76 (0, 0)) hSw (by simp)) 1; clear hSw; go_simp; try (with_reducible rfl))
              try simp only [Act.put, List.setIfInBounds_toArray, List.set_cons_zero, List.set_cons_succ]
              refine takeS 6 (some 106) (v := ?_) rfl (by rfl) (by kernel_rfl) (by kernel_rfl) (by kernel_rfl) (fun _ _ _ h => h) (by kernel_rfl) (by kernel_rfl) (by kernel_rfl) ?_ (by assumption) ?_
              rotate_left
              · (intro w hSw; obtain ⟨m', hSw⟩ := hSw; have e := (Sys.memMap (K := intKey) (b := b1) (x := ones BN) hSw (by simp)).len (P := Try.prog) (ty := 3) Try.underlying75; rw [show (ones BN).length = BN.length by simp [ones]] at e; clear hSw; go_simp; try (with_reducible rfl))
              try simp only [Act.put, List.setIfInBounds_toArray, List.set_cons_zero, List.set_cons_succ]
              refine takeW 7 (some 107) (v := ?_) rfl (by rfl) (by kernel_rfl) (by kernel_rfl) (by kernel_rfl) (fun _ _ _ h => h) (by kernel_rfl) (by kernel_rfl) ?_ (Stage.still (by assumption)) ?_
              rotate_left
              · (intro w; go_simp; try (with_reducible rfl))
              try simp only [Act.put, List.setIfInBounds_toArray, List.set_cons_zero, List.set_cons_succ]
              refine takeW 8 (some 108) (v := ?_) rfl (by rfl) (by kernel_rfl) (by kernel_rfl) (by kernel_rfl) (fun _ _ _ h => h) (by kernel_rfl) (by kernel_rfl) ?_ (Stage.still (by assumption)) ?_
              rotate_left
              · (intro w; go_simp; try (with_reducible rfl))
              try simp only [Act.put, List.setIfInBounds_toArray, List.set_cons_zero, List.set_cons_succ]
              refine takeW 9 (some 109) (v := ?_) rfl (by rfl) (by kernel_rfl) (by kernel_rfl) (by kernel_rfl) (fun _ _ _ h => h) (by kernel_rfl) (by kernel_rfl) ?_ (Stage.still (by assumption)) ?_
              rotate_left
              · (intro w; go_simp; try (with_reducible rfl))
              try simp only [Act.put, List.setIfInBounds_toArray, List.set_cons_zero, List.set_cons_succ]
              refine takeW 10 (some 110) (v := ?_) rfl (by rfl) (by kernel_rfl) (by kernel_rfl) (by kernel_rfl) (fun _ _ _ h => h) (by kernel_rfl) (by kernel_rfl) ?_ (Stage.still (by assumption)) ?_
              rotate_left
              · (intro w; go_simp; try (with_reducible rfl))
              try simp only [Act.put, List.setIfInBounds_toArray, List.set_cons_zero, List.set_cons_succ]
              refine takeW 11 (some 111) (v := ?_) rfl (by rfl) (by kernel_rfl) (by kernel_rfl) (by kernel_rfl) (fun _ _ _ h => h) (by kernel_rfl) (by kernel_rfl) ?_ (Stage.still (by assumption)) ?_
              rotate_left
              · (intro w; go_simp; try (with_reducible rfl))
              try simp only [Act.put, List.setIfInBounds_toArray, List.set_cons_zero, List.set_cons_succ]
              refine takeW 12 (some 112) (v := ?_) rfl (by rfl) (by kernel_rfl) (by kernel_rfl) (by kernel_rfl) (fun _ _ _ h => h) (by kernel_rfl) (by kernel_rfl) ?_ (Stage.still (by assumption)) ?_
              rotate_left
              · (intro w; go_simp; try (with_reducible rfl))
              try simp only [Act.put, List.setIfInBounds_toArray, List.set_cons_zero, List.set_cons_succ]
              refine takeW 13 (some 113) (v := ?_) rfl (by rfl) (by kernel_rfl) (by kernel_rfl) (by kernel_rfl) (fun _ _ _ h => h) (by kernel_rfl) (by kernel_rfl) ?_ (Stage.still (by assumption)) ?_
              rotate_left
              · (intro w; go_simp; try (with_reducible rfl))
              try simp only [Act.put, List.setIfInBounds_toArray, List.set_cons_zero, List.set_cons_succ]
              refine takeW 14 (some 114) (v := ?_) rfl (by rfl) (by kernel_rfl) (by kernel_rfl) (by kernel_rfl) (fun _ _ _ h => h) (by kernel_rfl) (by kernel_rfl) ?_ (Stage.still (by assumption)) ?_
              rotate_left
              · (intro w; go_simp; try (with_reducible rfl))
              try simp only [Act.put, List.setIfInBounds_toArray, List.set_cons_zero, List.set_cons_succ]
              refine takeW 15 (some 115) (v := ?_) rfl (by rfl) (by kernel_rfl) (by kernel_rfl) (by kernel_rfl) (fun _ _ _ h => h) (by kernel_rfl) (by kernel_rfl) ?_ (Stage.still (by assumption)) ?_
              rotate_left
              · (intro w; go_simp; try (with_reducible rfl))
              try simp only [Act.put, List.setIfInBounds_toArray, List.set_cons_zero, List.set_cons_succ]
              refine takeW 16 (some 116) (v := ?_) rfl (by rfl) (by kernel_rfl) (by kernel_rfl) (by kernel_rfl) (fun _ _ _ h => h) (by kernel_rfl) (by kernel_rfl) ?_ (Stage.still (by assumption)) ?_
              rotate_left
              · (intro w; go_simp; try (with_reducible rfl))
              try simp only [Act.put, List.setIfInBounds_toArray, List.set_cons_zero, List.set_cons_succ]
              refine takeS 17 (some 117) (v := ?_) rfl (by rfl) (by kernel_rfl) (by kernel_rfl) (by kernel_rfl) (fun _ _ _ h => h) (by kernel_rfl) (by kernel_rfl) (by kernel_rfl) ?_ (by assumption) ?_
              rotate_left
              · (intro w hSw; obtain ⟨m', hSw⟩ := hSw; have c : w.cell? ⟨nq, 2, none⟩ = some (.slice va L.length vc) := cell_of_blk (Sys.memBlk (n := nq) (o := .cells #[.int .i64 4, .int .i64 51, .slice va L.length vc] 28 (0, 0)) hSw (by simp)) 2; clear hSw; go_simp; try (with_reducible rfl))
              try simp only [Act.put, List.setIfInBounds_toArray, List.set_cons_zero, List.set_cons_succ]
              refine takeW 18 (some 118) (v := ?_) rfl (by rfl) (by kernel_rfl) (by kernel_rfl) (by kernel_rfl) (fun _ _ _ h => h) (by kernel_rfl) (by kernel_rfl) ?_ (Stage.still (by assumption)) ?_
              rotate_left
              · (intro w; go_simp; try (with_reducible rfl))
              try simp only [Act.put, List.setIfInBounds_toArray, List.set_cons_zero, List.set_cons_succ]
              refine takeW 19 (some 119) (v := ?_) rfl (by rfl) (by kernel_rfl) (by kernel_rfl) (by kernel_rfl) (fun _ _ _ h => h) (by kernel_rfl) (by kernel_rfl) ?_ (Stage.still (by assumption)) ?_
              rotate_left
              · (intro w; go_simp; try (with_reducible rfl))
              try simp only [Act.put, List.setIfInBounds_toArray, List.set_cons_zero, List.set_cons_succ]
              refine takeW 20 (some 120) (v := ?_) rfl (by rfl) (by kernel_rfl) (by kernel_rfl) (by kernel_rfl) (fun _ _ _ h => h) (by kernel_rfl) (by kernel_rfl) ?_ (Stage.still (by assumption)) ?_
              rotate_left
              · (intro w; go_simp; try (with_reducible rfl))
              try simp only [Act.put, List.setIfInBounds_toArray, List.set_cons_zero, List.set_cons_succ]
              refine takeS 21 (some 121) (v := ?_) rfl (by rfl) (by kernel_rfl) (by kernel_rfl) (by kernel_rfl) (fun _ _ _ h => h) (by kernel_rfl) (by kernel_rfl) (by kernel_rfl) ?_ (by assumption) ?_
              rotate_left
              · (intro w hSw; obtain ⟨m', hSw⟩ := hSw; have c : w.cell? ⟨na, 1, none⟩ = some (.map (some b1)) := cell_of_blk (Sys.memBlk (n := na) (o := .cells #[.map (some b0), .map (some b1)] 76 (0, 0)) hSw (by simp)) 1; clear hSw; go_simp; try (with_reducible rfl))
              try simp only [Act.put, List.setIfInBounds_toArray, List.set_cons_zero, List.set_cons_succ]
              refine takeS 22 (some 122) (v := ?_) rfl (by rfl) (by kernel_rfl) (by kernel_rfl) (by kernel_rfl) (fun _ _ _ h => h) (by kernel_rfl) (by kernel_rfl) (by kernel_rfl) ?_ (by assumption) ?_
              rotate_left
              · (intro w hSw; obtain ⟨m', hSw⟩ := hSw; have e := (Sys.memMap (K := intKey) (b := b1) (x := ones BN) hSw (by simp)).len (P := Try.prog) (ty := 3) Try.underlying75; rw [show (ones BN).length = BN.length by simp [ones]] at e; clear hSw; go_simp; try (with_reducible rfl))
              try simp only [Act.put, List.setIfInBounds_toArray, List.set_cons_zero, List.set_cons_succ]
              refine takeW 23 (some 123) (v := ?_) rfl (by rfl) (by kernel_rfl) (by kernel_rfl) (by kernel_rfl) (fun _ _ _ h => h) (by kernel_rfl) (by kernel_rfl) ?_ (Stage.still (by assumption)) ?_
              rotate_left
              · (intro w; go_simp; try (with_reducible rfl))
              try simp only [Act.put, List.setIfInBounds_toArray, List.set_cons_zero, List.set_cons_succ]
              refine takeW 24 (some 124) (v := ?_) rfl (by rfl) (by kernel_rfl) (by kernel_rfl) (by kernel_rfl) (fun _ _ _ h => h) (by kernel_rfl) (by kernel_rfl) ?_ (Stage.still (by assumption)) ?_
              rotate_left
              · (intro w; go_simp; try (with_reducible rfl))
              try simp only [Act.put, List.setIfInBounds_toArray, List.set_cons_zero, List.set_cons_succ]
              refine takeW 25 (some 125) (v := ?_) rfl (by rfl) (by kernel_rfl) (by kernel_rfl) (by kernel_rfl) (fun _ _ _ h => h) (by kernel_rfl) (by kernel_rfl) ?_ (Stage.still (by assumption)) ?_
              rotate_left
              · (intro w; go_simp; try (with_reducible rfl))
              try simp only [Act.put, List.setIfInBounds_toArray, List.set_cons_zero, List.set_cons_succ]
              refine takeS 26 (some 126) (v := ?_) rfl (by rfl) (by kernel_rfl) (by kernel_rfl) (by kernel_rfl) (fun _ _ _ h => h) (by kernel_rfl) (by kernel_rfl) (by kernel_rfl) ?_ (by assumption) ?_
              rotate_left
              · (intro w hSw; obtain ⟨m', hSw⟩ := hSw; have hb := Sys.memBlk (n := nc) (o := .cells #[.int .i64 f, .int .i64 (3 * f + 1), .int .i64 0, .int .i64 0, .int .i64 0, .int .i64 0, .int .i64 0, .int .i64 0] 49 (0, 0)) hSw (by simp); have c0 : w.cell? ⟨nc, 0, none⟩ = some (.int .i64 f) := cell_of_blk hb 0; have c1 : w.cell? ⟨nc, 1, none⟩ = some (.int .i64 (3 * f + 1)) := cell_of_blk hb 1; have c2 : w.cell? ⟨nc, 2, none⟩ = some (.int .i64 0) := cell_of_blk hb 2; have c3 : w.cell? ⟨nc, 3, none⟩ = some (.int .i64 0) := cell_of_blk hb 3; have c4 : w.cell? ⟨nc, 4, none⟩ = some (.int .i64 0) := cell_of_blk hb 4; have c5 : w.cell? ⟨nc, 5, none⟩ = some (.int .i64 0) := cell_of_blk hb 5; have c6 : w.cell? ⟨nc, 6, none⟩ = some (.int .i64 0) := cell_of_blk hb 6; have c7 : w.cell? ⟨nc, 7, none⟩ = some (.int .i64 0) := cell_of_blk hb 7; clear hb; clear hSw; go_simp; try (with_reducible rfl))
              try simp only [Act.put, List.setIfInBounds_toArray, List.set_cons_zero, List.set_cons_succ]
              refine takeS 27 (some 127) (v := ?_) rfl (by rfl) (by kernel_rfl) (by kernel_rfl) (by kernel_rfl) (fun _ _ _ h => h) (by kernel_rfl) (by kernel_rfl) (by kernel_rfl) ?_ (by assumption) ?_
              rotate_left
              · (intro w hSw; obtain ⟨m', hSw⟩ := hSw; have hb := Sys.memBlk (n := nq) (o := .cells #[.int .i64 4, .int .i64 51, .slice va L.length vc] 28 (0, 0)) hSw (by simp); have c0 : w.cell? ⟨nq, 0, none⟩ = some (.int .i64 4) := cell_of_blk hb 0; have c1 : w.cell? ⟨nq, 1, none⟩ = some (.int .i64 51) := cell_of_blk hb 1; have c2 : w.cell? ⟨nq, 2, none⟩ = some (.slice va L.length vc) := cell_of_blk hb 2; clear hb; clear hSw; go_simp; try (with_reducible rfl))
              try simp only [Act.put, List.setIfInBounds_toArray, List.set_cons_zero, List.set_cons_succ]
              refine oneT 28 (by kernel_rfl) rfl (fun K hK => ?_)
              go_simp
              go_at_call 33
              have HQ := Lib.hid (cert_qcok (cfgF f) (cfgF_good HF.out) 4 51 L va vc (fun x m' hs => own_ints_at (Sys.memOwn (E := 3) (size := 1) (v := .slice va L.length vc) (n := L.length) (xs := L.map (Value.int .i64)) hs (by simp)) rfl) HLN.out H5.out (upd_same _ _ _) (by have := HI3.out.2.1; omega))
              rw [HQC.out] at HQ
              refine HQ.out.mono ?_
              rintro e wF ⟨rfl, hF⟩
              rw [upd_upd] at hF
              have H6 := Lib.hid hF
              have hS1 : ∃ m', Sys wF m' (blk nq (.cells #[.int .i64 4, .int .i64 51, .slice va L.length vc] 28 (0, 0)) :: own 3 1 (.slice va L.length vc) L.length (L.map (Value.int .i64)) :: tallyT q p (cfgF f) (voteV V who 4 51 true) [] :: mapT intKey b0 (ones B0) :: mapT intKey b1 (ones BN) :: blk na (.cells #[.map (some b0), .map (some b1)] 76 (0, 0)) :: blk nc (.cells #[.int .i64 f, .int .i64 (3 * f + 1), .int .i64 0, .int .i64 0, .int .i64 0, .int .i64 0, .int .i64 0, .int .i64 0] 49 (0, 0)) :: base W :: []) := ⟨_, hF⟩
              clear hF HQ
              go_wp2_with fail
              refine hK.out _ _ (Stage.still ?_) (fun hSt => ?_)
              · (try dsimp only); exact hS1
              clear hK K hSt
              try simp only [Act.put, List.setIfInBounds_toArray, List.set_cons_zero, List.set_cons_succ]
              refine takeW 29 (some 129) (v := ?_) rfl (by rfl) (by kernel_rfl) (by kernel_rfl) (by kernel_rfl) (fun _ _ _ h => h) (by kernel_rfl) (by kernel_rfl) ?_ (Stage.still (by assumption)) ?_
              rotate_left
              · (intro w; go_simp; try (with_reducible rfl))
              try simp only [Act.put, List.setIfInBounds_toArray, List.set_cons_zero, List.set_cons_succ]
              refine takeW 30 (some 130) (v := ?_) rfl (by rfl) (by kernel_rfl) (by kernel_rfl) (by kernel_rfl) (fun _ _ _ h => h) (by kernel_rfl) (by kernel_rfl) ?_ (Stage.still (by assumption)) ?_
              rotate_left
              · (intro w; go_simp; try (with_reducible rfl))
              try simp only [Act.put, List.setIfInBounds_toArray, List.set_cons_zero, List.set_cons_succ]
              refine takeW 31 (some 131) (v := ?_) rfl (by rfl) (by kernel_rfl) (by kernel_rfl) (by kernel_rfl) (fun _ _ _ h => h) (by kernel_rfl) (by kernel_rfl) ?_ (Stage.still (by assumption)) ?_
              rotate_left
              · (intro w; go_simp; try (with_reducible rfl))
              try simp only [Act.put, List.setIfInBounds_toArray, List.set_cons_zero, List.set_cons_succ]
              refine takeW 32 (some 132) (v := ?_) rfl (by rfl) (by kernel_rfl) (by kernel_rfl) (by kernel_rfl) (fun _ _ _ h => h) (by kernel_rfl) (by kernel_rfl) ?_ (Stage.still (by assumption)) ?_
              rotate_left
              · (intro w; go_simp; try (with_reducible rfl))
              try simp only [Act.put, List.setIfInBounds_toArray, List.set_cons_zero, List.set_cons_succ]
              refine doneT (by kernel_rfl) ?_ _
              go_wp2_with fail
              go_roundw
              case rel => exact ⟨j + 1, by omega, by omega, by go_num, qcX X3 4 51, voteV V who 4 51 true, B0, BN, (HI3.out.ext (qcX_ext X3 4 51)).mono (by omega), ((H6.out.tail.tail.front 2 rfl).front 2 rfl)⟩
              case measure => simp [intOf]; omega
            · have hyf : yes = false := by rw [HYY.out]; simp [hq]
              subst hyf
              have hd : decide (2 * f + 1 ≤ (BN.length : Int)) = false := by rw [hbn]; simpa using hq
              clear hq hbn
              refine wp_region_stage (fun x : World => ∃ m', Sys x m' (blk nq (.cells #[.int .i64 vw, .int .i64 vb, .slice va L.length vc] 28 (0, 0)) :: own 3 1 (.slice va L.length vc) L.length (L.map (Value.int .i64)) :: tallyT q p (cfgF f) (voteV V who 4 51 true) [] :: mapT intKey b0 (ones B0) :: mapT intKey b1 (ones BN) :: blk na (.cells #[.map (some b0), .map (some b1)] 76 (0, 0)) :: blk nc (.cells #[.int .i64 f, .int .i64 (3 * f + 1), .int .i64 0, .int .i64 0, .int .i64 0, .int .i64 0, .int .i64 0, .int .i64 0] 49 (0, 0)) :: base W :: [])) [] (by kernel_rfl) ?_
              refine takeW 0 (some 100) (v := ?_) rfl (by rfl) (by kernel_rfl) (by kernel_rfl) (by kernel_rfl) (fun _ _ _ h => h) (by kernel_rfl) (by kernel_rfl) ?_ (Stage.still (by assumption)) ?_
              rotate_left
              · (intro w; go_simp; try (with_reducible rfl))
              try simp only [Act.put, List.setIfInBounds_toArray, List.set_cons_zero, List.set_cons_succ]
              refine takeW 1 (some 101) (v := ?_) rfl (by rfl) (by kernel_rfl) (by kernel_rfl) (by kernel_rfl) (fun _ _ _ h => h) (by kernel_rfl) (by kernel_rfl) ?_ (Stage.still (by assumption)) ?_
              rotate_left
              · (intro w; go_simp; try (with_reducible rfl))
              try simp only [Act.put, List.setIfInBounds_toArray, List.set_cons_zero, List.set_cons_succ]
              refine takeW 2 (some 102) (v := ?_) rfl (by rfl) (by kernel_rfl) (by kernel_rfl) (by kernel_rfl) (fun _ _ _ h => h) (by kernel_rfl) (by kernel_rfl) ?_ (Stage.still (by assumption)) ?_
              rotate_left
              · (intro w; go_simp; try (with_reducible rfl))
              try simp only [Act.put, List.setIfInBounds_toArray, List.set_cons_zero, List.set_cons_succ]
              refine takeW 3 (some 103) (v := ?_) rfl (by rfl) (by kernel_rfl) (by kernel_rfl) (by kernel_rfl) (fun _ _ _ h => h) (by kernel_rfl) (by kernel_rfl) ?_ (Stage.still (by assumption)) ?_
              rotate_left
              · (intro w; go_simp; try (with_reducible rfl))
              try simp only [Act.put, List.setIfInBounds_toArray, List.set_cons_zero, List.set_cons_succ]
              refine takeW 4 (some 104) (v := ?_) rfl (by rfl) (by kernel_rfl) (by kernel_rfl) (by kernel_rfl) (fun _ _ _ h => h) (by kernel_rfl) (by kernel_rfl) ?_ (Stage.still (by assumption)) ?_
              rotate_left
              · (intro w; go_simp; try (with_reducible rfl))
              try simp only [Act.put, List.setIfInBounds_toArray, List.set_cons_zero, List.set_cons_succ]
              refine takeS 5 (some 105) (v := ?_) rfl (by rfl) (by kernel_rfl) (by kernel_rfl) (by kernel_rfl) (fun _ _ _ h => h) (by kernel_rfl) (by kernel_rfl) (by kernel_rfl) ?_ (by assumption) ?_
              rotate_left
              · (intro w hSw; obtain ⟨m', hSw⟩ := hSw; have c : w.cell? ⟨na, 1, none⟩ = some (.map (some b1)) := cell_of_blk (Sys.memBlk (n := na) (o := .cells #[.map (some b0), .map (some b1)] 76 (0, 0)) hSw (by simp)) 1; clear hSw; go_simp; try (with_reducible rfl))
              try simp only [Act.put, List.setIfInBounds_toArray, List.set_cons_zero, List.set_cons_succ]
              refine takeS 6 (some 106) (v := ?_) rfl (by rfl) (by kernel_rfl) (by kernel_rfl) (by kernel_rfl) (fun _ _ _ h => h) (by kernel_rfl) (by kernel_rfl) (by kernel_rfl) ?_ (by assumption) ?_
              rotate_left
              · (intro w hSw; obtain ⟨m', hSw⟩ := hSw; have e := (Sys.memMap (K := intKey) (b := b1) (x := ones BN) hSw (by simp)).len (P := Try.prog) (ty := 3) Try.underlying75; rw [show (ones BN).length = BN.length by simp [ones]] at e; clear hSw; go_simp; try (with_reducible rfl))
              try simp only [Act.put, List.setIfInBounds_toArray, List.set_cons_zero, List.set_cons_succ]
              refine takeW 7 (some 107) (v := ?_) rfl (by rfl) (by kernel_rfl) (by kernel_rfl) (by kernel_rfl) (fun _ _ _ h => h) (by kernel_rfl) (by kernel_rfl) ?_ (Stage.still (by assumption)) ?_
              rotate_left
              · (intro w; go_simp; try (with_reducible rfl))
              try simp only [Act.put, List.setIfInBounds_toArray, List.set_cons_zero, List.set_cons_succ]
              refine takeW 8 (some 108) (v := ?_) rfl (by rfl) (by kernel_rfl) (by kernel_rfl) (by kernel_rfl) (fun _ _ _ h => h) (by kernel_rfl) (by kernel_rfl) ?_ (Stage.still (by assumption)) ?_
              rotate_left
              · (intro w; go_simp; try (with_reducible rfl))
              try simp only [Act.put, List.setIfInBounds_toArray, List.set_cons_zero, List.set_cons_succ]
              refine takeW 9 (some 109) (v := ?_) rfl (by rfl) (by kernel_rfl) (by kernel_rfl) (by kernel_rfl) (fun _ _ _ h => h) (by kernel_rfl) (by kernel_rfl) ?_ (Stage.still (by assumption)) ?_
              rotate_left
              · (intro w; go_simp; try (with_reducible rfl))
              try simp only [Act.put, List.setIfInBounds_toArray, List.set_cons_zero, List.set_cons_succ]
              refine takeW 10 (some 110) (v := ?_) rfl (by rfl) (by kernel_rfl) (by kernel_rfl) (by kernel_rfl) (fun _ _ _ h => h) (by kernel_rfl) (by kernel_rfl) ?_ (Stage.still (by assumption)) ?_
              rotate_left
              · (intro w; go_simp; try (with_reducible rfl))
              try simp only [Act.put, List.setIfInBounds_toArray, List.set_cons_zero, List.set_cons_succ]
              refine takeW 11 (some 111) (v := ?_) rfl (by rfl) (by kernel_rfl) (by kernel_rfl) (by kernel_rfl) (fun _ _ _ h => h) (by kernel_rfl) (by kernel_rfl) ?_ (Stage.still (by assumption)) ?_
              rotate_left
              · (intro w; go_simp; try (with_reducible rfl))
              try simp only [Act.put, List.setIfInBounds_toArray, List.set_cons_zero, List.set_cons_succ]
              refine takeW 12 (some 112) (v := ?_) rfl (by rfl) (by kernel_rfl) (by kernel_rfl) (by kernel_rfl) (fun _ _ _ h => h) (by kernel_rfl) (by kernel_rfl) ?_ (Stage.still (by assumption)) ?_
              rotate_left
              · (intro w; go_simp; try (with_reducible rfl))
              try simp only [Act.put, List.setIfInBounds_toArray, List.set_cons_zero, List.set_cons_succ]
              refine takeW 13 (some 113) (v := ?_) rfl (by rfl) (by kernel_rfl) (by kernel_rfl) (by kernel_rfl) (fun _ _ _ h => h) (by kernel_rfl) (by kernel_rfl) ?_ (Stage.still (by assumption)) ?_
              rotate_left
              · (intro w; go_simp; try (with_reducible rfl))
              try simp only [Act.put, List.setIfInBounds_toArray, List.set_cons_zero, List.set_cons_succ]
              refine takeW 14 (some 114) (v := ?_) rfl (by rfl) (by kernel_rfl) (by kernel_rfl) (by kernel_rfl) (fun _ _ _ h => h) (by kernel_rfl) (by kernel_rfl) ?_ (Stage.still (by assumption)) ?_
              rotate_left
              · (intro w; go_simp; try (with_reducible rfl))
              try simp only [Act.put, List.setIfInBounds_toArray, List.set_cons_zero, List.set_cons_succ]
              refine takeW 15 (some 115) (v := ?_) rfl (by rfl) (by kernel_rfl) (by kernel_rfl) (by kernel_rfl) (fun _ _ _ h => h) (by kernel_rfl) (by kernel_rfl) ?_ (Stage.still (by assumption)) ?_
              rotate_left
              · (intro w; go_simp; try (with_reducible rfl))
              try simp only [Act.put, List.setIfInBounds_toArray, List.set_cons_zero, List.set_cons_succ]
              refine skipT 16 (some 116) (by kernel_rfl) (by kernel_rfl) (by kernel_rfl) (by kernel_rfl) (fun _ _ _ h => h) (by kernel_rfl) (Stage.still (by assumption)) ?_
              try simp only [Act.put, List.setIfInBounds_toArray, List.set_cons_zero, List.set_cons_succ]
              refine skipT 17 (some 117) (by kernel_rfl) (by kernel_rfl) (by kernel_rfl) (by kernel_rfl) (fun _ _ _ h => h) (by kernel_rfl) (Stage.still (by assumption)) ?_
              try simp only [Act.put, List.setIfInBounds_toArray, List.set_cons_zero, List.set_cons_succ]
              refine skipT 18 (some 118) (by kernel_rfl) (by kernel_rfl) (by kernel_rfl) (by kernel_rfl) (fun _ _ _ h => h) (by kernel_rfl) (Stage.still (by assumption)) ?_
              try simp only [Act.put, List.setIfInBounds_toArray, List.set_cons_zero, List.set_cons_succ]
              refine skipT 19 (some 119) (by kernel_rfl) (by kernel_rfl) (by kernel_rfl) (by kernel_rfl) (fun _ _ _ h => h) (by kernel_rfl) (Stage.still (by assumption)) ?_
              try simp only [Act.put, List.setIfInBounds_toArray, List.set_cons_zero, List.set_cons_succ]
              refine skipT 20 (some 120) (by kernel_rfl) (by kernel_rfl) (by kernel_rfl) (by kernel_rfl) (fun _ _ _ h => h) (by kernel_rfl) (Stage.still (by assumption)) ?_
              try simp only [Act.put, List.setIfInBounds_toArray, List.set_cons_zero, List.set_cons_succ]
              refine skipT 21 (some 121) (by kernel_rfl) (by kernel_rfl) (by kernel_rfl) (by kernel_rfl) (fun _ _ _ h => h) (by kernel_rfl) (Stage.still (by assumption)) ?_
              try simp only [Act.put, List.setIfInBounds_toArray, List.set_cons_zero, List.set_cons_succ]
              refine skipT 22 (some 122) (by kernel_rfl) (by kernel_rfl) (by kernel_rfl) (by kernel_rfl) (fun _ _ _ h => h) (by kernel_rfl) (Stage.still (by assumption)) ?_
              try simp only [Act.put, List.setIfInBounds_toArray, List.set_cons_zero, List.set_cons_succ]
              refine skipT 23 (some 123) (by kernel_rfl) (by kernel_rfl) (by kernel_rfl) (by kernel_rfl) (fun _ _ _ h => h) (by kernel_rfl) (Stage.still (by assumption)) ?_
              try simp only [Act.put, List.setIfInBounds_toArray, List.set_cons_zero, List.set_cons_succ]
              refine skipT 24 (some 124) (by kernel_rfl) (by kernel_rfl) (by kernel_rfl) (by kernel_rfl) (fun _ _ _ h => h) (by kernel_rfl) (Stage.still (by assumption)) ?_
              try simp only [Act.put, List.setIfInBounds_toArray, List.set_cons_zero, List.set_cons_succ]
              refine skipT 25 (some 125) (by kernel_rfl) (by kernel_rfl) (by kernel_rfl) (by kernel_rfl) (fun _ _ _ h => h) (by kernel_rfl) (Stage.still (by assumption)) ?_
              try simp only [Act.put, List.setIfInBounds_toArray, List.set_cons_zero, List.set_cons_succ]
              refine skipT 26 (some 126) (by kernel_rfl) (by kernel_rfl) (by kernel_rfl) (by kernel_rfl) (fun _ _ _ h => h) (by kernel_rfl) (Stage.still (by assumption)) ?_
              try simp only [Act.put, List.setIfInBounds_toArray, List.set_cons_zero, List.set_cons_succ]
              refine skipT 27 (some 127) (by kernel_rfl) (by kernel_rfl) (by kernel_rfl) (by kernel_rfl) (fun _ _ _ h => h) (by kernel_rfl) (Stage.still (by assumption)) ?_
              try simp only [Act.put, List.setIfInBounds_toArray, List.set_cons_zero, List.set_cons_succ]
              refine skipT 28 (some 128) (by kernel_rfl) (by kernel_rfl) (by kernel_rfl) (by kernel_rfl) (fun _ _ _ h => h) (by kernel_rfl) (Stage.still (by assumption)) ?_
              try simp only [Act.put, List.setIfInBounds_toArray, List.set_cons_zero, List.set_cons_succ]
              refine skipT 29 (some 129) (by kernel_rfl) (by kernel_rfl) (by kernel_rfl) (by kernel_rfl) (fun _ _ _ h => h) (by kernel_rfl) (Stage.still (by assumption)) ?_
              try simp only [Act.put, List.setIfInBounds_toArray, List.set_cons_zero, List.set_cons_succ]
              refine skipT 30 (some 130) (by kernel_rfl) (by kernel_rfl) (by kernel_rfl) (by kernel_rfl) (fun _ _ _ h => h) (by kernel_rfl) (Stage.still (by assumption)) ?_
              try simp only [Act.put, List.setIfInBounds_toArray, List.set_cons_zero, List.set_cons_succ]
              refine takeW 31 (some 131) (v := ?_) rfl (by rfl) (by kernel_rfl) (by kernel_rfl) (by kernel_rfl) (fun _ _ _ h => h) (by kernel_rfl) (by kernel_rfl) ?_ (Stage.still (by assumption)) ?_
              rotate_left
              · (intro w; go_simp; try (with_reducible rfl))
              try simp only [Act.put, List.setIfInBounds_toArray, List.set_cons_zero, List.set_cons_succ]
              refine takeW 32 (some 132) (v := ?_) rfl (by rfl) (by kernel_rfl) (by kernel_rfl) (by kernel_rfl) (fun _ _ _ h => h) (by kernel_rfl) (by kernel_rfl) ?_ (Stage.still (by assumption)) ?_
              rotate_left
              · (intro w; go_simp; try (with_reducible rfl))
              try simp only [Act.put, List.setIfInBounds_toArray, List.set_cons_zero, List.set_cons_succ]
              refine doneT (by kernel_rfl) ?_ _
              go_wp2_with fail
              go_roundw
              case rel => exact ⟨j + 1, by omega, by omega, by go_num, X3, voteV V who 4 51 true, B0, BN, HI3.out.mono (by omega), ((H5.out.tail.tail.front 2 rfl).front 2 rfl)⟩
              case measure => simp [intOf]; omega
      · have hj60 : ¬ (j : Int) < 60 := by omega
        clear hR
        go_wp2_with fail
        refine (tall_awake wr).mono ?_
        rintro e wz ⟨rfl, hB⟩
        have HZ := Lib.hid (HR.out.below hB)
        clear hB
        go_wp2_with fail
        go_ret
        exact ⟨rfl, Sys.memBase (W := W) HZ.out (by simp)⟩
    · have hjl : ¬ (j : Int) < (len1 : Int) := by omega
      clear hR
      go_wp2_with fail
      refine (tall_awake wr).mono ?_
      rintro e wz ⟨rfl, hB⟩
      have HZ := Lib.hid (HR.out.below hB)
      clear hB
      go_wp2_with fail
      go_ret
      exact ⟨rfl, Sys.memBase (W := W) HZ.out (by simp)⟩
end tallOnce
end Go.Proofs.Ytcfhkpjheemkgaa
