/-
  NetwOrder: messages taken one by one from the front come in the order in which they were sent; one that is copied comes once more, behind all. No condition.
-/
import Derived.Test.YtjllejlgclfahaaNetAwake
import Derived.ProofKit
import Derived.OpenShut
import Derived.ChangeOld
namespace Go.Proofs.Ytjllejlgclfahaa.netwOrder
open Go.RowKit Go.MapKept

def rowM (l : List Int) : List (MsgX × List Value) := l.map fun n => (plainM 8 n, plainC 8 n)
theorem rowM_fst (l : List Int) : (rowM l).map (·.1) = l.map (plainM 8) := by simp [rowM]
theorem rowM_snoc (l : List Int) (n : Int) : flatM (rowM (l ++ [n])) = flatM (rowM l) ++ plainC 8 n := by simp [rowM, flatM]
theorem rowM_length (l : List Int) : (rowM l).length = l.length := by simp [rowM]
theorem rowM_19 (l : List Int) : ∀ e ∈ rowM l, e.2.length = 19 := by
  intro e he
  obtain ⟨n, _, rfl⟩ := List.mem_map.1 he
  rfl
/-- The row of messages vl (numbers Lm) and the row of numbers vw, both the law's own, beside the net. -/
structure In (W : World) (p : Nat) (F : Nat → Prop) (Wn Lm : List Int) (vl vw : Value) (x : World) : Prop where
  below : Below W.heap.size W x
  net : NetV x p F (Wn.map (plainM 8))
  geF : ∀ k, F k → W.heap.size ≤ k
  ol : Own 51 19 x vl Lm.length (flatM (rowM Lm))
  ow : Own 3 1 x vw (Wn.length + Lm.length) ((Wn ++ Lm).map (Value.int .i64))
  nl : ∀ k, vl.ownBlock = some k → ¬ F k ∧ W.heap.size ≤ k ∧ vw.ownBlock ≠ some k
  nw : ∀ k, vw.ownBlock = some k → ¬ F k ∧ W.heap.size ≤ k
theorem In.step {W : World} {p : Nat} {F : Nat → Prop} {Wn Lm : List Int} {vl vw vl' vw' : Value} {x x1 x2 : World} {q : Int} (h : In W p F Wn Lm vl vw x)
    (ho1 : Own 51 19 x1 vl' (Lm.length + 1) (flatM (rowM Lm) ++ plainC 8 q)) (hc1 : Chg (fun k => vl.ownBlock = some k) x x1) (hb1 : vl'.ownBlock = vl.ownBlock ∨ ∃ k, vl'.ownBlock = some k ∧ x.heap.size ≤ k)
    (ho2 : Own 3 1 x2 vw' (Wn.length + Lm.length + 1) ((Wn ++ Lm).map (Value.int .i64) ++ [.int .i64 q])) (hc2 : Chg (fun k => vw.ownBlock = some k) x1 x2) (hb2 : vw'.ownBlock = vw.ownBlock ∨ ∃ k, vw'.ownBlock = some k ∧ x1.heap.size ≤ k) :
    In W p F Wn (Lm ++ [q]) vl' vw' x2 := by
  have hs := h.below.size
  have hs1 := hc1.size
  have hs2 := hc2.size
  have hlF := h.net.lt
  have hl' : ∀ k, vl'.ownBlock = some k → ¬ F k ∧ W.heap.size ≤ k ∧ vw.ownBlock ≠ some k := fun k hk => by
    rcases hb1 with hb | ⟨k', hk', hle⟩
    · exact h.nl k (hb ▸ hk)
    · rw [hk'] at hk; cases hk
      exact ⟨fun hF => by have := hlF _ hF; omega, by omega, fun e => by have := h.ow.lt e; omega⟩
  have hw' : ∀ k, vw'.ownBlock = some k → ¬ F k ∧ W.heap.size ≤ k ∧ vl'.ownBlock ≠ some k := fun k hk => by
    rcases hb2 with hb | ⟨k', hk', hle⟩
    · exact ⟨(h.nw k (hb ▸ hk)).1, (h.nw k (hb ▸ hk)).2, fun e => (hl' k e).2.2 (hb ▸ hk)⟩
    · rw [hk'] at hk; cases hk
      exact ⟨fun hF => by have := hlF _ hF; omega, by omega, fun e => by have := ho1.lt e; omega⟩
  refine ⟨h.below.trans ((hc1.below hs (fun k hk => (h.nl k hk).2.1)).trans (hc2.below (by omega) (fun k hk => (h.nw k hk).2))), (h.net.chg hc1 (fun k hk e => (h.nl k e).1 hk)).chg hc2 (fun k hk e => (h.nw k e).1 hk), h.geF, ?_, ?_, fun k hk => ⟨(hl' k hk).1, (hl' k hk).2.1, fun e => (hw' k e).2.2 hk⟩, fun k hk => ⟨(hw' k hk).1, (hw' k hk).2.1⟩⟩
  · rw [rowM_snoc, List.length_append, List.length_singleton]
    exact ho1.chg hc2 (fun k hk e => (hl' k hk).2.2 e)
  · rw [← List.append_assoc, List.length_append, List.length_singleton, List.map_append, ← Nat.add_assoc]
    exact ho2
theorem rowM_in {S : Nat → Prop} {w : World} {v : Value} {Lm : List Int} (h : Own 51 19 w v Lm.length (flatM (rowM Lm))) (hn : Lm.length ≤ 1000000) (hs : ∀ k, v.ownBlock = some k → S k) : MsgsIn S w v (rowM Lm) := by
  refine ⟨by rw [rowM_length]; exact h.sliceIn hn hs, fun e he => ?_⟩
  obtain ⟨n, _, rfl⟩ := List.mem_map.1 he
  exact plainV _ _ _ _

/-- Between the rounds: the net has what is wanted. -/
structure Out (W : World) (p : Nat) (F : Nat → Prop) (Wn : List Int) (L : List MsgX) (vw : Value) (x : World) : Prop where
  below : Below W.heap.size W x
  net : NetV x p F L
  geF : ∀ k, F k → W.heap.size ≤ k
  ow : Own 3 1 x vw Wn.length (Wn.map (Value.int .i64))
  nw : ∀ k, vw.ownBlock = some k → ¬ F k ∧ W.heap.size ≤ k
theorem Out.chg0 {W : World} {p : Nat} {F : Nat → Prop} {Wn : List Int} {L : List MsgX} {vw : Value} {x y : World} (h : Out W p F Wn L vw x) (hc : Chg none_ x y) : Out W p F Wn L vw y :=
  ⟨h.below.trans (hc.below h.below.size (fun _ e => e.elim)), h.net.chg0 hc, h.geF, h.ow.chg hc (fun _ _ e => e), h.nw⟩
theorem Out.to {W : World} {p : Nat} {F F' : Nat → Prop} {Wn : List Int} {L L' : List MsgX} {vw : Value} {x y : World} (h : Out W p F Wn L vw x) (hn : NetV y p F' L') (hF : ∀ k, F' k → F k ∨ x.heap.size ≤ k) (hc : Chg F x y) : Out W p F' Wn L' vw y := by
  have hs := h.below.size
  refine ⟨h.below.trans (hc.below hs h.geF), hn, fun k hk => ?_, h.ow.chg hc (fun k hk e => (h.nw k hk).1 e), fun k hk => ⟨fun e => ?_, (h.nw k hk).2⟩⟩
  · rcases hF k hk with h1 | h1
    · exact h.geF k h1
    · omega
  · rcases hF k e with h1 | h1
    · exact (h.nw k hk).1 h1
    · have := h.ow.lt hk; omega

set_option maxRecDepth 100000 in
set_option maxHeartbeats 8000000 in
theorem walk (W : World) (a0 : Option Addr) (len0 cap0 : Nat) (z0 : List Int) (w0 : IsRow .i64 W a0 len0 cap0 z0) (a1 : Option Addr) (len1 cap1 : Nat) (z1 : List Int) (w1 : IsRow .i64 W a1 len1 cap1 z1) :
    Calls Try.prog 7 #[.slice a0 len0 cap0, .slice a1 len1 cap1] W fun e w' => e = .returned (.bool true) ∧ Below W.heap.size W w' := by
  have hlen := w0.len_le
  have hlen1 := w1.len_le
  have hm7 := i64_and7
  have hm8 := i64_and255
  obtain ⟨ii, hi9, hz9, hs9, hby9⟩ := info_parts' (P := Try.prog) (e := 51) (z := some (.agg zeroMsg.toArray)) (s := 19) (b := 232) (by kernel_rfl)
  have HI9 := Lib.hid hi9
  have HS9 := Lib.hid hs9
  have HZ9 := Lib.hid hz9
  have HBY9 := Lib.hid hby9
  have HR0 := Lib.hid w0
  have HR1 := Lib.hid w1
  clear hi9 hs9 hz9 hby9 w0 w1
  go_enter Try.func7, Try.ntmps7
  go_wp2_with fail
  refine (net_new W).mono ?_
  rintro e x1 ⟨p, rfl, h1, hB1⟩
  have HO := Lib.hid (⟨hB1, h1, fun k hk => hk.1, Own.nil _ _ _, (by intro k hk; cases hk)⟩ : Out W p _ [] [] (.slice none 0 0) x1)
  clear h1 hB1
  go_wp2_with fail
  go_loopw [8, 6, 7] (fun i c v wr => ∃ (n kN : Nat) (Wn : List Int) (F : Nat → Prop), n ≤ len0 ∧ n ≤ 10 ∧ i = .int .i64 n ∧ c = .int .i64 kN ∧ kN ≤ 7 * n ∧ Wn.length ≤ 8 * n ∧ Out W p F Wn (Wn.map (plainM 8)) v wr) (fun i _ _ _ => 10 - (intOf i).toNat)
  case atStart => exact ⟨0, 0, [], _, by omega, by omega, rfl, rfl, by omega, by simp, HO.out⟩
  case round =>
    clear HO
    obtain ⟨n, kN, Wn, F, hn, hn10, rfl, rfl, hkN, hWn, hO⟩ := hrel
    obtain ⟨aw, cw, rfl, -⟩ := id hO.ow.open
    have HO := Lib.hid hO
    clear hO
    by_cases hlt : n < len0 ∧ n < 10
    · obtain ⟨hnl, hn1⟩ := hlt
      have hd1 : decide ((n : Int) < 10) = true := by simp; omega
      have hd2 : decide ((n : Int) < (len0 : Int)) = true := by simp; omega
      have hnl1 : (n : Int) < (len0 : Int) := by omega
      obtain ⟨xb, xo, rfl, hlc, hxb, hcell⟩ := HR0.out.at_ (by omega)
      have hcx : ∀ x, Below W.heap.size W x → x.cell? ⟨xb, xo + n, none⟩ = some (.int .i64 (z0.getD n 0)) := fun x hx => (hx.cell (p := ⟨xb, xo + n, none⟩) hxb).trans (hcell n hnl)
      obtain ⟨zz, hzz⟩ : ∃ zz, zz = z0.getD n 0 := ⟨_, rfl⟩
      rw [← hzz] at hcx
      have HCX := Lib.hid hcx
      clear hcell hzz hcx
      obtain ⟨mm, hmm, hmm8⟩ : ∃ mm : Nat, zz % 8 = (mm : Int) ∧ mm < 8 := ⟨(zz % 8).toNat, by omega, by omega⟩
      go_wp2_with fail
      have hIn : In W p F Wn [] (.slice none 0 0) (.slice aw Wn.length cw) wr := ⟨HO.out.below, HO.out.net, HO.out.geF, Own.nil _ _ _, by rw [List.append_nil]; exact HO.out.ow, (by intro k hk; cases hk), HO.out.nw⟩
      have HIN := Lib.hid hIn
      clear hIn HO
      go_loopw [10, 6, 9, 7] (fun i c v u x => ∃ (j : Nat) (Lm : List Int), j ≤ mm ∧ i = .int .i64 j ∧ c = .int .i64 ((kN + j : Nat) : Int) ∧ Lm.length = j ∧ In W p F Wn Lm v u x) (fun i _ _ _ _ => mm - (intOf i).toNat)
      case atStart => exact ⟨0, [], by omega, rfl, by simp, rfl, HIN.out⟩
      case round =>
        clear HIN
        obtain ⟨j, Lm, hj, rfl, rfl, hLm, hIn⟩ := hrel
        have HLm := Lib.hid hLm
        have hLm7 : Lm.length ≤ 7 := by omega
        clear hLm
        obtain ⟨al, cl, rfl, -⟩ := id hIn.ol.open
        obtain ⟨aw2, cw2, rfl, -⟩ := id hIn.ow.open
        have hcx := HCX.out _ hIn.below
        have HIN := Lib.hid hIn
        clear hIn
        by_cases hjm : j < mm
        · have hdj : decide ((j : Int) < (mm : Int)) = true := by simp; omega
          have hwj : IntKind.i64.wrap ((j : Int) + 1) = (j : Int) + 1 := by rw [IntKind.wrap_i64]; omega
          have hwk : IntKind.i64.wrap (((kN + j : Nat) : Int) + 1) = ((kN + j + 1 : Nat) : Int) := by rw [IntKind.wrap_i64]; omega
          obtain ⟨q, hq⟩ : ∃ q : Int, q = ((kN + j : Nat) : Int) := ⟨_, rfl⟩
          obtain ⟨v9, x2, hap1, ho1, hc1, hb1⟩ := own_append Try.underlying41 HI9.out HZ9.out HS9.out HBY9.out rfl (by decide) HIN.out.ol (plainC 8 q) rfl (plainV (fun _ => True) W 8 q).one (by omega) (by unfold maxLen; omega) 41
          obtain ⟨v7, x3, hap2, ho2, hc2, hb2⟩ := own_append_int (HIN.out.ow.chg hc1 (fun k hk e => (HIN.out.nl k e).2.2 hk)) q (by omega) 37
          obtain ⟨a9, c9, rfl, -⟩ := id ho1.open
          have hst := HIN.out.step ho1 hc1 hb1 ho2 hc2 hb2
          have HST := Lib.hid hst
          clear hst ho1 hc1 hb1 ho2 hc2 hb2 HIN
          rw [← hq]
          have HQ := Lib.hid hq
          clear hq
          have hwq : IntKind.i64.wrap (q + 1) = ((kN + j + 1 : Nat) : Int) := by rw [HQ.out]; exact hwk
          have hwq2 : wrap64 (q + 1) = ((kN + j + 1 : Nat) : Int) := by rw [HQ.out]; unfold wrap64; omega
          clear hwk
          go_upto_region 14 with (first
            | (at_builtin; refine wpl_append rfl _ _ _ rfl rfl rfl hap1 ?_)
            | (refine wpList_plain rfl fun K hK => wp_buildSlice_one 41 51 19 (.tmp 42) rfl (plainC 8 q) rfl ii (.agg zeroMsg.toArray) Try.underlying41 HI9.out HS9.out HZ9.out (by decide) (by decide) rfl (hK _ _ ?_)))
          go_wp2_with (at_builtin; refine wpl_append rfl _ _ _ rfl rfl rfl hap2 ?_)
          go_roundw
          case rel => exact ⟨j + 1, Lm ++ [q], by omega, by go_num, (by first | rfl | (congr 1; omega)), by rw [List.length_append, List.length_singleton, HLm.out], HST.out⟩
          case measure => simp [intOf]; omega
        · have hje : j = mm := by omega
          subst hje
          have hdj : decide ((j : Int) < (j : Int)) = false := by simp
          go_wp2_with fail
          have hWn80 : Wn.length ≤ 80 := by omega
          refine (net_send p F (fun k => (Value.slice al Lm.length cl).ownBlock = some k) (Wn.map (plainM 8)) _ (rowM Lm) _ HIN.out.net (rowM_in HIN.out.ol (by omega) (fun k hk => hk)) (fun k hk => (HIN.out.nl k hk).1) (by rw [List.length_map, rowM_length]; omega)).mono ?_
          rintro e x4 ⟨rfl, F4, h4, hF4, hc4⟩
          rw [rowM_fst, ← List.map_append] at h4
          have hI := HIN.out
          have hlx := fun k => hI.ol.lt (k := k)
          have hO4 : Out W p F4 (Wn ++ Lm) ((Wn ++ Lm).map (plainM 8)) (.slice aw2 (Wn.length + Lm.length) cw2) x4 := Out.to ⟨hI.below, hI.net, hI.geF, by rw [List.length_append]; exact hI.ow, hI.nw⟩ h4 hF4 hc4
          have hlF4 : ∀ k, (Value.slice al Lm.length cl).ownBlock = some k → ¬ F4 k ∧ (Value.slice aw2 (Wn.length + Lm.length) cw2).ownBlock ≠ some k := fun k hk => ⟨fun hF => by
            rcases hF4 k hF with h | h
            · exact (hI.nl k hk).1 h
            · have := hlx k hk; omega, (hI.nl k hk).2.2⟩
          have hlW : ∀ k, (Value.slice al Lm.length cl).ownBlock = some k → W.heap.size ≤ k := fun k hk => (hI.nl k hk).2.1
          have hown4 := hI.ol.chg hc4 (fun k hk => (hI.nl k hk).1)
          have HO4 := Lib.hid hO4
          have HLF4 := Lib.hid hlF4
          have HLW := Lib.hid hlW
          have HOWN4 := Lib.hid hown4
          clear hI hO4 h4 hF4 hc4 hlF4 hown4 HIN hlx hcx hlW
          go_wp2_with fail
          go_loopw [56] (fun i y => ∃ jj : Nat, jj ≤ Lm.length ∧ i = .int .i64 jj ∧ Chg (fun k => (Value.slice al Lm.length cl).ownBlock = some k) x4 y ∧ ∀ g, al = some ⟨g, 0, none⟩ → ∃ cs, y.heap[g]? = some (.cells cs 51 (0, 0)) ∧ Lm.length * 19 ≤ cs.size) (fun i _ => Lm.length - (intOf i).toNat)
          case atStart =>
            refine ⟨0, by omega, rfl, Chg.refl _ _, fun g e => ?_⟩
            obtain ⟨_, _, e', hnc, _, _, ha⟩ := HOWN4.out.open
            cases e'
            rcases ha with ⟨h, _⟩ | ⟨g', cs, h, hg, hcs, _⟩
            · rw [h] at e; cases e
            · rw [h] at e; cases e
              exact ⟨cs, hg, by rw [hcs]; exact Nat.mul_le_mul_right _ hnc⟩
          case round =>
            obtain ⟨jj, hjj, rfl, hcy, hby⟩ := hrel
            have HCY := Lib.hid hcy
            have HBY := Lib.hid hby
            clear hcy hby
            by_cases hjl : jj < Lm.length
            · have hjl1 : (jj : Int) < (Lm.length : Int) := by omega
              have hwjj : IntKind.i64.wrap ((jj : Int) + 1) = (jj : Int) + 1 := by rw [IntKind.wrap_i64]; omega
              obtain ⟨_, _, e', hnc, _, _, ha⟩ := HOWN4.out.open
              cases e'
              rcases ha with ⟨_, h, _⟩ | ⟨g, cs0, rfl, _⟩
              · omega
              obtain ⟨cs, hg, hcs⟩ := HBY.out g rfl
              have hix : jj * 19 + 4 < cs.size := by have : (jj + 1) * 19 ≤ Lm.length * 19 := Nat.mul_le_mul_right _ hjl; omega
              have cc := (cell_of_blk hg (jj * 19 + 4)).trans (Array.getElem?_eq_getElem hix)
              have ff := frozen_of_blk hg (jj * 19 + 4)
              have hg' := setCell_same (i := jj * 19 + 4) (.int .i64 1000) hg
              have hc' := HCY.out.setCell (p := ⟨g, jj * 19 + 4, none⟩) (.inl rfl) (.int .i64 1000)
              have HG := Lib.hid hg'
              have HC := Lib.hid hc'
              clear hg hg' hc' HCY HBY
              go_wp2_with fail
              go_roundw
              case rel => exact ⟨jj + 1, by omega, by go_num, HC.out, fun g2 e => by cases e; exact ⟨_, HG.out, by rw [Array.size_setIfInBounds]; exact hcs⟩⟩
              case measure => simp [intOf]; omega
            · have hje : jj = Lm.length := by omega
              subst hje
              have hO5 : Out W p F4 (Wn ++ Lm) ((Wn ++ Lm).map (plainM 8)) (.slice aw2 (Wn.length + Lm.length) cw2) wr := by
                have h := HO4.out
                exact ⟨h.below.trans (HCY.out.below h.below.size HLW.out), h.net.chg HCY.out (fun k hk e => (HLF4.out k e).1 hk), h.geF, h.ow.chg HCY.out (fun k hk e => (HLF4.out k e).2 hk), h.nw⟩
              have HO5 := Lib.hid hO5
              clear hO5 HBY HCY HO4 HLF4 HOWN4 HLW
              obtain ⟨N2, hN2⟩ : ∃ N2, N2 = Wn ++ Lm := ⟨_, rfl⟩
              have hNl : Wn.length + Lm.length = N2.length := by rw [hN2, List.length_append]
              rw [← hN2, hNl] at HO5
              rw [hNl]
              have hN2l : N2.length ≤ 8 * n + 7 := by rw [hN2, List.length_append]; omega
              clear hN2
              by_cases hcp : n < len1 ∧ 0 < N2.length
              · obtain ⟨hn1l, hN0⟩ := hcp
                have hdc1 : decide ((n : Int) < (len1 : Int)) = true := by simp; omega
                have hdc2 : decide (0 < (N2.length : Int)) = true := by simp; omega
                have hn1l1 : (n : Int) < (len1 : Int) := by omega
                obtain ⟨yb, yo, rfl, hlc1, hyb, hcell1⟩ := HR1.out.at_ (by omega)
                have hcy : wr.cell? ⟨yb, yo + n, none⟩ = some (.int .i64 (z1.getD n 0)) := (HO5.out.below.cell (p := ⟨yb, yo + n, none⟩) hyb).trans (hcell1 n hn1l)
                obtain ⟨yy, hyy⟩ : ∃ yy, yy = z1.getD n 0 := ⟨_, rfl⟩
                rw [← hyy] at hcy
                clear hcell1 hyy
                obtain ⟨k, hk, hkl⟩ : ∃ k : Nat, yy % 256 % (N2.length : Int) = (k : Int) ∧ k < N2.length := by
                  have h0 : 0 ≤ yy % 256 % (N2.length : Int) := Int.emod_nonneg _ (by omega)
                  have h2 : yy % 256 % (N2.length : Int) < (N2.length : Int) := Int.emod_lt_of_pos _ (by omega)
                  exact ⟨(yy % 256 % (N2.length : Int)).toNat, by omega, by omega⟩
                have hkl1 : (k : Int) < (N2.length : Int) := by omega
                have hrz : ((N2.length : Int) == 0) = false := by simp; intro h; rw [h] at hN0; simp at hN0
                go_wp2_with fail
                refine (net_copy_yes p F4 _ k (plainM 8 N2[k]) wr HO5.out.net (by rw [List.getElem?_map, List.getElem?_eq_getElem hkl]; rfl) (by rw [List.length_map]; omega)).mono ?_
                rintro e y5 ⟨rfl, F5, h5, hF5, hc5⟩
                have hO6 := HO5.out.to h5 hF5 hc5
                obtain ⟨_, _, e', hnc, _, hxl, ha⟩ := hO6.ow.open
                cases e'
                rcases ha with ⟨_, h, _⟩ | ⟨gw, csw, rfl, hgw, _, htw⟩
                · omega
                have cw5 : y5.cell? ⟨gw, k, none⟩ = some (.int .i64 N2[k]) := own_cell hgw htw (by omega) (by simp [hkl])
                obtain ⟨v7, y6, hap3, ho3, hc3, hb3⟩ := own_append_int hO6.ow N2[k] (by omega) 37
                have hO7 : Out W p F5 (N2 ++ [N2[k]]) ((N2 ++ [N2[k]]).map (plainM 8)) v7 y6 := by
                  have hs := hO6.below.size
                  refine ⟨hO6.below.trans (hc3.below hs (fun k hk => (hO6.nw k hk).2)), ?_, hO6.geF, ?_, fun j hj => ?_⟩
                  · have := hO6.net.chg hc3 (fun j hj e => (hO6.nw j e).1 hj)
                    rw [List.map_append]; exact this
                  · rw [List.length_append, List.length_singleton, List.map_append]; exact ho3
                  · rcases hb3 with hb | ⟨j', hj', hle⟩
                    · exact hO6.nw j (hb ▸ hj)
                    · rw [hj'] at hj; cases hj
                      exact ⟨fun hF => by have := hO6.net.lt _ hF; omega, by omega⟩
                have HO7 := Lib.hid hO7
                clear hO7 ho3 hc3 hb3 hgw htw hxl hO6 h5 hF5 hc5 HO5
                generalize N2[k] = qq at *
                go_wp2_with (at_builtin; refine wpl_append rfl _ _ _ rfl rfl rfl hap3 ?_)
                go_roundw
                case rel => exact ⟨n + 1, kN + j, N2 ++ [qq], F5, by omega, by omega, by go_num, rfl, by omega, by rw [List.length_append, List.length_singleton]; omega, HO7.out⟩
                case measure => simp [intOf]; omega
              · by_cases hn1l : n < len1
                · have hN0 : N2.length = 0 := by omega
                  have hdc1 : decide ((n : Int) < (len1 : Int)) = true := by simp; omega
                  have hdc2 : decide (0 < (N2.length : Int)) = false := by simp [hN0]
                  go_wp2_with fail
                  go_roundw
                  case rel => exact ⟨n + 1, kN + j, N2, F4, by omega, by omega, by go_num, rfl, by omega, by omega, HO5.out⟩
                  case measure => simp [intOf]; omega
                · have hdc1 : decide ((n : Int) < (len1 : Int)) = false := by simp; omega
                  go_wp2_with fail
                  go_roundw
                  case rel => exact ⟨n + 1, kN + j, N2, F4, by omega, by omega, by go_num, rfl, by omega, by omega, HO5.out⟩
                  case measure => simp [intOf]; omega
    · clear HR0 HR1
      have hN80 : Wn.length ≤ 80 := by omega
      by_cases h10 : n < 10
      · have hd : decide (n < len0) = false := by simp; omega
        have hd' : ¬ n < len0 := by omega
        clear hlt
        go_wp2_with fail
        go_loopw [94] (fun i y => ∃ (j : Nat) (F' : Nat → Prop), j ≤ Wn.length ∧ i = .int .i64 j ∧ Out W p F' Wn ((Wn.drop j).map (plainM 8)) (.slice aw Wn.length cw) y) (fun i _ => Wn.length - (intOf i).toNat)
        case atStart => exact ⟨0, F, by omega, rfl, by rw [List.drop_zero]; exact HO.out⟩
        case round =>
          clear HO
          obtain ⟨j, F', hj, rfl, hO⟩ := hrel
          by_cases hjl : j < Wn.length
          · have hjl1 : (j : Int) < (Wn.length : Int) := by omega
            have hwj : IntKind.i64.wrap ((j : Int) + 1) = (j : Int) + 1 := by rw [IntKind.wrap_i64]; omega
            have hwn1 : IntKind.i64.wrap ((Wn.length : Int) - 1) = (Wn.length : Int) - 1 := by rw [IntKind.wrap_i64]; omega
            have hwn2 : IntKind.i64.wrap ((Wn.length : Int) - 1 - (j : Int)) = (Wn.length : Int) - 1 - (j : Int) := by rw [IntKind.wrap_i64]; omega
            have HO := Lib.hid hO
            clear hO
            obtain ⟨q, hq⟩ : ∃ q, q = Wn[j] := ⟨_, rfl⟩
            go_wp2_with fail
            refine (net_take_yes p F' _ 0 (plainM 8 q) _ HO.out.net (by rw [List.getElem?_map, List.getElem?_drop, Nat.add_zero, List.getElem?_eq_getElem hjl, hq]; rfl) (by rw [List.length_map, List.length_drop]; omega)).mono ?_
            rintro e x6 ⟨cs6, rfl, hm6, h6, hc6⟩
            have hO6 : Out W p F' Wn ((Wn.drop (j + 1)).map (plainM 8)) (.slice aw Wn.length cw) x6 := by
              have : ((Wn.drop j).map (plainM 8)).eraseIdx 0 = (Wn.drop (j + 1)).map (plainM 8) := by rw [List.drop_eq_getElem_cons hjl]; rfl
              rw [this] at h6
              exact HO.out.to h6 (fun k hk => .inl hk) hc6
            obtain ⟨_, _, e', hnc, _, hxl, ha⟩ := hO6.ow.open
            cases e'
            rcases ha with ⟨_, h, _⟩ | ⟨gw, csw, rfl, hgw, _, htw⟩
            · omega
            have cw6 : x6.cell? ⟨gw, j, none⟩ = some (.int .i64 q) := by rw [hq]; exact own_cell hgw htw (by omega) (by simp [hjl])
            obtain ⟨na, hna⟩ : ∃ n, n = x6.heap.size := ⟨_, rfl⟩
            obtain ⟨ua, hua⟩ : ∃ u, u = x6.alloc (.cells #[.int .i64 0, .int .i64 0, .int .i64 0, .int .i64 0, .int .i64 0, .int .i64 0, .int .i64 0, .slice none 0 0, .int .i64 0, .slice none 0 0, .slice none 0 0, .int .i64 0, .int .i64 0, .slice none 0 0, .int .i64 0, .int .u64 0, .int .u64 0, .int .i64 0, .slice none 0 0] 51 (0, 0)) := ⟨_, rfl⟩
            have hba : ua.heap[na]? = some (.cells #[.int .i64 0, .int .i64 0, .int .i64 0, .int .i64 0, .int .i64 0, .int .i64 0, .int .i64 0, .slice none 0 0, .int .i64 0, .slice none 0 0, .slice none 0 0, .int .i64 0, .int .i64 0, .slice none 0 0, .int .i64 0, .int .u64 0, .int .u64 0, .int .i64 0, .slice none 0 0] 51 (0, 0)) := by rw [hua]; exact alloc_new x6 _ _ hna
            obtain ⟨va, hva⟩ : ∃ v, v = ua.setRow na cs6.toArray := ⟨_, rfl⟩
            have hwa : va.heap[na]? = some (.cells cs6.toArray 51 (0, 0)) := by rw [hva]; exact setRow_heap _ na _ cs6.toArray _ _ hba
            have honea : cs6.toArray.all (·.oneCell') = true := by rw [List.all_toArray]; exact List.all_eq_true.2 hm6.one
            have hcla : (Try.prog.info? 51).map (·.size) = some cs6.toArray.size := size19.trans (congrArg some (by rw [List.size_toArray, hm6.length]))
            have hcza : (#[.int .i64 0, .int .i64 0, .int .i64 0, .int .i64 0, .int .i64 0, .int .i64 0, .int .i64 0, .slice none 0 0, .int .i64 0, .slice none 0 0, .slice none 0 0, .int .i64 0, .int .i64 0, .slice none 0 0, .int .i64 0, .int .u64 0, .int .u64 0, .int .i64 0, .slice none 0 0] : Array Value).size = cs6.toArray.size := by show 19 = cs6.toArray.size; rw [List.size_toArray, hm6.length]
            have HCa : Hid (Chg none_ x6 va) := by
              have e : Chg none_ x6 ua := by rw [hua]; exact (Chg.refl none_ x6).alloc _
              exact e.step (by rw [hva]; exact (Chg.refl (· = na) ua).row cs6.toArray) (fun j e => .inr (by have e' : j = na := e; omega))
            have HWa := Lib.hid hwa
            have HUa := Lib.hid hua
            have HNa := Lib.hid hna
            have HVa := Lib.hid hva
            clear hwa hua hna hva
            have hO7 := (hO6.chg0 HCa.out).chg0 (Chg.refl none_ va).drew
            have e0 : va.cell? ⟨na, 0, none⟩ = some (.int .i64 8) := (cell_of_blk HWa.out 0).trans hm6.kind
            have e4 : va.cell? ⟨na, 4, none⟩ = some (.int .i64 q) := (cell_of_blk HWa.out 4).trans hm6.num
            have ew : va.cell? ⟨gw, j, none⟩ = some (.int .i64 q) := HCa.out.cell cw6 (fun h => h)
            have hlen9 : (((Wn.drop (j + 1)).map (plainM 8)).length : Int) = (Wn.length : Int) - 1 - (j : Int) := by rw [List.length_map, List.length_drop]; omega
            have HLEN := Lib.hid (net_len p F' _ va.drew hO7.net)
            have HL9 := Lib.hid hlen9
            have HO7 := Lib.hid hO7
            clear hO7 hO6 h6 hc6 hgw htw hxl cw6 hm6 hlen9 HO hq
            go_wp2_with (rw [← HUa.out, ← HNa.out]; refine wpList_store_row rfl 51 _ _ rfl na cs6.toArray rfl rfl _ _ hba hcla hcza honea ?_; rw [← HVa.out])
            go_region_held3 (fun x : World => x.cell? ⟨na, 0, none⟩ = some (.int .i64 8) ∧ x.cell? ⟨na, 4, none⟩ = some (.int .i64 q) ∧ x.cell? ⟨gw, j, none⟩ = some (.int .i64 q)) (go_keep) (first
              | (go_at_call 28; refine HLEN.out.mono ?_; rintro e _ ⟨rfl, rfl⟩; rw [HL9.out]))
            rename_i hHeld
            clear hHeld e0 e4 ew
            go_wp2_with fail
            go_roundw
            case rel => exact ⟨j + 1, F', by omega, by go_num, HO7.out⟩
            case measure => simp [intOf]; omega
          · have hje : j = Wn.length := by omega
            subst hje
            rw [List.drop_length] at hO
            have HO := Lib.hid hO
            clear hO
            go_wp2_with fail
            refine (net_take_no p F' _ 0 _ HO.out.net (by simp)).mono ?_
            rintro e x6 ⟨rfl, hb6⟩
            have hO6 := HO.out.chg0 (Chg.of_below hb6)
            clear hb6
            obtain ⟨nb, hnb⟩ : ∃ n, n = x6.heap.size := ⟨_, rfl⟩
            obtain ⟨ub, hub⟩ : ∃ u, u = x6.alloc (.cells #[.int .i64 0, .int .i64 0, .int .i64 0, .int .i64 0, .int .i64 0, .int .i64 0, .int .i64 0, .slice none 0 0, .int .i64 0, .slice none 0 0, .slice none 0 0, .int .i64 0, .int .i64 0, .slice none 0 0, .int .i64 0, .int .u64 0, .int .u64 0, .int .i64 0, .slice none 0 0] 51 (0, 0)) := ⟨_, rfl⟩
            have hbb : ub.heap[nb]? = some (.cells #[.int .i64 0, .int .i64 0, .int .i64 0, .int .i64 0, .int .i64 0, .int .i64 0, .int .i64 0, .slice none 0 0, .int .i64 0, .slice none 0 0, .slice none 0 0, .int .i64 0, .int .i64 0, .slice none 0 0, .int .i64 0, .int .u64 0, .int .u64 0, .int .i64 0, .slice none 0 0] 51 (0, 0)) := by rw [hub]; exact alloc_new x6 _ _ hnb
            obtain ⟨vb, hvb⟩ : ∃ v, v = ub.setRow nb zeroMsg.toArray := ⟨_, rfl⟩
            have hwb : vb.heap[nb]? = some (.cells zeroMsg.toArray 51 (0, 0)) := by rw [hvb]; exact setRow_heap _ nb _ zeroMsg.toArray _ _ hbb
            have honeb : zeroMsg.toArray.all (·.oneCell') = true := by rw [List.all_toArray]; exact List.all_eq_true.2 (by intro u hu; simp only [zeroMsg, List.mem_cons, List.not_mem_nil, or_false] at hu; rcases hu with rfl | rfl | rfl | rfl | rfl | rfl | rfl | rfl | rfl | rfl | rfl | rfl | rfl | rfl | rfl | rfl | rfl | rfl | rfl <;> rfl)
            have hclb : (Try.prog.info? 51).map (·.size) = some zeroMsg.toArray.size := size19.trans (congrArg some (by rw [List.size_toArray, show zeroMsg.length = 19 from rfl]))
            have hczb : (#[.int .i64 0, .int .i64 0, .int .i64 0, .int .i64 0, .int .i64 0, .int .i64 0, .int .i64 0, .slice none 0 0, .int .i64 0, .slice none 0 0, .slice none 0 0, .int .i64 0, .int .i64 0, .slice none 0 0, .int .i64 0, .int .u64 0, .int .u64 0, .int .i64 0, .slice none 0 0] : Array Value).size = zeroMsg.toArray.size := by show 19 = zeroMsg.toArray.size; rw [List.size_toArray, show zeroMsg.length = 19 from rfl]
            have HCb : Hid (Chg none_ x6 vb) := by
              have e : Chg none_ x6 ub := by rw [hub]; exact (Chg.refl none_ x6).alloc _
              exact e.step (by rw [hvb]; exact (Chg.refl (· = nb) ub).row zeroMsg.toArray) (fun j e => .inr (by have e' : j = nb := e; omega))
            have HWb := Lib.hid hwb
            have HUb := Lib.hid hub
            have HNb := Lib.hid hnb
            have HVb := Lib.hid hvb
            clear hwb hub hnb hvb
            have hO7 := hO6.chg0 HCb.out
            have HO7 := Lib.hid hO7
            clear hO7 hO6 HO
            go_wp2_with (rw [← HUb.out, ← HNb.out]; refine wpList_store_row rfl 51 _ _ rfl nb zeroMsg.toArray rfl rfl _ _ hbb hclb hczb honeb ?_; rw [← HVb.out])
            refine (net_copy_no p F' _ 0 vb HO7.out.net (by simp)).mono ?_
            rintro e x8 ⟨rfl, hb8⟩
            go_wp2_with fail
            refine (net_awake x8).mono ?_
            rintro e x9 ⟨rfl, hb9⟩
            go_wp2_with fail
            go_ret
            have h1 := HO7.out.below
            exact ⟨rfl, h1.trans ((hb8.mono h1.size).trans (hb9.mono (Nat.le_trans h1.size hb8.size)))⟩
      · have : n = 10 := by omega
        subst this
        clear hlt
        rw [show ((10 : Nat) : Int) = (10 : Int) from rfl]
        obtain ⟨v1, hv1⟩ : ∃ v1, decide ((10 : Int) < (len0 : Int)) = v1 := ⟨_, rfl⟩
        cases v1
        all_goals
          go_wp2_with fail
          go_loopw [94] (fun i y => ∃ (j : Nat) (F' : Nat → Prop), j ≤ Wn.length ∧ i = .int .i64 j ∧ Out W p F' Wn ((Wn.drop j).map (plainM 8)) (.slice aw Wn.length cw) y) (fun i _ => Wn.length - (intOf i).toNat)
          case atStart => exact ⟨0, F, by omega, rfl, by rw [List.drop_zero]; exact HO.out⟩
          case round =>
            clear HO
            obtain ⟨j, F', hj, rfl, hO⟩ := hrel
            by_cases hjl : j < Wn.length
            · have hjl1 : (j : Int) < (Wn.length : Int) := by omega
              have hwj : IntKind.i64.wrap ((j : Int) + 1) = (j : Int) + 1 := by rw [IntKind.wrap_i64]; omega
              have hwn1 : IntKind.i64.wrap ((Wn.length : Int) - 1) = (Wn.length : Int) - 1 := by rw [IntKind.wrap_i64]; omega
              have hwn2 : IntKind.i64.wrap ((Wn.length : Int) - 1 - (j : Int)) = (Wn.length : Int) - 1 - (j : Int) := by rw [IntKind.wrap_i64]; omega
              have HO := Lib.hid hO
              clear hO
              obtain ⟨q, hq⟩ : ∃ q, q = Wn[j] := ⟨_, rfl⟩
              go_wp2_with fail
              refine (net_take_yes p F' _ 0 (plainM 8 q) _ HO.out.net (by rw [List.getElem?_map, List.getElem?_drop, Nat.add_zero, List.getElem?_eq_getElem hjl, hq]; rfl) (by rw [List.length_map, List.length_drop]; omega)).mono ?_
              rintro e x6 ⟨cs6, rfl, hm6, h6, hc6⟩
              have hO6 : Out W p F' Wn ((Wn.drop (j + 1)).map (plainM 8)) (.slice aw Wn.length cw) x6 := by
                have : ((Wn.drop j).map (plainM 8)).eraseIdx 0 = (Wn.drop (j + 1)).map (plainM 8) := by rw [List.drop_eq_getElem_cons hjl]; rfl
                rw [this] at h6
                exact HO.out.to h6 (fun k hk => .inl hk) hc6
              obtain ⟨_, _, e', hnc, _, hxl, ha⟩ := hO6.ow.open
              cases e'
              rcases ha with ⟨_, h, _⟩ | ⟨gw, csw, rfl, hgw, _, htw⟩
              · omega
              have cw6 : x6.cell? ⟨gw, j, none⟩ = some (.int .i64 q) := by rw [hq]; exact own_cell hgw htw (by omega) (by simp [hjl])
              obtain ⟨na, hna⟩ : ∃ n, n = x6.heap.size := ⟨_, rfl⟩
              obtain ⟨ua, hua⟩ : ∃ u, u = x6.alloc (.cells #[.int .i64 0, .int .i64 0, .int .i64 0, .int .i64 0, .int .i64 0, .int .i64 0, .int .i64 0, .slice none 0 0, .int .i64 0, .slice none 0 0, .slice none 0 0, .int .i64 0, .int .i64 0, .slice none 0 0, .int .i64 0, .int .u64 0, .int .u64 0, .int .i64 0, .slice none 0 0] 51 (0, 0)) := ⟨_, rfl⟩
              have hba : ua.heap[na]? = some (.cells #[.int .i64 0, .int .i64 0, .int .i64 0, .int .i64 0, .int .i64 0, .int .i64 0, .int .i64 0, .slice none 0 0, .int .i64 0, .slice none 0 0, .slice none 0 0, .int .i64 0, .int .i64 0, .slice none 0 0, .int .i64 0, .int .u64 0, .int .u64 0, .int .i64 0, .slice none 0 0] 51 (0, 0)) := by rw [hua]; exact alloc_new x6 _ _ hna
              obtain ⟨va, hva⟩ : ∃ v, v = ua.setRow na cs6.toArray := ⟨_, rfl⟩
              have hwa : va.heap[na]? = some (.cells cs6.toArray 51 (0, 0)) := by rw [hva]; exact setRow_heap _ na _ cs6.toArray _ _ hba
              have honea : cs6.toArray.all (·.oneCell') = true := by rw [List.all_toArray]; exact List.all_eq_true.2 hm6.one
              have hcla : (Try.prog.info? 51).map (·.size) = some cs6.toArray.size := size19.trans (congrArg some (by rw [List.size_toArray, hm6.length]))
              have hcza : (#[.int .i64 0, .int .i64 0, .int .i64 0, .int .i64 0, .int .i64 0, .int .i64 0, .int .i64 0, .slice none 0 0, .int .i64 0, .slice none 0 0, .slice none 0 0, .int .i64 0, .int .i64 0, .slice none 0 0, .int .i64 0, .int .u64 0, .int .u64 0, .int .i64 0, .slice none 0 0] : Array Value).size = cs6.toArray.size := by show 19 = cs6.toArray.size; rw [List.size_toArray, hm6.length]
              have HCa : Hid (Chg none_ x6 va) := by
                have e : Chg none_ x6 ua := by rw [hua]; exact (Chg.refl none_ x6).alloc _
                exact e.step (by rw [hva]; exact (Chg.refl (· = na) ua).row cs6.toArray) (fun j e => .inr (by have e' : j = na := e; omega))
              have HWa := Lib.hid hwa
              have HUa := Lib.hid hua
              have HNa := Lib.hid hna
              have HVa := Lib.hid hva
              clear hwa hua hna hva
              have hO7 := (hO6.chg0 HCa.out).chg0 (Chg.refl none_ va).drew
              have e0 : va.cell? ⟨na, 0, none⟩ = some (.int .i64 8) := (cell_of_blk HWa.out 0).trans hm6.kind
              have e4 : va.cell? ⟨na, 4, none⟩ = some (.int .i64 q) := (cell_of_blk HWa.out 4).trans hm6.num
              have ew : va.cell? ⟨gw, j, none⟩ = some (.int .i64 q) := HCa.out.cell cw6 (fun h => h)
              have hlen9 : (((Wn.drop (j + 1)).map (plainM 8)).length : Int) = (Wn.length : Int) - 1 - (j : Int) := by rw [List.length_map, List.length_drop]; omega
              have HLEN := Lib.hid (net_len p F' _ va.drew hO7.net)
              have HL9 := Lib.hid hlen9
              have HO7 := Lib.hid hO7
              clear hO7 hO6 h6 hc6 hgw htw hxl cw6 hm6 hlen9 HO hq
              go_wp2_with (rw [← HUa.out, ← HNa.out]; refine wpList_store_row rfl 51 _ _ rfl na cs6.toArray rfl rfl _ _ hba hcla hcza honea ?_; rw [← HVa.out])
              go_region_held3 (fun x : World => x.cell? ⟨na, 0, none⟩ = some (.int .i64 8) ∧ x.cell? ⟨na, 4, none⟩ = some (.int .i64 q) ∧ x.cell? ⟨gw, j, none⟩ = some (.int .i64 q)) (go_keep) (first
                | (go_at_call 28; refine HLEN.out.mono ?_; rintro e _ ⟨rfl, rfl⟩; rw [HL9.out]))
              rename_i hHeld
              clear hHeld e0 e4 ew
              go_wp2_with fail
              go_roundw
              case rel => exact ⟨j + 1, F', by omega, by go_num, HO7.out⟩
              case measure => simp [intOf]; omega
            · have hje : j = Wn.length := by omega
              subst hje
              rw [List.drop_length] at hO
              have HO := Lib.hid hO
              clear hO
              go_wp2_with fail
              refine (net_take_no p F' _ 0 _ HO.out.net (by simp)).mono ?_
              rintro e x6 ⟨rfl, hb6⟩
              have hO6 := HO.out.chg0 (Chg.of_below hb6)
              clear hb6
              obtain ⟨nb, hnb⟩ : ∃ n, n = x6.heap.size := ⟨_, rfl⟩
              obtain ⟨ub, hub⟩ : ∃ u, u = x6.alloc (.cells #[.int .i64 0, .int .i64 0, .int .i64 0, .int .i64 0, .int .i64 0, .int .i64 0, .int .i64 0, .slice none 0 0, .int .i64 0, .slice none 0 0, .slice none 0 0, .int .i64 0, .int .i64 0, .slice none 0 0, .int .i64 0, .int .u64 0, .int .u64 0, .int .i64 0, .slice none 0 0] 51 (0, 0)) := ⟨_, rfl⟩
              have hbb : ub.heap[nb]? = some (.cells #[.int .i64 0, .int .i64 0, .int .i64 0, .int .i64 0, .int .i64 0, .int .i64 0, .int .i64 0, .slice none 0 0, .int .i64 0, .slice none 0 0, .slice none 0 0, .int .i64 0, .int .i64 0, .slice none 0 0, .int .i64 0, .int .u64 0, .int .u64 0, .int .i64 0, .slice none 0 0] 51 (0, 0)) := by rw [hub]; exact alloc_new x6 _ _ hnb
              obtain ⟨vb, hvb⟩ : ∃ v, v = ub.setRow nb zeroMsg.toArray := ⟨_, rfl⟩
              have hwb : vb.heap[nb]? = some (.cells zeroMsg.toArray 51 (0, 0)) := by rw [hvb]; exact setRow_heap _ nb _ zeroMsg.toArray _ _ hbb
              have honeb : zeroMsg.toArray.all (·.oneCell') = true := by rw [List.all_toArray]; exact List.all_eq_true.2 (by intro u hu; simp only [zeroMsg, List.mem_cons, List.not_mem_nil, or_false] at hu; rcases hu with rfl | rfl | rfl | rfl | rfl | rfl | rfl | rfl | rfl | rfl | rfl | rfl | rfl | rfl | rfl | rfl | rfl | rfl | rfl <;> rfl)
              have hclb : (Try.prog.info? 51).map (·.size) = some zeroMsg.toArray.size := size19.trans (congrArg some (by rw [List.size_toArray, show zeroMsg.length = 19 from rfl]))
              have hczb : (#[.int .i64 0, .int .i64 0, .int .i64 0, .int .i64 0, .int .i64 0, .int .i64 0, .int .i64 0, .slice none 0 0, .int .i64 0, .slice none 0 0, .slice none 0 0, .int .i64 0, .int .i64 0, .slice none 0 0, .int .i64 0, .int .u64 0, .int .u64 0, .int .i64 0, .slice none 0 0] : Array Value).size = zeroMsg.toArray.size := by show 19 = zeroMsg.toArray.size; rw [List.size_toArray, show zeroMsg.length = 19 from rfl]
              have HCb : Hid (Chg none_ x6 vb) := by
                have e : Chg none_ x6 ub := by rw [hub]; exact (Chg.refl none_ x6).alloc _
                exact e.step (by rw [hvb]; exact (Chg.refl (· = nb) ub).row zeroMsg.toArray) (fun j e => .inr (by have e' : j = nb := e; omega))
              have HWb := Lib.hid hwb
              have HUb := Lib.hid hub
              have HNb := Lib.hid hnb
              have HVb := Lib.hid hvb
              clear hwb hub hnb hvb
              have hO7 := hO6.chg0 HCb.out
              have HO7 := Lib.hid hO7
              clear hO7 hO6 HO
              go_wp2_with (rw [← HUb.out, ← HNb.out]; refine wpList_store_row rfl 51 _ _ rfl nb zeroMsg.toArray rfl rfl _ _ hbb hclb hczb honeb ?_; rw [← HVb.out])
              refine (net_copy_no p F' _ 0 vb HO7.out.net (by simp)).mono ?_
              rintro e x8 ⟨rfl, hb8⟩
              go_wp2_with fail
              refine (net_awake x8).mono ?_
              rintro e x9 ⟨rfl, hb9⟩
              go_wp2_with fail
              go_ret
              have h1 := HO7.out.below
              exact ⟨rfl, h1.trans ((hb8.mono h1.size).trans (hb9.mono (Nat.le_trans h1.size hb8.size)))⟩


/-! ### the row's step -/
open Go.ChangeShapes Go.WideShapes Go.ChangeAt
set_option linter.unusedVariables false
theorem own : ownKnob Try.prog.godebug = none := by kernel_rfl
theorem laidOut : laidOutB Try.prog = true := by kernel_rfl
set_option maxRecDepth 100000 in
theorem lifted (os : Os) (started : os.Started) (H : Type) (enc : TypeId × Value → H) :
    ReturnsInHanded {} Try.checked os 7 .any (Rows.netwOrderSpec.pre6 enc Try.prog Try.f7 Rows.netwOrderRow.domain false) (Rows.netwOrderSpec.post enc Try.prog Try.f7 false true false false) := by
  refine returnsInHanded_of_change (C := Try.checked) own started (by kernel_rfl) Try.func7
    (ChangeSpec.witness6 (enc := enc) (C := Try.checked) false ⟨#[], #[.slice none 0 0, .slice none 0 0], []⟩ 8 (by kernel_rfl) (by kernel_rfl) (by kernel_rfl) (by kernel_rfl)) ?_
  intro W base args ds gs before hval0 hW hcnd _
  have hval : ∀ (j : Nat) t v, Try.f7.params[j]? = some t → args[j]? = some v → Value.okWide Try.prog W .any base t v := hval0
  have hW' := hW
  obtain ⟨p, q, hA0, hV, rfl, hfz, hnd⟩ := hW
  have hA : DataW.TrodAll enc Try.prog W 0 (fun _ => true) true Try.f7.params.toList args.toList ds p := hA0
  rw [Try.params7] at hA hval
  obtain ⟨v0, vs0, d0, ds0, p0, q0, hargs, rfl, rfl, h0, r0⟩ := trodAll_cons hA
  obtain ⟨v1, vs1, d1, ds1, p1, q1, rfl, rfl, rfl, h1, r1⟩ := trodAll_cons r0
  obtain ⟨rfl, rfl, rfl⟩ := trodAll_nil r1
  obtain rfl : args = #[v0, v1] := by cases args; simp_all
  obtain ⟨rfl, rfl⟩ := trodVars_none hV
  obtain ⟨a0, len0, cap0, rfl⟩ := okWide_slice Try.underlying37 (hval 0 37 v0 rfl rfl)
  have k0 := h0
  have lt0 : ∀ x ∈ p0, x.block < W.heap.size := by obtain ⟨m, hm⟩ := k0; exact DataW.trod_lt m _ _ _ hm
  obtain ⟨z0, w0⟩ : ∃ zs, IsRow .i64 W a0 len0 cap0 zs := by
    obtain ⟨fuel, hf⟩ := h0
    rcases open_ints Try.underlying37 Try.underlying3 (by kernel_rfl) hf with ⟨hcs, _⟩ | ⟨x, l, c, zs, hcs, _, hl, hm, hz, _, hcell, hwz⟩
    · simp [Value.cells] at hcs
      obtain ⟨rfl, rfl, rfl⟩ := hcs
      exact ⟨[], .inl ⟨rfl, rfl, rfl, rfl⟩⟩
    · simp [Value.cells] at hcs
      obtain ⟨rfl, rfl, rfl⟩ := hcs
      exact ⟨zs, .inr ⟨_, rfl, hl, hm, by simpa using hz, hcell, hwz⟩⟩
  obtain ⟨a1, len1, cap1, rfl⟩ := okWide_slice Try.underlying37 (hval 1 37 v1 rfl rfl)
  have k1 := h1
  have lt1 : ∀ x ∈ p1, x.block < W.heap.size := by obtain ⟨m, hm⟩ := k1; exact DataW.trod_lt m _ _ _ hm
  obtain ⟨z1, w1⟩ : ∃ zs, IsRow .i64 W a1 len1 cap1 zs := by
    obtain ⟨fuel, hf⟩ := h1
    rcases open_ints Try.underlying37 Try.underlying3 (by kernel_rfl) hf with ⟨hcs, _⟩ | ⟨x, l, c, zs, hcs, _, hl, hm, hz, _, hcell, hwz⟩
    · simp [Value.cells] at hcs
      obtain ⟨rfl, rfl, rfl⟩ := hcs
      exact ⟨[], .inl ⟨rfl, rfl, rfl, rfl⟩⟩
    · simp [Value.cells] at hcs
      obtain ⟨rfl, rfl, rfl⟩ := hcs
      exact ⟨zs, .inr ⟨_, rfl, hl, hm, by simpa using hz, hcell, hwz⟩⟩
  clear hA0 hval0
  refine (walk W a0 len0 cap0 z0 w0 a1 len1 cap1 z1 w1).mono fun e W' ⟨he, bel⟩ => ?_
  subst he
  exact ⟨_, rfl, _, _, _, [], _, [], hW', trodAll_mk1 (shut_bool Try.underlying4 _), (trodAll_cons_mk (Below.trod laidOut (by kernel_rfl) (of_decide_eq_true (by kernel_rfl)) k0 bel lt0) (trodAll_cons_mk (Below.trod laidOut (by kernel_rfl) (of_decide_eq_true (by kernel_rfl)) k1 bel lt1) trodAll_mk0)), rfl, bel.frame _, fun h => by cases h⟩

theorem over : Rows.netwOrderRow.holds Try.pinned (OpenSpec.ofChange Rows.netwOrderSpec) :=
  OpenClaim.holds_of_wide 7 Try.f7 rfl rfl rfl rfl rfl rfl rfl ⟨rfl, rfl, rfl, rfl, rfl⟩ rfl rfl rfl rfl rfl (by kernel_rfl) Try.func7 (by kernel_rfl)
    (of_decide_eq_true (by kernel_rfl)) (by unfold Func.isWrapper; first | (rw [if_pos (by decide +kernel)]; kernel_rfl) | (rw [if_neg (by decide +kernel)]; exact ⟨rfl, rfl⟩))
    (fun os started H enc _ => lifted os started H enc)

theorem proved : Rows.NetwOrderSaid := over
#print axioms proved

end Go.Proofs.Ytjllejlgclfahaa.netwOrder
