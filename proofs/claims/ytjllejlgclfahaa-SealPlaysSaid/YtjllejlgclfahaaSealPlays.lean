/-
  SealPlays: texts are sealed, shared and opened as the document says. No condition.
-/
import Derived.Test.YtjllejlgclfahaaSealRef
import Derived.Test.YtjllejlgclfahaaSteps
namespace Go.Proofs.Ytjllejlgclfahaa.sealPlays
open Go.RowKit Go.MapKept

theorem take_mem (Z : List Int) (j : Nat) (h : j < Z.length) (a : Int) : decide (a ∈ Z.take (j + 1)) = (decide (a ∈ Z.take j) || (Z.getD j 0 == a)) := by
  rw [List.take_succ_eq_append_getElem h]
  have e : Z.getD j 0 = Z[j] := by simp [List.getD, h]
  rw [e, Bool.eq_iff_iff]
  simp only [decide_eq_true_eq, Bool.or_eq_true, List.mem_append, List.mem_singleton, beq_iff_eq]
  exact or_congr Iff.rfl eq_comm
/-- What the loop keeps. -/
def Kept (W wr : World) (p q : Nat) (need : Int) (C : List Ciph) (k : Nat) : Prop := VR W wr p q (max need 1) C need (rowOf C) (sharesAt C) k ∧ BndS C k
theorem kept_seal {W y : World} {p q : Nat} {need : Int} {C : List Ciph} {k : Nat} {a : Int} {l : List UInt8} (h : VR W y p q (max need 1) (C ++ [⟨a, l, []⟩]) need (rowOf C ++ [(a, l)]) (sharesAt C) k) (hb : BndS C k) (hl : l.length ≤ 200) : Kept W y p q need (C ++ [⟨a, l, []⟩]) (k + 1) := by
  refine ⟨?_, hb.snoc a hl⟩
  rw [rowOf_snoc C ⟨a, l, []⟩] at h
  obtain ⟨F, G, h1, ⟨v, pv, g1, g2, g3, g4⟩, h3⟩ := h
  exact VR.congr (f := sharesAt C) ⟨F, G, h1, ⟨v, pv, g1, g2, g3.more (by omega), g4⟩, h3⟩ (sharesAt_snoc C a l)
theorem kept_share {W y : World} {p q : Nat} {need : Int} {C : List Ciph} {k : Nat} {a c : Int} (h : VR W y p q (max need 1) (shareAt C a c) need (rowOf C) (rShared (rowOf C).length (sharesAt C) a c) (k + 1)) (hb : BndS C k) : Kept W y p q need (shareAt C a c) (k + 1) := by
  refine ⟨?_, hb.share a c⟩
  rw [rowOf_share C a c]
  rw [rowOf_length] at h
  exact h.congr (sharesAt_share C a c)
theorem kept_more {W y : World} {p q : Nat} {need : Int} {C : List Ciph} {k : Nat} (h : Kept W y p q need C k) : Kept W y p q need C (k + 1) := by
  obtain ⟨⟨F, G, h1, ⟨v, pv, g1, g2, g3, g4⟩, h3⟩, hb⟩ := h
  exact ⟨⟨F, G, h1, ⟨v, pv, g1, g2, g3.more (by omega), g4⟩, h3⟩, hb.more⟩

set_option maxRecDepth 100000 in
set_option maxHeartbeats 8000000 in
theorem walk_false (W : World) (need0 : Int) (a1 : Option Addr) (len1 cap1 : Nat) (L : List StepX) (hL : L.length = len1) (w1 : StepsAt W a1 L) :
    Calls Try.prog 17 #[.int .i64 need0, .slice a1 len1 cap1, .bool false] W fun e w' => e = .returned (.bool true) ∧ Below W.heap.size W w' := by
  subst hL
  have hm3 := i64_and3
  have hm7 := i64_and7
  have HL : Hid (StepsAt W a1 L) := w1
  clear w1
  go_enter Try.func17, Try.ntmps17
  go_wp2_with fail
  refine (mine_new _ W W (Below.refl _ _)).mono ?_
  rintro e x1 ⟨p, rfl, h1⟩
  generalize need0 = need at *
  go_wp2_with fail
  obtain ⟨q, hq⟩ : ∃ q, q = x1.heap.size := ⟨_, rfl⟩
  have h2 := VR.new (need := need) h1 q hq
  rw [← hq]
  clear hq h1
  obtain ⟨x2, hx2⟩ : ∃ x2, x2 = x1.alloc (.cells #[.int .i64 need, .slice none 0 0, .slice none 0 0] 90 (0, 0)) := ⟨_, rfl⟩
  rw [← hx2] at h2
  go_loopw [9] (fun i wr => ∃ (k : Nat) (C : List Ciph), k ≤ L.length ∧ k ≤ 40 ∧ i = .int .i64 k ∧ Kept W wr p q need C k) (fun i _ => 40 - (intOf i).toNat)
  case atStart => exact ⟨0, [], by omega, by omega, rfl, by rw [hx2] at h2; exact h2.congr (fun d => sharesAt_out [] d (by simp; omega)), by simp, by simp⟩
  case round =>
    obtain ⟨k, C, hk, hk40, rfl, hK⟩ := hrel
    clear h2 hx2
    by_cases hlt : k < L.length ∧ k < 40
    · obtain ⟨hkl, hk4⟩ := hlt
      have hd1 : decide ((k : Int) < 40) = true := by simp; omega
      have hd2 : decide ((k : Int) < (L.length : Int)) = true := by simp; omega
      obtain ⟨b, off, ab, cb, rfl, hnil, hpm, wk, wa, wb, hcell⟩ := steps_fix HL.out hkl
      obtain ⟨⟨kk, sa, sb, pl⟩, hs⟩ : ∃ s, s = L.getD k default := ⟨_, rfl⟩
      rw [← hs] at hnil hpm wk wa wb hcell
      clear hs
      dsimp only at hnil hpm wk wa wb hcell
      have HCELL := Lib.hid hcell
      have HNIL := Lib.hid hnil
      have HWA : Hid ((Lit.int .i64 (sa)).wf = true) := wa
      clear hcell hnil wk wa wb
      obtain ⟨h2, hbC⟩ := hK
      have HB := Lib.hid hbC
      clear hbC
      obtain ⟨c0, c1, c2, c3, hby⟩ := HCELL.out wr h2.below
      have hk01 : (k : Int) < (L.length : Int) := by omega
      have HBY := Lib.hid hby
      clear hby
      go_wp2_with fail
      go_quiet (fail)
      have h3 : VR W (wr.drewN nq) p q (max need 1) C need (rowOf C) (sharesAt C) k := h2.chg0 ((Chg.refl _ _).drewN nq)
      obtain ⟨c0, c1, c2, c3, hby⟩ := HCELL.out (wr.drewN nq) h3.below
      clear h2 HBY
      obtain ⟨wq, hwq'⟩ : ∃ wq, wq = wr.drewN nq := ⟨_, rfl⟩
      rw [← hwq'] at h3 c0 c1 c2 c3 hby
      rw [← hwq']
      clear hwq'
      have HBY := Lib.hid hby
      clear hby
      by_cases h200 : pl.length ≤ 200
      · have hd3 : decide (200 < (pl.length : Int)) = false := by simp only [decide_eq_false_iff_not]; omega
        have hpl2 : pl.length ≤ 200 := h200
        by_cases hz : kk % 8 = 0
        · skip
          have hk0 : (kk % 8 == 0) = true := by simp [hz]
          have hk1 : (kk % 8 == 1) = false := by simp [hz]
          have hk2 : (kk % 8 == 2) = false := by simp [hz]
          have hk3 : (kk % 8 == 3) = false := by simp [hz]

          have hwz : ∀ z, Below W.heap.size W z → z.cell? ⟨b, off + k * 4 + 3, none⟩ = some (.slice ab pl.length cb) := fun z hz => (HCELL.out z hz).2.2.2.1
          have HWZ := Lib.hid hwz
          clear hwz
          have hcl1 : C.length ≤ 1000000000 := by have := HB.out.1; omega
          have hcl2 : (rowOf C).length ≤ 1000000000 := by rw [rowOf_length]; exact hcl1
          have hpl9 : pl.length ≤ 1000000000 := by omega
          have hwr : IntKind.i64.wrap ((k : Int) + 1) = (k : Int) + 1 := by rw [IntKind.wrap_i64]; omega
          go_wp2_with fail
          go_region_held3 (fun x : World => x.cell? ⟨b, off + k * 4 + 3, none⟩ = some (.slice ab pl.length cb)) (go_keep) (first
            | (go_at_call 44; refine (vr_seal p q (max need 1) C need _ _ _ (sa) ab pl cb W _ (h3.chg0 (Chg.refl _ _).drew) hcl1 (HBY.out.chg0 (Chg.refl _ _).drew) HNIL.out hpl9).mono ?_; rintro e w4 ⟨rfl, h4⟩; have hd4 := HWZ.out w4 h4.below)
            | (go_at_call 51; refine (vr_rseal p q (max need 1) _ need _ _ k (sa) ab pl cb W _ h4 hcl2 (HCELL.out _ h4.below).2.2.2.2).mono ?_; rintro e w5 ⟨rfl, h5⟩; rw [rowOf_length]; have hd5 := HWZ.out w5 h5.below))
          rename_i hHeld
          have hK5 := kept_seal h5 HB.out hpl2
          clear hHeld h3 h4 h5 hd4 hd5 HWZ

          obtain ⟨C', hC'⟩ : ∃ C', C' = C ++ [⟨sa, pl, []⟩] := ⟨_, rfl⟩
          rw [← hC'] at hK5
          clear hC'
          obtain ⟨hT5, hb5⟩ := hK5
          have HB5 := Lib.hid hb5
          clear hb5 HBY HNIL HCELL c0 c1 c2 c3 HB
          obtain ⟨r, hr⟩ : ∃ r, r = openAt (max need 1) C' (sa) (sb) := ⟨_, rfl⟩
          have HR := Lib.hid hr
          clear hr
          go_wp2_with fail
          refine (mine_open_any p (max need 1) _ (sa) (sb) W w5 hT5.mine (fun r hr => by have := HB5.out.2 r hr; omega)).mono ?_
          rw [← HR.out]
          intro e w6 ho6
          obtain ⟨a6, cp6, rfl, hx6, hc6⟩ := ho6.bytes
          have hT6 := hT5.chg0 hc6
          clear ho6 hc6 hT5
          go_wp2_with fail
          refine (vr_ropen_any p q (max need 1) _ need _ _ (k + 1) (sa) (sb) W w6 hT6 (by omega) (by rw [rowOf_length]; have := HB5.out.1; omega)).mono ?_
          rw [opens_same, ← HR.out]
          intro e w7 ho7
          obtain ⟨a7, cp7, rfl, hx7, hc7⟩ := ho7.bytes
          have hT7 := hT6.chg0 hc7
          replace hx6 := hx6.chg0 hc7
          clear ho7 hc7 hT6 HR
          have hbne : (r.isSome != r.isSome) = false := by cases r <;> rfl
          obtain ⟨rb, hrb⟩ : ∃ rb, rb = r.isSome := ⟨_, rfl⟩
          obtain ⟨rl, hrl⟩ : ∃ rl, rl = r.getD [] := ⟨_, rfl⟩
          rw [← hrl] at hx6 hx7
          rw [← hrb] at hbne
          rw [← hrl, ← hrb]
          clear hrb hrl
          go_wp2_with fail
          refine (same_any a6 a7 _ _ cp6 cp7 w7 hx6 hx7).mono ?_
          rintro e _ ⟨rfl, rfl⟩
          rw [decide_eq_true (rfl : rl = rl)]
          clear hx6 hx7
          go_wp2_with fail
          refine (mine_shares_any p _ _ (sb) W w7 hT7.mine (fun r hr => by have := HB5.out.2 r hr; omega)).mono ?_
          intro e w8 ho8
          obtain ⟨a8, cp8, rfl, hi8, hB8, -⟩ := ho8.open
          have hT8 := hT7.chg0 (Chg.of_below hB8)
          clear ho8 hB8 hT7
          go_wp2_with fail
          refine (vr_rshares_any p q (max need 1) _ need _ _ (k + 1) (sb) W w8 hT8 (by omega) (by rw [rowOf_length]; exact sharesAt_out _ _)).mono ?_
          rintro e w9 ⟨a9, cp9, rfl, hi9, -, hB9⟩
          have hT9 := hT8.chg0 (Chg.of_below hB9)
          replace hi8 := hi8.chg0 (Chg.of_below hB9)
          clear hB9 hT8
          have hsl := HB5.out.shares (sb)
          obtain ⟨S, hS⟩ : ∃ S, S = sharesAt C' (sb) := ⟨_, rfl⟩
          rw [← hS] at hi8 hi9 hsl
          rw [← hS]
          have HS := Lib.hid hS
          clear hS
          rw [← rising_length S] at *
          go_wp2_with fail
          refine (sameints_any a8 a9 _ _ cp8 cp9 w9 hi8 hi9 (by omega) (by omega)).mono ?_
          rintro e wz ⟨rfl, hcz⟩
          rw [decide_eq_true (rfl : rising S = rising S)]
          have hTz := hT9.chg0 hcz
          clear hT9 hcz hi8 hi9
          go_wp2_with fail
          refine (mine_len p _ _ W wz hTz.mine).mono ?_
          rintro e _ ⟨rfl, rfl⟩
          go_wp2_with fail
          refine (vr_rlen p q _ _ need _ _ _ W wz hTz).mono ?_
          rintro e _ ⟨rfl, rfl⟩
          rw [rowOf_length]
          go_wp2_with fail
          refine (vr_rshares_any p q (max need 1) _ need _ _ (k + 1) (sb) W wz hTz (by omega) (by rw [rowOf_length]; exact sharesAt_out _ _)).mono ?_
          rw [← HS.out]
          rintro e wa ⟨aa, cpa, rfl, hia, -, hBa⟩
          rw [← rising_length S]
          have hTa := hTz.chg0 (Chg.of_below hBa)
          clear hBa hTz
          have hmem : ∀ x, x ∈ rising S ↔ x ∈ S := fun x => mem_rising
          have HMEM := Lib.hid hmem
          clear hmem
          generalize rising S = Z at *
          go_wp2_with fail
          go_loopw [144, 16] (fun i h wx => ∃ j : Nat, j ≤ Z.length ∧ i = .int .i64 j ∧ h = .bool (decide (sa ∈ Z.take j)) ∧ IntsAt wx aa Z ∧ VR W wx p q (max need 1) C' need (rowOf C') (sharesAt C') (k + 1)) (fun i _ _ => Z.length - (intOf i).toNat)
          case atStart => exact ⟨0, by omega, rfl, by simp, hia, hTa⟩
          case round =>
            clear hia hTa
            obtain ⟨j, hj, rfl, rfl, hia, hTa⟩ := hrel
            by_cases hjl : j < Z.length
            · have hia' := hia
              rcases hia' with h | ⟨bz, offz, rfl, hcz⟩
              · rw [h] at hjl; cases hjl
              have hz := hcz j hjl
              have hjl1 : (j : Int) < (Z.length : Int) := by omega
              have hnx := take_mem Z j hjl (sa)
              have HNX := Lib.hid hnx
              clear hnx hcz
              obtain ⟨hv, hhv⟩ : ∃ hv, hv = decide (sa ∈ Z.take j) := ⟨_, rfl⟩
              rw [← hhv] at HNX
              rw [← hhv]
              clear hhv
              cases hv
              all_goals
                go_wp2_with fail
                go_roundw
                case rel => exact ⟨j + 1, by omega, by go_num, by rw [HNX.out]; simp [hjl], hia, hTa⟩
                case measure => simp [intOf]; omega
            · have hjz : j = Z.length := by omega
              subst hjz
              rw [List.take_length]
              have hd9 : decide (sa ∈ Z) = decide (sa ∈ sharesAt C' (sb)) := by rw [← HS.out]; exact decide_eq_decide.2 (HMEM.out _)
              rw [hd9]
              obtain ⟨hv, hhv⟩ : ∃ hv, hv = decide (sa ∈ sharesAt C' (sb)) := ⟨_, rfl⟩
              rw [← hhv]
              have HV := Lib.hid hhv
              have hvne : (hv != hv) = false := by cases hv <;> rfl
              clear hhv hd9 hia
              go_wp2_with fail
              refine (mine_shared_any p _ _ (sa) (sb) W _ hTa.mine).mono ?_
              rintro e _ ⟨rfl, rfl⟩
              rw [← HV.out]
              go_wp2_with fail
              go_roundw
              case rel => exact ⟨k + 1, C', by omega, by omega, by go_num, hTa, HB5.out⟩
              case measure => simp [intOf]; omega
        by_cases hz1 : kk % 8 = 1
        · skip
          have hk0 : (kk % 8 == 0) = false := by simp [hz1]
          have hk1 : (kk % 8 == 1) = true := by simp [hz1]
          have hk2 : (kk % 8 == 2) = false := by simp [hz1]
          have hk3 : (kk % 8 == 3) = false := by simp [hz1]

          go_wp2_with fail
          refine (vr_share_any p q (max need 1) C need _ _ _ (sa) (sb) W wq h3 HWA.out).mono ?_
          rintro e w4 ⟨rfl, h4⟩
          rw [isSome_iff]
          obtain ⟨o4, ho4⟩ : ∃ b, b = decide (1 ≤ (sb) ∧ (sb) ≤ (C.length : Int)) := ⟨_, rfl⟩
          rw [← ho4]
          have HO4 := Lib.hid ho4
          have hone : (o4 != o4) = false := by cases o4 <;> rfl
          clear ho4
          go_wp2_with fail
          refine (vr_rshare_any p q (max need 1) _ need _ _ k (sa) (sb) W w4 h4 (by omega)).mono ?_
          rintro e w5 ⟨rfl, h5⟩
          rw [rowOf_length, ← HO4.out]
          have hK5 := kept_share h5 HB.out
          clear h4 h5 h3 HO4

          obtain ⟨C', hC'⟩ : ∃ C', C' = shareAt C (sa) (sb) := ⟨_, rfl⟩
          rw [← hC'] at hK5
          clear hC'
          obtain ⟨hT5, hb5⟩ := hK5
          have HB5 := Lib.hid hb5
          clear hb5 HBY HNIL HCELL c0 c1 c2 c3 HB
          obtain ⟨r, hr⟩ : ∃ r, r = openAt (max need 1) C' (sa) (sb) := ⟨_, rfl⟩
          have HR := Lib.hid hr
          clear hr
          go_wp2_with fail
          refine (mine_open_any p (max need 1) _ (sa) (sb) W w5 hT5.mine (fun r hr => by have := HB5.out.2 r hr; omega)).mono ?_
          rw [← HR.out]
          intro e w6 ho6
          obtain ⟨a6, cp6, rfl, hx6, hc6⟩ := ho6.bytes
          have hT6 := hT5.chg0 hc6
          clear ho6 hc6 hT5
          go_wp2_with fail
          refine (vr_ropen_any p q (max need 1) _ need _ _ (k + 1) (sa) (sb) W w6 hT6 (by omega) (by rw [rowOf_length]; have := HB5.out.1; omega)).mono ?_
          rw [opens_same, ← HR.out]
          intro e w7 ho7
          obtain ⟨a7, cp7, rfl, hx7, hc7⟩ := ho7.bytes
          have hT7 := hT6.chg0 hc7
          replace hx6 := hx6.chg0 hc7
          clear ho7 hc7 hT6 HR
          have hbne : (r.isSome != r.isSome) = false := by cases r <;> rfl
          obtain ⟨rb, hrb⟩ : ∃ rb, rb = r.isSome := ⟨_, rfl⟩
          obtain ⟨rl, hrl⟩ : ∃ rl, rl = r.getD [] := ⟨_, rfl⟩
          rw [← hrl] at hx6 hx7
          rw [← hrb] at hbne
          rw [← hrl, ← hrb]
          clear hrb hrl
          go_wp2_with fail
          refine (same_any a6 a7 _ _ cp6 cp7 w7 hx6 hx7).mono ?_
          rintro e _ ⟨rfl, rfl⟩
          rw [decide_eq_true (rfl : rl = rl)]
          clear hx6 hx7
          go_wp2_with fail
          refine (mine_shares_any p _ _ (sb) W w7 hT7.mine (fun r hr => by have := HB5.out.2 r hr; omega)).mono ?_
          intro e w8 ho8
          obtain ⟨a8, cp8, rfl, hi8, hB8, -⟩ := ho8.open
          have hT8 := hT7.chg0 (Chg.of_below hB8)
          clear ho8 hB8 hT7
          go_wp2_with fail
          refine (vr_rshares_any p q (max need 1) _ need _ _ (k + 1) (sb) W w8 hT8 (by omega) (by rw [rowOf_length]; exact sharesAt_out _ _)).mono ?_
          rintro e w9 ⟨a9, cp9, rfl, hi9, -, hB9⟩
          have hT9 := hT8.chg0 (Chg.of_below hB9)
          replace hi8 := hi8.chg0 (Chg.of_below hB9)
          clear hB9 hT8
          have hsl := HB5.out.shares (sb)
          obtain ⟨S, hS⟩ : ∃ S, S = sharesAt C' (sb) := ⟨_, rfl⟩
          rw [← hS] at hi8 hi9 hsl
          rw [← hS]
          have HS := Lib.hid hS
          clear hS
          rw [← rising_length S] at *
          go_wp2_with fail
          refine (sameints_any a8 a9 _ _ cp8 cp9 w9 hi8 hi9 (by omega) (by omega)).mono ?_
          rintro e wz ⟨rfl, hcz⟩
          rw [decide_eq_true (rfl : rising S = rising S)]
          have hTz := hT9.chg0 hcz
          clear hT9 hcz hi8 hi9
          go_wp2_with fail
          refine (mine_len p _ _ W wz hTz.mine).mono ?_
          rintro e _ ⟨rfl, rfl⟩
          go_wp2_with fail
          refine (vr_rlen p q _ _ need _ _ _ W wz hTz).mono ?_
          rintro e _ ⟨rfl, rfl⟩
          rw [rowOf_length]
          go_wp2_with fail
          refine (vr_rshares_any p q (max need 1) _ need _ _ (k + 1) (sb) W wz hTz (by omega) (by rw [rowOf_length]; exact sharesAt_out _ _)).mono ?_
          rw [← HS.out]
          rintro e wa ⟨aa, cpa, rfl, hia, -, hBa⟩
          rw [← rising_length S]
          have hTa := hTz.chg0 (Chg.of_below hBa)
          clear hBa hTz
          have hmem : ∀ x, x ∈ rising S ↔ x ∈ S := fun x => mem_rising
          have HMEM := Lib.hid hmem
          clear hmem
          generalize rising S = Z at *
          go_wp2_with fail
          go_loopw [144, 16] (fun i h wx => ∃ j : Nat, j ≤ Z.length ∧ i = .int .i64 j ∧ h = .bool (decide (sa ∈ Z.take j)) ∧ IntsAt wx aa Z ∧ VR W wx p q (max need 1) C' need (rowOf C') (sharesAt C') (k + 1)) (fun i _ _ => Z.length - (intOf i).toNat)
          case atStart => exact ⟨0, by omega, rfl, by simp, hia, hTa⟩
          case round =>
            clear hia hTa
            obtain ⟨j, hj, rfl, rfl, hia, hTa⟩ := hrel
            by_cases hjl : j < Z.length
            · have hia' := hia
              rcases hia' with h | ⟨bz, offz, rfl, hcz⟩
              · rw [h] at hjl; cases hjl
              have hz := hcz j hjl
              have hjl1 : (j : Int) < (Z.length : Int) := by omega
              have hnx := take_mem Z j hjl (sa)
              have HNX := Lib.hid hnx
              clear hnx hcz
              obtain ⟨hv, hhv⟩ : ∃ hv, hv = decide (sa ∈ Z.take j) := ⟨_, rfl⟩
              rw [← hhv] at HNX
              rw [← hhv]
              clear hhv
              cases hv
              all_goals
                go_wp2_with fail
                go_roundw
                case rel => exact ⟨j + 1, by omega, by go_num, by rw [HNX.out]; simp [hjl], hia, hTa⟩
                case measure => simp [intOf]; omega
            · have hjz : j = Z.length := by omega
              subst hjz
              rw [List.take_length]
              have hd9 : decide (sa ∈ Z) = decide (sa ∈ sharesAt C' (sb)) := by rw [← HS.out]; exact decide_eq_decide.2 (HMEM.out _)
              rw [hd9]
              obtain ⟨hv, hhv⟩ : ∃ hv, hv = decide (sa ∈ sharesAt C' (sb)) := ⟨_, rfl⟩
              rw [← hhv]
              have HV := Lib.hid hhv
              have hvne : (hv != hv) = false := by cases hv <;> rfl
              clear hhv hd9 hia
              go_wp2_with fail
              refine (mine_shared_any p _ _ (sa) (sb) W _ hTa.mine).mono ?_
              rintro e _ ⟨rfl, rfl⟩
              rw [← HV.out]
              go_wp2_with fail
              go_roundw
              case rel => exact ⟨k + 1, C', by omega, by omega, by go_num, hTa, HB5.out⟩
              case measure => simp [intOf]; omega
        by_cases hz2 : kk % 8 = 2
        · skip
          have hk0 : (kk % 8 == 0) = false := by simp [hz2]
          have hk1 : (kk % 8 == 1) = false := by simp [hz2]
          have hk2 : (kk % 8 == 2) = true := by simp [hz2]
          have hk3 : (kk % 8 == 3) = false := by simp [hz2]

          go_wp2_with fail
          refine (vr_share_any p q (max need 1) C need _ _ _ (sa) (sb) W wq h3 HWA.out).mono ?_
          rintro e w4 ⟨rfl, h4⟩
          rw [isSome_iff]
          obtain ⟨o4, ho4⟩ : ∃ b, b = decide (1 ≤ (sb) ∧ (sb) ≤ (C.length : Int)) := ⟨_, rfl⟩
          rw [← ho4]
          have HO4 := Lib.hid ho4
          have hone : (o4 != o4) = false := by cases o4 <;> rfl
          clear ho4
          go_wp2_with fail
          refine (vr_rshare_any p q (max need 1) _ need _ _ k (sa) (sb) W w4 h4 (by omega)).mono ?_
          rintro e w5 ⟨rfl, h5⟩
          rw [rowOf_length, ← HO4.out]
          have hK5 := kept_share h5 HB.out
          clear h4 h5 h3 HO4

          obtain ⟨C', hC'⟩ : ∃ C', C' = shareAt C (sa) (sb) := ⟨_, rfl⟩
          rw [← hC'] at hK5
          clear hC'
          obtain ⟨hT5, hb5⟩ := hK5
          have HB5 := Lib.hid hb5
          clear hb5 HBY HNIL HCELL c0 c1 c2 c3 HB
          obtain ⟨r, hr⟩ : ∃ r, r = openAt (max need 1) C' (sa) (sb) := ⟨_, rfl⟩
          have HR := Lib.hid hr
          clear hr
          go_wp2_with fail
          refine (mine_open_any p (max need 1) _ (sa) (sb) W w5 hT5.mine (fun r hr => by have := HB5.out.2 r hr; omega)).mono ?_
          rw [← HR.out]
          intro e w6 ho6
          obtain ⟨a6, cp6, rfl, hx6, hc6⟩ := ho6.bytes
          have hT6 := hT5.chg0 hc6
          clear ho6 hc6 hT5
          go_wp2_with fail
          refine (vr_ropen_any p q (max need 1) _ need _ _ (k + 1) (sa) (sb) W w6 hT6 (by omega) (by rw [rowOf_length]; have := HB5.out.1; omega)).mono ?_
          rw [opens_same, ← HR.out]
          intro e w7 ho7
          obtain ⟨a7, cp7, rfl, hx7, hc7⟩ := ho7.bytes
          have hT7 := hT6.chg0 hc7
          replace hx6 := hx6.chg0 hc7
          clear ho7 hc7 hT6 HR
          have hbne : (r.isSome != r.isSome) = false := by cases r <;> rfl
          obtain ⟨rb, hrb⟩ : ∃ rb, rb = r.isSome := ⟨_, rfl⟩
          obtain ⟨rl, hrl⟩ : ∃ rl, rl = r.getD [] := ⟨_, rfl⟩
          rw [← hrl] at hx6 hx7
          rw [← hrb] at hbne
          rw [← hrl, ← hrb]
          clear hrb hrl
          go_wp2_with fail
          refine (same_any a6 a7 _ _ cp6 cp7 w7 hx6 hx7).mono ?_
          rintro e _ ⟨rfl, rfl⟩
          rw [decide_eq_true (rfl : rl = rl)]
          clear hx6 hx7
          go_wp2_with fail
          refine (mine_shares_any p _ _ (sb) W w7 hT7.mine (fun r hr => by have := HB5.out.2 r hr; omega)).mono ?_
          intro e w8 ho8
          obtain ⟨a8, cp8, rfl, hi8, hB8, -⟩ := ho8.open
          have hT8 := hT7.chg0 (Chg.of_below hB8)
          clear ho8 hB8 hT7
          go_wp2_with fail
          refine (vr_rshares_any p q (max need 1) _ need _ _ (k + 1) (sb) W w8 hT8 (by omega) (by rw [rowOf_length]; exact sharesAt_out _ _)).mono ?_
          rintro e w9 ⟨a9, cp9, rfl, hi9, -, hB9⟩
          have hT9 := hT8.chg0 (Chg.of_below hB9)
          replace hi8 := hi8.chg0 (Chg.of_below hB9)
          clear hB9 hT8
          have hsl := HB5.out.shares (sb)
          obtain ⟨S, hS⟩ : ∃ S, S = sharesAt C' (sb) := ⟨_, rfl⟩
          rw [← hS] at hi8 hi9 hsl
          rw [← hS]
          have HS := Lib.hid hS
          clear hS
          rw [← rising_length S] at *
          go_wp2_with fail
          refine (sameints_any a8 a9 _ _ cp8 cp9 w9 hi8 hi9 (by omega) (by omega)).mono ?_
          rintro e wz ⟨rfl, hcz⟩
          rw [decide_eq_true (rfl : rising S = rising S)]
          have hTz := hT9.chg0 hcz
          clear hT9 hcz hi8 hi9
          go_wp2_with fail
          refine (mine_len p _ _ W wz hTz.mine).mono ?_
          rintro e _ ⟨rfl, rfl⟩
          go_wp2_with fail
          refine (vr_rlen p q _ _ need _ _ _ W wz hTz).mono ?_
          rintro e _ ⟨rfl, rfl⟩
          rw [rowOf_length]
          go_wp2_with fail
          refine (vr_rshares_any p q (max need 1) _ need _ _ (k + 1) (sb) W wz hTz (by omega) (by rw [rowOf_length]; exact sharesAt_out _ _)).mono ?_
          rw [← HS.out]
          rintro e wa ⟨aa, cpa, rfl, hia, -, hBa⟩
          rw [← rising_length S]
          have hTa := hTz.chg0 (Chg.of_below hBa)
          clear hBa hTz
          have hmem : ∀ x, x ∈ rising S ↔ x ∈ S := fun x => mem_rising
          have HMEM := Lib.hid hmem
          clear hmem
          generalize rising S = Z at *
          go_wp2_with fail
          go_loopw [144, 16] (fun i h wx => ∃ j : Nat, j ≤ Z.length ∧ i = .int .i64 j ∧ h = .bool (decide (sa ∈ Z.take j)) ∧ IntsAt wx aa Z ∧ VR W wx p q (max need 1) C' need (rowOf C') (sharesAt C') (k + 1)) (fun i _ _ => Z.length - (intOf i).toNat)
          case atStart => exact ⟨0, by omega, rfl, by simp, hia, hTa⟩
          case round =>
            clear hia hTa
            obtain ⟨j, hj, rfl, rfl, hia, hTa⟩ := hrel
            by_cases hjl : j < Z.length
            · have hia' := hia
              rcases hia' with h | ⟨bz, offz, rfl, hcz⟩
              · rw [h] at hjl; cases hjl
              have hz := hcz j hjl
              have hjl1 : (j : Int) < (Z.length : Int) := by omega
              have hnx := take_mem Z j hjl (sa)
              have HNX := Lib.hid hnx
              clear hnx hcz
              obtain ⟨hv, hhv⟩ : ∃ hv, hv = decide (sa ∈ Z.take j) := ⟨_, rfl⟩
              rw [← hhv] at HNX
              rw [← hhv]
              clear hhv
              cases hv
              all_goals
                go_wp2_with fail
                go_roundw
                case rel => exact ⟨j + 1, by omega, by go_num, by rw [HNX.out]; simp [hjl], hia, hTa⟩
                case measure => simp [intOf]; omega
            · have hjz : j = Z.length := by omega
              subst hjz
              rw [List.take_length]
              have hd9 : decide (sa ∈ Z) = decide (sa ∈ sharesAt C' (sb)) := by rw [← HS.out]; exact decide_eq_decide.2 (HMEM.out _)
              rw [hd9]
              obtain ⟨hv, hhv⟩ : ∃ hv, hv = decide (sa ∈ sharesAt C' (sb)) := ⟨_, rfl⟩
              rw [← hhv]
              have HV := Lib.hid hhv
              have hvne : (hv != hv) = false := by cases hv <;> rfl
              clear hhv hd9 hia
              go_wp2_with fail
              refine (mine_shared_any p _ _ (sa) (sb) W _ hTa.mine).mono ?_
              rintro e _ ⟨rfl, rfl⟩
              rw [← HV.out]
              go_wp2_with fail
              go_roundw
              case rel => exact ⟨k + 1, C', by omega, by omega, by go_num, hTa, HB5.out⟩
              case measure => simp [intOf]; omega
        by_cases hz3 : kk % 8 = 3
        · skip
          have hk0 : (kk % 8 == 0) = false := by simp [hz3]
          have hk1 : (kk % 8 == 1) = false := by simp [hz3]
          have hk2 : (kk % 8 == 2) = false := by simp [hz3]
          have hk3 : (kk % 8 == 3) = true := by simp [hz3]

          go_wp2_with fail
          refine (vr_share_any p q (max need 1) C need _ _ _ (sa) (sb) W wq h3 HWA.out).mono ?_
          rintro e w4 ⟨rfl, h4⟩
          rw [isSome_iff]
          obtain ⟨o4, ho4⟩ : ∃ b, b = decide (1 ≤ (sb) ∧ (sb) ≤ (C.length : Int)) := ⟨_, rfl⟩
          rw [← ho4]
          have HO4 := Lib.hid ho4
          have hone : (o4 != o4) = false := by cases o4 <;> rfl
          clear ho4
          go_wp2_with fail
          refine (vr_rshare_any p q (max need 1) _ need _ _ k (sa) (sb) W w4 h4 (by omega)).mono ?_
          rintro e w5 ⟨rfl, h5⟩
          rw [rowOf_length, ← HO4.out]
          have hK5 := kept_share h5 HB.out
          clear h4 h5 h3 HO4

          obtain ⟨C', hC'⟩ : ∃ C', C' = shareAt C (sa) (sb) := ⟨_, rfl⟩
          rw [← hC'] at hK5
          clear hC'
          obtain ⟨hT5, hb5⟩ := hK5
          have HB5 := Lib.hid hb5
          clear hb5 HBY HNIL HCELL c0 c1 c2 c3 HB
          obtain ⟨r, hr⟩ : ∃ r, r = openAt (max need 1) C' (sa) (sb) := ⟨_, rfl⟩
          have HR := Lib.hid hr
          clear hr
          go_wp2_with fail
          refine (mine_open_any p (max need 1) _ (sa) (sb) W w5 hT5.mine (fun r hr => by have := HB5.out.2 r hr; omega)).mono ?_
          rw [← HR.out]
          intro e w6 ho6
          obtain ⟨a6, cp6, rfl, hx6, hc6⟩ := ho6.bytes
          have hT6 := hT5.chg0 hc6
          clear ho6 hc6 hT5
          go_wp2_with fail
          refine (vr_ropen_any p q (max need 1) _ need _ _ (k + 1) (sa) (sb) W w6 hT6 (by omega) (by rw [rowOf_length]; have := HB5.out.1; omega)).mono ?_
          rw [opens_same, ← HR.out]
          intro e w7 ho7
          obtain ⟨a7, cp7, rfl, hx7, hc7⟩ := ho7.bytes
          have hT7 := hT6.chg0 hc7
          replace hx6 := hx6.chg0 hc7
          clear ho7 hc7 hT6 HR
          have hbne : (r.isSome != r.isSome) = false := by cases r <;> rfl
          obtain ⟨rb, hrb⟩ : ∃ rb, rb = r.isSome := ⟨_, rfl⟩
          obtain ⟨rl, hrl⟩ : ∃ rl, rl = r.getD [] := ⟨_, rfl⟩
          rw [← hrl] at hx6 hx7
          rw [← hrb] at hbne
          rw [← hrl, ← hrb]
          clear hrb hrl
          go_wp2_with fail
          refine (same_any a6 a7 _ _ cp6 cp7 w7 hx6 hx7).mono ?_
          rintro e _ ⟨rfl, rfl⟩
          rw [decide_eq_true (rfl : rl = rl)]
          clear hx6 hx7
          go_wp2_with fail
          refine (mine_shares_any p _ _ (sb) W w7 hT7.mine (fun r hr => by have := HB5.out.2 r hr; omega)).mono ?_
          intro e w8 ho8
          obtain ⟨a8, cp8, rfl, hi8, hB8, -⟩ := ho8.open
          have hT8 := hT7.chg0 (Chg.of_below hB8)
          clear ho8 hB8 hT7
          go_wp2_with fail
          refine (vr_rshares_any p q (max need 1) _ need _ _ (k + 1) (sb) W w8 hT8 (by omega) (by rw [rowOf_length]; exact sharesAt_out _ _)).mono ?_
          rintro e w9 ⟨a9, cp9, rfl, hi9, -, hB9⟩
          have hT9 := hT8.chg0 (Chg.of_below hB9)
          replace hi8 := hi8.chg0 (Chg.of_below hB9)
          clear hB9 hT8
          have hsl := HB5.out.shares (sb)
          obtain ⟨S, hS⟩ : ∃ S, S = sharesAt C' (sb) := ⟨_, rfl⟩
          rw [← hS] at hi8 hi9 hsl
          rw [← hS]
          have HS := Lib.hid hS
          clear hS
          rw [← rising_length S] at *
          go_wp2_with fail
          refine (sameints_any a8 a9 _ _ cp8 cp9 w9 hi8 hi9 (by omega) (by omega)).mono ?_
          rintro e wz ⟨rfl, hcz⟩
          rw [decide_eq_true (rfl : rising S = rising S)]
          have hTz := hT9.chg0 hcz
          clear hT9 hcz hi8 hi9
          go_wp2_with fail
          refine (mine_len p _ _ W wz hTz.mine).mono ?_
          rintro e _ ⟨rfl, rfl⟩
          go_wp2_with fail
          refine (vr_rlen p q _ _ need _ _ _ W wz hTz).mono ?_
          rintro e _ ⟨rfl, rfl⟩
          rw [rowOf_length]
          go_wp2_with fail
          refine (vr_rshares_any p q (max need 1) _ need _ _ (k + 1) (sb) W wz hTz (by omega) (by rw [rowOf_length]; exact sharesAt_out _ _)).mono ?_
          rw [← HS.out]
          rintro e wa ⟨aa, cpa, rfl, hia, -, hBa⟩
          rw [← rising_length S]
          have hTa := hTz.chg0 (Chg.of_below hBa)
          clear hBa hTz
          have hmem : ∀ x, x ∈ rising S ↔ x ∈ S := fun x => mem_rising
          have HMEM := Lib.hid hmem
          clear hmem
          generalize rising S = Z at *
          go_wp2_with fail
          go_loopw [144, 16] (fun i h wx => ∃ j : Nat, j ≤ Z.length ∧ i = .int .i64 j ∧ h = .bool (decide (sa ∈ Z.take j)) ∧ IntsAt wx aa Z ∧ VR W wx p q (max need 1) C' need (rowOf C') (sharesAt C') (k + 1)) (fun i _ _ => Z.length - (intOf i).toNat)
          case atStart => exact ⟨0, by omega, rfl, by simp, hia, hTa⟩
          case round =>
            clear hia hTa
            obtain ⟨j, hj, rfl, rfl, hia, hTa⟩ := hrel
            by_cases hjl : j < Z.length
            · have hia' := hia
              rcases hia' with h | ⟨bz, offz, rfl, hcz⟩
              · rw [h] at hjl; cases hjl
              have hz := hcz j hjl
              have hjl1 : (j : Int) < (Z.length : Int) := by omega
              have hnx := take_mem Z j hjl (sa)
              have HNX := Lib.hid hnx
              clear hnx hcz
              obtain ⟨hv, hhv⟩ : ∃ hv, hv = decide (sa ∈ Z.take j) := ⟨_, rfl⟩
              rw [← hhv] at HNX
              rw [← hhv]
              clear hhv
              cases hv
              all_goals
                go_wp2_with fail
                go_roundw
                case rel => exact ⟨j + 1, by omega, by go_num, by rw [HNX.out]; simp [hjl], hia, hTa⟩
                case measure => simp [intOf]; omega
            · have hjz : j = Z.length := by omega
              subst hjz
              rw [List.take_length]
              have hd9 : decide (sa ∈ Z) = decide (sa ∈ sharesAt C' (sb)) := by rw [← HS.out]; exact decide_eq_decide.2 (HMEM.out _)
              rw [hd9]
              obtain ⟨hv, hhv⟩ : ∃ hv, hv = decide (sa ∈ sharesAt C' (sb)) := ⟨_, rfl⟩
              rw [← hhv]
              have HV := Lib.hid hhv
              have hvne : (hv != hv) = false := by cases hv <;> rfl
              clear hhv hd9 hia
              go_wp2_with fail
              refine (mine_shared_any p _ _ (sa) (sb) W _ hTa.mine).mono ?_
              rintro e _ ⟨rfl, rfl⟩
              rw [← HV.out]
              go_wp2_with fail
              go_roundw
              case rel => exact ⟨k + 1, C', by omega, by omega, by go_num, hTa, HB5.out⟩
              case measure => simp [intOf]; omega
        have hk0 : (kk % 8 == 0) = false := by simpa using hz
        have hk1 : (kk % 8 == 1) = false := by simpa using hz1
        have hk2 : (kk % 8 == 2) = false := by simpa using hz2
        have hk3 : (kk % 8 == 3) = false := by simpa using hz3

        have hK5 : Kept W wq p q need C (k + 1) := kept_more ⟨h3, HB.out⟩
        generalize wq = w5 at *
        clear h3

        obtain ⟨C', hC'⟩ : ∃ C', C' = C := ⟨_, rfl⟩
        rw [← hC'] at hK5
        clear hC'
        obtain ⟨hT5, hb5⟩ := hK5
        have HB5 := Lib.hid hb5
        clear hb5 HBY HNIL HCELL HB
        obtain ⟨r, hr⟩ : ∃ r, r = openAt (max need 1) C' (sa) (sb) := ⟨_, rfl⟩
        have HR := Lib.hid hr
        clear hr
        go_wp2_with fail
        refine (mine_open_any p (max need 1) _ (sa) (sb) W w5 hT5.mine (fun r hr => by have := HB5.out.2 r hr; omega)).mono ?_
        rw [← HR.out]
        intro e w6 ho6
        obtain ⟨a6, cp6, rfl, hx6, hc6⟩ := ho6.bytes
        have hT6 := hT5.chg0 hc6
        clear ho6 hc6 hT5
        go_wp2_with fail
        refine (vr_ropen_any p q (max need 1) _ need _ _ (k + 1) (sa) (sb) W w6 hT6 (by omega) (by rw [rowOf_length]; have := HB5.out.1; omega)).mono ?_
        rw [opens_same, ← HR.out]
        intro e w7 ho7
        obtain ⟨a7, cp7, rfl, hx7, hc7⟩ := ho7.bytes
        have hT7 := hT6.chg0 hc7
        replace hx6 := hx6.chg0 hc7
        clear ho7 hc7 hT6 HR
        have hbne : (r.isSome != r.isSome) = false := by cases r <;> rfl
        obtain ⟨rb, hrb⟩ : ∃ rb, rb = r.isSome := ⟨_, rfl⟩
        obtain ⟨rl, hrl⟩ : ∃ rl, rl = r.getD [] := ⟨_, rfl⟩
        rw [← hrl] at hx6 hx7
        rw [← hrb] at hbne
        rw [← hrl, ← hrb]
        clear hrb hrl
        go_wp2_with fail
        refine (same_any a6 a7 _ _ cp6 cp7 w7 hx6 hx7).mono ?_
        rintro e _ ⟨rfl, rfl⟩
        rw [decide_eq_true (rfl : rl = rl)]
        clear hx6 hx7
        go_wp2_with fail
        refine (mine_shares_any p _ _ (sb) W w7 hT7.mine (fun r hr => by have := HB5.out.2 r hr; omega)).mono ?_
        intro e w8 ho8
        obtain ⟨a8, cp8, rfl, hi8, hB8, -⟩ := ho8.open
        have hT8 := hT7.chg0 (Chg.of_below hB8)
        clear ho8 hB8 hT7
        go_wp2_with fail
        refine (vr_rshares_any p q (max need 1) _ need _ _ (k + 1) (sb) W w8 hT8 (by omega) (by rw [rowOf_length]; exact sharesAt_out _ _)).mono ?_
        rintro e w9 ⟨a9, cp9, rfl, hi9, -, hB9⟩
        have hT9 := hT8.chg0 (Chg.of_below hB9)
        replace hi8 := hi8.chg0 (Chg.of_below hB9)
        clear hB9 hT8
        have hsl := HB5.out.shares (sb)
        obtain ⟨S, hS⟩ : ∃ S, S = sharesAt C' (sb) := ⟨_, rfl⟩
        rw [← hS] at hi8 hi9 hsl
        rw [← hS]
        have HS := Lib.hid hS
        clear hS
        rw [← rising_length S] at *
        go_wp2_with fail
        refine (sameints_any a8 a9 _ _ cp8 cp9 w9 hi8 hi9 (by omega) (by omega)).mono ?_
        rintro e wz ⟨rfl, hcz⟩
        rw [decide_eq_true (rfl : rising S = rising S)]
        have hTz := hT9.chg0 hcz
        clear hT9 hcz hi8 hi9
        go_wp2_with fail
        refine (mine_len p _ _ W wz hTz.mine).mono ?_
        rintro e _ ⟨rfl, rfl⟩
        go_wp2_with fail
        refine (vr_rlen p q _ _ need _ _ _ W wz hTz).mono ?_
        rintro e _ ⟨rfl, rfl⟩
        rw [rowOf_length]
        go_wp2_with fail
        refine (vr_rshares_any p q (max need 1) _ need _ _ (k + 1) (sb) W wz hTz (by omega) (by rw [rowOf_length]; exact sharesAt_out _ _)).mono ?_
        rw [← HS.out]
        rintro e wa ⟨aa, cpa, rfl, hia, -, hBa⟩
        rw [← rising_length S]
        have hTa := hTz.chg0 (Chg.of_below hBa)
        clear hBa hTz
        have hmem : ∀ x, x ∈ rising S ↔ x ∈ S := fun x => mem_rising
        have HMEM := Lib.hid hmem
        clear hmem
        generalize rising S = Z at *
        go_wp2_with fail
        go_loopw [144, 16] (fun i h wx => ∃ j : Nat, j ≤ Z.length ∧ i = .int .i64 j ∧ h = .bool (decide (sa ∈ Z.take j)) ∧ IntsAt wx aa Z ∧ VR W wx p q (max need 1) C' need (rowOf C') (sharesAt C') (k + 1)) (fun i _ _ => Z.length - (intOf i).toNat)
        case atStart => exact ⟨0, by omega, rfl, by simp, hia, hTa⟩
        case round =>
          clear hia hTa
          obtain ⟨j, hj, rfl, rfl, hia, hTa⟩ := hrel
          by_cases hjl : j < Z.length
          · have hia' := hia
            rcases hia' with h | ⟨bz, offz, rfl, hcz⟩
            · rw [h] at hjl; cases hjl
            have hz := hcz j hjl
            have hjl1 : (j : Int) < (Z.length : Int) := by omega
            have hnx := take_mem Z j hjl (sa)
            have HNX := Lib.hid hnx
            clear hnx hcz
            obtain ⟨hv, hhv⟩ : ∃ hv, hv = decide (sa ∈ Z.take j) := ⟨_, rfl⟩
            rw [← hhv] at HNX
            rw [← hhv]
            clear hhv
            cases hv
            all_goals
              go_wp2_with fail
              go_roundw
              case rel => exact ⟨j + 1, by omega, by go_num, by rw [HNX.out]; simp [hjl], hia, hTa⟩
              case measure => simp [intOf]; omega
          · have hjz : j = Z.length := by omega
            subst hjz
            rw [List.take_length]
            have hd9 : decide (sa ∈ Z) = decide (sa ∈ sharesAt C' (sb)) := by rw [← HS.out]; exact decide_eq_decide.2 (HMEM.out _)
            rw [hd9]
            obtain ⟨hv, hhv⟩ : ∃ hv, hv = decide (sa ∈ sharesAt C' (sb)) := ⟨_, rfl⟩
            rw [← hhv]
            have HV := Lib.hid hhv
            have hvne : (hv != hv) = false := by cases hv <;> rfl
            clear hhv hd9 hia
            go_wp2_with fail
            refine (mine_shared_any p _ _ (sa) (sb) W _ hTa.mine).mono ?_
            rintro e _ ⟨rfl, rfl⟩
            rw [← HV.out]
            go_wp2_with fail
            go_roundw
            case rel => exact ⟨k + 1, C', by omega, by omega, by go_num, hTa, HB5.out⟩
            case measure => simp [intOf]; omega
      · have hd3 : decide (200 < (pl.length : Int)) = true := by simp only [decide_eq_true_eq]; omega
        go_wp2_with fail
        refine (seal_awake wq).mono ?_
        rintro e w4 ⟨rfl, hB4⟩
        go_wp2_with fail
        go_ret
        exact ⟨rfl, h3.below.trans (hB4.mono h3.below.size)⟩
    · clear HL
      obtain ⟨h2, hbC⟩ := hK
      by_cases h40 : k < 40
      · have hk4 : decide ((k : Int) < (L.length : Int)) = false := by simp; omega
        go_wp2_with fail
        refine (seal_awake wr).mono ?_
        rintro e w4 ⟨rfl, hB4⟩
        go_wp2_with fail
        go_ret
        exact ⟨rfl, h2.below.trans (hB4.mono h2.below.size)⟩
      · have : k = 40 := by omega
        subst this
        obtain ⟨v1, hv1⟩ : ∃ v1, decide ((40 : Int) < (L.length : Int)) = v1 := ⟨_, rfl⟩
        cases v1
        all_goals
          go_wp2_with fail
          refine (seal_awake wr).mono ?_
          rintro e w4 ⟨rfl, hB4⟩
          go_wp2_with fail
          go_ret
          exact ⟨rfl, h2.below.trans (hB4.mono h2.below.size)⟩

set_option maxRecDepth 100000 in
set_option maxHeartbeats 8000000 in
theorem walk_true (W : World) (need0 : Int) (a1 : Option Addr) (len1 cap1 : Nat) (L : List StepX) (hL : L.length = len1) (w1 : StepsAt W a1 L) :
    Calls Try.prog 17 #[.int .i64 need0, .slice a1 len1 cap1, .bool true] W fun e w' => e = .returned (.bool true) ∧ Below W.heap.size W w' := by
  subst hL
  have hm3 := i64_and3
  have hm7 := i64_and7
  have HL : Hid (StepsAt W a1 L) := w1
  clear w1
  go_enter Try.func17, Try.ntmps17
  go_wp2_with fail
  refine (mine_new _ W W (Below.refl _ _)).mono ?_
  rintro e x1 ⟨p, rfl, h1⟩
  generalize (need0 % 4) = need at *
  go_wp2_with fail
  obtain ⟨q, hq⟩ : ∃ q, q = x1.heap.size := ⟨_, rfl⟩
  have h2 := VR.new (need := need) h1 q hq
  rw [← hq]
  clear hq h1
  obtain ⟨x2, hx2⟩ : ∃ x2, x2 = x1.alloc (.cells #[.int .i64 need, .slice none 0 0, .slice none 0 0] 90 (0, 0)) := ⟨_, rfl⟩
  rw [← hx2] at h2
  go_loopw [9] (fun i wr => ∃ (k : Nat) (C : List Ciph), k ≤ L.length ∧ k ≤ 40 ∧ i = .int .i64 k ∧ Kept W wr p q need C k) (fun i _ => 40 - (intOf i).toNat)
  case atStart => exact ⟨0, [], by omega, by omega, rfl, by rw [hx2] at h2; exact h2.congr (fun d => sharesAt_out [] d (by simp; omega)), by simp, by simp⟩
  case round =>
    obtain ⟨k, C, hk, hk40, rfl, hK⟩ := hrel
    clear h2 hx2
    by_cases hlt : k < L.length ∧ k < 40
    · obtain ⟨hkl, hk4⟩ := hlt
      have hd1 : decide ((k : Int) < 40) = true := by simp; omega
      have hd2 : decide ((k : Int) < (L.length : Int)) = true := by simp; omega
      obtain ⟨b, off, ab, cb, rfl, hnil, hpm, wk, wa, wb, hcell⟩ := steps_fix HL.out hkl
      obtain ⟨⟨kk, sa, sb, pl⟩, hs⟩ : ∃ s, s = L.getD k default := ⟨_, rfl⟩
      rw [← hs] at hnil hpm wk wa wb hcell
      clear hs
      dsimp only at hnil hpm wk wa wb hcell
      have HCELL := Lib.hid hcell
      have HNIL := Lib.hid hnil
      have HWA : Hid ((Lit.int .i64 (sa % 4)).wf = true) := WalkArith.wf_i64 (by omega)
      clear hcell hnil wk wa wb
      obtain ⟨h2, hbC⟩ := hK
      have HB := Lib.hid hbC
      clear hbC
      obtain ⟨c0, c1, c2, c3, hby⟩ := HCELL.out wr h2.below
      have hk01 : (k : Int) < (L.length : Int) := by omega
      have HBY := Lib.hid hby
      clear hby
      go_wp2_with fail
      go_quiet (fail)
      have h3 : VR W (wr.drewN nq) p q (max need 1) C need (rowOf C) (sharesAt C) k := h2.chg0 ((Chg.refl _ _).drewN nq)
      obtain ⟨c0, c1, c2, c3, hby⟩ := HCELL.out (wr.drewN nq) h3.below
      clear h2 HBY
      obtain ⟨wq, hwq'⟩ : ∃ wq, wq = wr.drewN nq := ⟨_, rfl⟩
      rw [← hwq'] at h3 c0 c1 c2 c3 hby
      rw [← hwq']
      clear hwq'
      have HBY := Lib.hid hby
      clear hby
      by_cases h200 : pl.length ≤ 200
      · have hd3 : decide (200 < (pl.length : Int)) = false := by simp only [decide_eq_false_iff_not]; omega
        have hpl2 : pl.length ≤ 200 := h200
        by_cases hz : kk % 8 = 0
        · skip
          have hk0 : (kk % 8 == 0) = true := by simp [hz]
          have hk1 : (kk % 8 == 1) = false := by simp [hz]
          have hk2 : (kk % 8 == 2) = false := by simp [hz]
          have hk3 : (kk % 8 == 3) = false := by simp [hz]

          have hwz : ∀ z, Below W.heap.size W z → z.cell? ⟨b, off + k * 4 + 3, none⟩ = some (.slice ab pl.length cb) := fun z hz => (HCELL.out z hz).2.2.2.1
          have HWZ := Lib.hid hwz
          clear hwz
          have hcl1 : C.length ≤ 1000000000 := by have := HB.out.1; omega
          have hcl2 : (rowOf C).length ≤ 1000000000 := by rw [rowOf_length]; exact hcl1
          have hpl9 : pl.length ≤ 1000000000 := by omega
          have hwr : IntKind.i64.wrap ((k : Int) + 1) = (k : Int) + 1 := by rw [IntKind.wrap_i64]; omega
          go_wp2_with fail
          go_region_held3 (fun x : World => x.cell? ⟨b, off + k * 4 + 3, none⟩ = some (.slice ab pl.length cb)) (go_keep) (first
            | (go_at_call 44; refine (vr_seal p q (max need 1) C need _ _ _ (sa % 4) ab pl cb W _ (h3.chg0 (Chg.refl _ _).drew) hcl1 (HBY.out.chg0 (Chg.refl _ _).drew) HNIL.out hpl9).mono ?_; rintro e w4 ⟨rfl, h4⟩; have hd4 := HWZ.out w4 h4.below)
            | (go_at_call 51; refine (vr_rseal p q (max need 1) _ need _ _ k (sa % 4) ab pl cb W _ h4 hcl2 (HCELL.out _ h4.below).2.2.2.2).mono ?_; rintro e w5 ⟨rfl, h5⟩; rw [rowOf_length]; have hd5 := HWZ.out w5 h5.below))
          rename_i hHeld
          have hK5 := kept_seal h5 HB.out hpl2
          clear hHeld h3 h4 h5 hd4 hd5 HWZ

          obtain ⟨C', hC'⟩ : ∃ C', C' = C ++ [⟨sa % 4, pl, []⟩] := ⟨_, rfl⟩
          rw [← hC'] at hK5
          clear hC'
          obtain ⟨hT5, hb5⟩ := hK5
          have HB5 := Lib.hid hb5
          clear hb5 HBY HNIL HCELL c0 c1 c2 c3 HB
          obtain ⟨r, hr⟩ : ∃ r, r = openAt (max need 1) C' (sa % 4) (sb % 8) := ⟨_, rfl⟩
          have HR := Lib.hid hr
          clear hr
          go_wp2_with fail
          refine (mine_open_any p (max need 1) _ (sa % 4) (sb % 8) W w5 hT5.mine (fun r hr => by have := HB5.out.2 r hr; omega)).mono ?_
          rw [← HR.out]
          intro e w6 ho6
          obtain ⟨a6, cp6, rfl, hx6, hc6⟩ := ho6.bytes
          have hT6 := hT5.chg0 hc6
          clear ho6 hc6 hT5
          go_wp2_with fail
          refine (vr_ropen_any p q (max need 1) _ need _ _ (k + 1) (sa % 4) (sb % 8) W w6 hT6 (by omega) (by rw [rowOf_length]; have := HB5.out.1; omega)).mono ?_
          rw [opens_same, ← HR.out]
          intro e w7 ho7
          obtain ⟨a7, cp7, rfl, hx7, hc7⟩ := ho7.bytes
          have hT7 := hT6.chg0 hc7
          replace hx6 := hx6.chg0 hc7
          clear ho7 hc7 hT6 HR
          have hbne : (r.isSome != r.isSome) = false := by cases r <;> rfl
          obtain ⟨rb, hrb⟩ : ∃ rb, rb = r.isSome := ⟨_, rfl⟩
          obtain ⟨rl, hrl⟩ : ∃ rl, rl = r.getD [] := ⟨_, rfl⟩
          rw [← hrl] at hx6 hx7
          rw [← hrb] at hbne
          rw [← hrl, ← hrb]
          clear hrb hrl
          go_wp2_with fail
          refine (same_any a6 a7 _ _ cp6 cp7 w7 hx6 hx7).mono ?_
          rintro e _ ⟨rfl, rfl⟩
          rw [decide_eq_true (rfl : rl = rl)]
          clear hx6 hx7
          go_wp2_with fail
          refine (mine_shares_any p _ _ (sb % 8) W w7 hT7.mine (fun r hr => by have := HB5.out.2 r hr; omega)).mono ?_
          intro e w8 ho8
          obtain ⟨a8, cp8, rfl, hi8, hB8, -⟩ := ho8.open
          have hT8 := hT7.chg0 (Chg.of_below hB8)
          clear ho8 hB8 hT7
          go_wp2_with fail
          refine (vr_rshares_any p q (max need 1) _ need _ _ (k + 1) (sb % 8) W w8 hT8 (by omega) (by rw [rowOf_length]; exact sharesAt_out _ _)).mono ?_
          rintro e w9 ⟨a9, cp9, rfl, hi9, -, hB9⟩
          have hT9 := hT8.chg0 (Chg.of_below hB9)
          replace hi8 := hi8.chg0 (Chg.of_below hB9)
          clear hB9 hT8
          have hsl := HB5.out.shares (sb % 8)
          obtain ⟨S, hS⟩ : ∃ S, S = sharesAt C' (sb % 8) := ⟨_, rfl⟩
          rw [← hS] at hi8 hi9 hsl
          rw [← hS]
          have HS := Lib.hid hS
          clear hS
          rw [← rising_length S] at *
          go_wp2_with fail
          refine (sameints_any a8 a9 _ _ cp8 cp9 w9 hi8 hi9 (by omega) (by omega)).mono ?_
          rintro e wz ⟨rfl, hcz⟩
          rw [decide_eq_true (rfl : rising S = rising S)]
          have hTz := hT9.chg0 hcz
          clear hT9 hcz hi8 hi9
          go_wp2_with fail
          refine (mine_len p _ _ W wz hTz.mine).mono ?_
          rintro e _ ⟨rfl, rfl⟩
          go_wp2_with fail
          refine (vr_rlen p q _ _ need _ _ _ W wz hTz).mono ?_
          rintro e _ ⟨rfl, rfl⟩
          rw [rowOf_length]
          go_wp2_with fail
          refine (vr_rshares_any p q (max need 1) _ need _ _ (k + 1) (sb % 8) W wz hTz (by omega) (by rw [rowOf_length]; exact sharesAt_out _ _)).mono ?_
          rw [← HS.out]
          rintro e wa ⟨aa, cpa, rfl, hia, -, hBa⟩
          rw [← rising_length S]
          have hTa := hTz.chg0 (Chg.of_below hBa)
          clear hBa hTz
          have hmem : ∀ x, x ∈ rising S ↔ x ∈ S := fun x => mem_rising
          have HMEM := Lib.hid hmem
          clear hmem
          generalize rising S = Z at *
          go_wp2_with fail
          go_loopw [144, 16] (fun i h wx => ∃ j : Nat, j ≤ Z.length ∧ i = .int .i64 j ∧ h = .bool (decide (sa % 4 ∈ Z.take j)) ∧ IntsAt wx aa Z ∧ VR W wx p q (max need 1) C' need (rowOf C') (sharesAt C') (k + 1)) (fun i _ _ => Z.length - (intOf i).toNat)
          case atStart => exact ⟨0, by omega, rfl, by simp, hia, hTa⟩
          case round =>
            clear hia hTa
            obtain ⟨j, hj, rfl, rfl, hia, hTa⟩ := hrel
            by_cases hjl : j < Z.length
            · have hia' := hia
              rcases hia' with h | ⟨bz, offz, rfl, hcz⟩
              · rw [h] at hjl; cases hjl
              have hz := hcz j hjl
              have hjl1 : (j : Int) < (Z.length : Int) := by omega
              have hnx := take_mem Z j hjl (sa % 4)
              have HNX := Lib.hid hnx
              clear hnx hcz
              obtain ⟨hv, hhv⟩ : ∃ hv, hv = decide (sa % 4 ∈ Z.take j) := ⟨_, rfl⟩
              rw [← hhv] at HNX
              rw [← hhv]
              clear hhv
              cases hv
              all_goals
                go_wp2_with fail
                go_roundw
                case rel => exact ⟨j + 1, by omega, by go_num, by rw [HNX.out]; simp [hjl], hia, hTa⟩
                case measure => simp [intOf]; omega
            · have hjz : j = Z.length := by omega
              subst hjz
              rw [List.take_length]
              have hd9 : decide (sa % 4 ∈ Z) = decide (sa % 4 ∈ sharesAt C' (sb % 8)) := by rw [← HS.out]; exact decide_eq_decide.2 (HMEM.out _)
              rw [hd9]
              obtain ⟨hv, hhv⟩ : ∃ hv, hv = decide (sa % 4 ∈ sharesAt C' (sb % 8)) := ⟨_, rfl⟩
              rw [← hhv]
              have HV := Lib.hid hhv
              have hvne : (hv != hv) = false := by cases hv <;> rfl
              clear hhv hd9 hia
              go_wp2_with fail
              refine (mine_shared_any p _ _ (sa % 4) (sb % 8) W _ hTa.mine).mono ?_
              rintro e _ ⟨rfl, rfl⟩
              rw [← HV.out]
              go_wp2_with fail
              go_roundw
              case rel => exact ⟨k + 1, C', by omega, by omega, by go_num, hTa, HB5.out⟩
              case measure => simp [intOf]; omega
        by_cases hz1 : kk % 8 = 1
        · skip
          have hk0 : (kk % 8 == 0) = false := by simp [hz1]
          have hk1 : (kk % 8 == 1) = true := by simp [hz1]
          have hk2 : (kk % 8 == 2) = false := by simp [hz1]
          have hk3 : (kk % 8 == 3) = false := by simp [hz1]

          go_wp2_with fail
          refine (vr_share_any p q (max need 1) C need _ _ _ (sa % 4) (sb % 8) W wq h3 HWA.out).mono ?_
          rintro e w4 ⟨rfl, h4⟩
          rw [isSome_iff]
          obtain ⟨o4, ho4⟩ : ∃ b, b = decide (1 ≤ (sb % 8) ∧ (sb % 8) ≤ (C.length : Int)) := ⟨_, rfl⟩
          rw [← ho4]
          have HO4 := Lib.hid ho4
          have hone : (o4 != o4) = false := by cases o4 <;> rfl
          clear ho4
          go_wp2_with fail
          refine (vr_rshare_any p q (max need 1) _ need _ _ k (sa % 4) (sb % 8) W w4 h4 (by omega)).mono ?_
          rintro e w5 ⟨rfl, h5⟩
          rw [rowOf_length, ← HO4.out]
          have hK5 := kept_share h5 HB.out
          clear h4 h5 h3 HO4

          obtain ⟨C', hC'⟩ : ∃ C', C' = shareAt C (sa % 4) (sb % 8) := ⟨_, rfl⟩
          rw [← hC'] at hK5
          clear hC'
          obtain ⟨hT5, hb5⟩ := hK5
          have HB5 := Lib.hid hb5
          clear hb5 HBY HNIL HCELL c0 c1 c2 c3 HB
          obtain ⟨r, hr⟩ : ∃ r, r = openAt (max need 1) C' (sa % 4) (sb % 8) := ⟨_, rfl⟩
          have HR := Lib.hid hr
          clear hr
          go_wp2_with fail
          refine (mine_open_any p (max need 1) _ (sa % 4) (sb % 8) W w5 hT5.mine (fun r hr => by have := HB5.out.2 r hr; omega)).mono ?_
          rw [← HR.out]
          intro e w6 ho6
          obtain ⟨a6, cp6, rfl, hx6, hc6⟩ := ho6.bytes
          have hT6 := hT5.chg0 hc6
          clear ho6 hc6 hT5
          go_wp2_with fail
          refine (vr_ropen_any p q (max need 1) _ need _ _ (k + 1) (sa % 4) (sb % 8) W w6 hT6 (by omega) (by rw [rowOf_length]; have := HB5.out.1; omega)).mono ?_
          rw [opens_same, ← HR.out]
          intro e w7 ho7
          obtain ⟨a7, cp7, rfl, hx7, hc7⟩ := ho7.bytes
          have hT7 := hT6.chg0 hc7
          replace hx6 := hx6.chg0 hc7
          clear ho7 hc7 hT6 HR
          have hbne : (r.isSome != r.isSome) = false := by cases r <;> rfl
          obtain ⟨rb, hrb⟩ : ∃ rb, rb = r.isSome := ⟨_, rfl⟩
          obtain ⟨rl, hrl⟩ : ∃ rl, rl = r.getD [] := ⟨_, rfl⟩
          rw [← hrl] at hx6 hx7
          rw [← hrb] at hbne
          rw [← hrl, ← hrb]
          clear hrb hrl
          go_wp2_with fail
          refine (same_any a6 a7 _ _ cp6 cp7 w7 hx6 hx7).mono ?_
          rintro e _ ⟨rfl, rfl⟩
          rw [decide_eq_true (rfl : rl = rl)]
          clear hx6 hx7
          go_wp2_with fail
          refine (mine_shares_any p _ _ (sb % 8) W w7 hT7.mine (fun r hr => by have := HB5.out.2 r hr; omega)).mono ?_
          intro e w8 ho8
          obtain ⟨a8, cp8, rfl, hi8, hB8, -⟩ := ho8.open
          have hT8 := hT7.chg0 (Chg.of_below hB8)
          clear ho8 hB8 hT7
          go_wp2_with fail
          refine (vr_rshares_any p q (max need 1) _ need _ _ (k + 1) (sb % 8) W w8 hT8 (by omega) (by rw [rowOf_length]; exact sharesAt_out _ _)).mono ?_
          rintro e w9 ⟨a9, cp9, rfl, hi9, -, hB9⟩
          have hT9 := hT8.chg0 (Chg.of_below hB9)
          replace hi8 := hi8.chg0 (Chg.of_below hB9)
          clear hB9 hT8
          have hsl := HB5.out.shares (sb % 8)
          obtain ⟨S, hS⟩ : ∃ S, S = sharesAt C' (sb % 8) := ⟨_, rfl⟩
          rw [← hS] at hi8 hi9 hsl
          rw [← hS]
          have HS := Lib.hid hS
          clear hS
          rw [← rising_length S] at *
          go_wp2_with fail
          refine (sameints_any a8 a9 _ _ cp8 cp9 w9 hi8 hi9 (by omega) (by omega)).mono ?_
          rintro e wz ⟨rfl, hcz⟩
          rw [decide_eq_true (rfl : rising S = rising S)]
          have hTz := hT9.chg0 hcz
          clear hT9 hcz hi8 hi9
          go_wp2_with fail
          refine (mine_len p _ _ W wz hTz.mine).mono ?_
          rintro e _ ⟨rfl, rfl⟩
          go_wp2_with fail
          refine (vr_rlen p q _ _ need _ _ _ W wz hTz).mono ?_
          rintro e _ ⟨rfl, rfl⟩
          rw [rowOf_length]
          go_wp2_with fail
          refine (vr_rshares_any p q (max need 1) _ need _ _ (k + 1) (sb % 8) W wz hTz (by omega) (by rw [rowOf_length]; exact sharesAt_out _ _)).mono ?_
          rw [← HS.out]
          rintro e wa ⟨aa, cpa, rfl, hia, -, hBa⟩
          rw [← rising_length S]
          have hTa := hTz.chg0 (Chg.of_below hBa)
          clear hBa hTz
          have hmem : ∀ x, x ∈ rising S ↔ x ∈ S := fun x => mem_rising
          have HMEM := Lib.hid hmem
          clear hmem
          generalize rising S = Z at *
          go_wp2_with fail
          go_loopw [144, 16] (fun i h wx => ∃ j : Nat, j ≤ Z.length ∧ i = .int .i64 j ∧ h = .bool (decide (sa % 4 ∈ Z.take j)) ∧ IntsAt wx aa Z ∧ VR W wx p q (max need 1) C' need (rowOf C') (sharesAt C') (k + 1)) (fun i _ _ => Z.length - (intOf i).toNat)
          case atStart => exact ⟨0, by omega, rfl, by simp, hia, hTa⟩
          case round =>
            clear hia hTa
            obtain ⟨j, hj, rfl, rfl, hia, hTa⟩ := hrel
            by_cases hjl : j < Z.length
            · have hia' := hia
              rcases hia' with h | ⟨bz, offz, rfl, hcz⟩
              · rw [h] at hjl; cases hjl
              have hz := hcz j hjl
              have hjl1 : (j : Int) < (Z.length : Int) := by omega
              have hnx := take_mem Z j hjl (sa % 4)
              have HNX := Lib.hid hnx
              clear hnx hcz
              obtain ⟨hv, hhv⟩ : ∃ hv, hv = decide (sa % 4 ∈ Z.take j) := ⟨_, rfl⟩
              rw [← hhv] at HNX
              rw [← hhv]
              clear hhv
              cases hv
              all_goals
                go_wp2_with fail
                go_roundw
                case rel => exact ⟨j + 1, by omega, by go_num, by rw [HNX.out]; simp [hjl], hia, hTa⟩
                case measure => simp [intOf]; omega
            · have hjz : j = Z.length := by omega
              subst hjz
              rw [List.take_length]
              have hd9 : decide (sa % 4 ∈ Z) = decide (sa % 4 ∈ sharesAt C' (sb % 8)) := by rw [← HS.out]; exact decide_eq_decide.2 (HMEM.out _)
              rw [hd9]
              obtain ⟨hv, hhv⟩ : ∃ hv, hv = decide (sa % 4 ∈ sharesAt C' (sb % 8)) := ⟨_, rfl⟩
              rw [← hhv]
              have HV := Lib.hid hhv
              have hvne : (hv != hv) = false := by cases hv <;> rfl
              clear hhv hd9 hia
              go_wp2_with fail
              refine (mine_shared_any p _ _ (sa % 4) (sb % 8) W _ hTa.mine).mono ?_
              rintro e _ ⟨rfl, rfl⟩
              rw [← HV.out]
              go_wp2_with fail
              go_roundw
              case rel => exact ⟨k + 1, C', by omega, by omega, by go_num, hTa, HB5.out⟩
              case measure => simp [intOf]; omega
        by_cases hz2 : kk % 8 = 2
        · skip
          have hk0 : (kk % 8 == 0) = false := by simp [hz2]
          have hk1 : (kk % 8 == 1) = false := by simp [hz2]
          have hk2 : (kk % 8 == 2) = true := by simp [hz2]
          have hk3 : (kk % 8 == 3) = false := by simp [hz2]

          go_wp2_with fail
          refine (vr_share_any p q (max need 1) C need _ _ _ (sa % 4) (sb % 8) W wq h3 HWA.out).mono ?_
          rintro e w4 ⟨rfl, h4⟩
          rw [isSome_iff]
          obtain ⟨o4, ho4⟩ : ∃ b, b = decide (1 ≤ (sb % 8) ∧ (sb % 8) ≤ (C.length : Int)) := ⟨_, rfl⟩
          rw [← ho4]
          have HO4 := Lib.hid ho4
          have hone : (o4 != o4) = false := by cases o4 <;> rfl
          clear ho4
          go_wp2_with fail
          refine (vr_rshare_any p q (max need 1) _ need _ _ k (sa % 4) (sb % 8) W w4 h4 (by omega)).mono ?_
          rintro e w5 ⟨rfl, h5⟩
          rw [rowOf_length, ← HO4.out]
          have hK5 := kept_share h5 HB.out
          clear h4 h5 h3 HO4

          obtain ⟨C', hC'⟩ : ∃ C', C' = shareAt C (sa % 4) (sb % 8) := ⟨_, rfl⟩
          rw [← hC'] at hK5
          clear hC'
          obtain ⟨hT5, hb5⟩ := hK5
          have HB5 := Lib.hid hb5
          clear hb5 HBY HNIL HCELL c0 c1 c2 c3 HB
          obtain ⟨r, hr⟩ : ∃ r, r = openAt (max need 1) C' (sa % 4) (sb % 8) := ⟨_, rfl⟩
          have HR := Lib.hid hr
          clear hr
          go_wp2_with fail
          refine (mine_open_any p (max need 1) _ (sa % 4) (sb % 8) W w5 hT5.mine (fun r hr => by have := HB5.out.2 r hr; omega)).mono ?_
          rw [← HR.out]
          intro e w6 ho6
          obtain ⟨a6, cp6, rfl, hx6, hc6⟩ := ho6.bytes
          have hT6 := hT5.chg0 hc6
          clear ho6 hc6 hT5
          go_wp2_with fail
          refine (vr_ropen_any p q (max need 1) _ need _ _ (k + 1) (sa % 4) (sb % 8) W w6 hT6 (by omega) (by rw [rowOf_length]; have := HB5.out.1; omega)).mono ?_
          rw [opens_same, ← HR.out]
          intro e w7 ho7
          obtain ⟨a7, cp7, rfl, hx7, hc7⟩ := ho7.bytes
          have hT7 := hT6.chg0 hc7
          replace hx6 := hx6.chg0 hc7
          clear ho7 hc7 hT6 HR
          have hbne : (r.isSome != r.isSome) = false := by cases r <;> rfl
          obtain ⟨rb, hrb⟩ : ∃ rb, rb = r.isSome := ⟨_, rfl⟩
          obtain ⟨rl, hrl⟩ : ∃ rl, rl = r.getD [] := ⟨_, rfl⟩
          rw [← hrl] at hx6 hx7
          rw [← hrb] at hbne
          rw [← hrl, ← hrb]
          clear hrb hrl
          go_wp2_with fail
          refine (same_any a6 a7 _ _ cp6 cp7 w7 hx6 hx7).mono ?_
          rintro e _ ⟨rfl, rfl⟩
          rw [decide_eq_true (rfl : rl = rl)]
          clear hx6 hx7
          go_wp2_with fail
          refine (mine_shares_any p _ _ (sb % 8) W w7 hT7.mine (fun r hr => by have := HB5.out.2 r hr; omega)).mono ?_
          intro e w8 ho8
          obtain ⟨a8, cp8, rfl, hi8, hB8, -⟩ := ho8.open
          have hT8 := hT7.chg0 (Chg.of_below hB8)
          clear ho8 hB8 hT7
          go_wp2_with fail
          refine (vr_rshares_any p q (max need 1) _ need _ _ (k + 1) (sb % 8) W w8 hT8 (by omega) (by rw [rowOf_length]; exact sharesAt_out _ _)).mono ?_
          rintro e w9 ⟨a9, cp9, rfl, hi9, -, hB9⟩
          have hT9 := hT8.chg0 (Chg.of_below hB9)
          replace hi8 := hi8.chg0 (Chg.of_below hB9)
          clear hB9 hT8
          have hsl := HB5.out.shares (sb % 8)
          obtain ⟨S, hS⟩ : ∃ S, S = sharesAt C' (sb % 8) := ⟨_, rfl⟩
          rw [← hS] at hi8 hi9 hsl
          rw [← hS]
          have HS := Lib.hid hS
          clear hS
          rw [← rising_length S] at *
          go_wp2_with fail
          refine (sameints_any a8 a9 _ _ cp8 cp9 w9 hi8 hi9 (by omega) (by omega)).mono ?_
          rintro e wz ⟨rfl, hcz⟩
          rw [decide_eq_true (rfl : rising S = rising S)]
          have hTz := hT9.chg0 hcz
          clear hT9 hcz hi8 hi9
          go_wp2_with fail
          refine (mine_len p _ _ W wz hTz.mine).mono ?_
          rintro e _ ⟨rfl, rfl⟩
          go_wp2_with fail
          refine (vr_rlen p q _ _ need _ _ _ W wz hTz).mono ?_
          rintro e _ ⟨rfl, rfl⟩
          rw [rowOf_length]
          go_wp2_with fail
          refine (vr_rshares_any p q (max need 1) _ need _ _ (k + 1) (sb % 8) W wz hTz (by omega) (by rw [rowOf_length]; exact sharesAt_out _ _)).mono ?_
          rw [← HS.out]
          rintro e wa ⟨aa, cpa, rfl, hia, -, hBa⟩
          rw [← rising_length S]
          have hTa := hTz.chg0 (Chg.of_below hBa)
          clear hBa hTz
          have hmem : ∀ x, x ∈ rising S ↔ x ∈ S := fun x => mem_rising
          have HMEM := Lib.hid hmem
          clear hmem
          generalize rising S = Z at *
          go_wp2_with fail
          go_loopw [144, 16] (fun i h wx => ∃ j : Nat, j ≤ Z.length ∧ i = .int .i64 j ∧ h = .bool (decide (sa % 4 ∈ Z.take j)) ∧ IntsAt wx aa Z ∧ VR W wx p q (max need 1) C' need (rowOf C') (sharesAt C') (k + 1)) (fun i _ _ => Z.length - (intOf i).toNat)
          case atStart => exact ⟨0, by omega, rfl, by simp, hia, hTa⟩
          case round =>
            clear hia hTa
            obtain ⟨j, hj, rfl, rfl, hia, hTa⟩ := hrel
            by_cases hjl : j < Z.length
            · have hia' := hia
              rcases hia' with h | ⟨bz, offz, rfl, hcz⟩
              · rw [h] at hjl; cases hjl
              have hz := hcz j hjl
              have hjl1 : (j : Int) < (Z.length : Int) := by omega
              have hnx := take_mem Z j hjl (sa % 4)
              have HNX := Lib.hid hnx
              clear hnx hcz
              obtain ⟨hv, hhv⟩ : ∃ hv, hv = decide (sa % 4 ∈ Z.take j) := ⟨_, rfl⟩
              rw [← hhv] at HNX
              rw [← hhv]
              clear hhv
              cases hv
              all_goals
                go_wp2_with fail
                go_roundw
                case rel => exact ⟨j + 1, by omega, by go_num, by rw [HNX.out]; simp [hjl], hia, hTa⟩
                case measure => simp [intOf]; omega
            · have hjz : j = Z.length := by omega
              subst hjz
              rw [List.take_length]
              have hd9 : decide (sa % 4 ∈ Z) = decide (sa % 4 ∈ sharesAt C' (sb % 8)) := by rw [← HS.out]; exact decide_eq_decide.2 (HMEM.out _)
              rw [hd9]
              obtain ⟨hv, hhv⟩ : ∃ hv, hv = decide (sa % 4 ∈ sharesAt C' (sb % 8)) := ⟨_, rfl⟩
              rw [← hhv]
              have HV := Lib.hid hhv
              have hvne : (hv != hv) = false := by cases hv <;> rfl
              clear hhv hd9 hia
              go_wp2_with fail
              refine (mine_shared_any p _ _ (sa % 4) (sb % 8) W _ hTa.mine).mono ?_
              rintro e _ ⟨rfl, rfl⟩
              rw [← HV.out]
              go_wp2_with fail
              go_roundw
              case rel => exact ⟨k + 1, C', by omega, by omega, by go_num, hTa, HB5.out⟩
              case measure => simp [intOf]; omega
        by_cases hz3 : kk % 8 = 3
        · skip
          have hk0 : (kk % 8 == 0) = false := by simp [hz3]
          have hk1 : (kk % 8 == 1) = false := by simp [hz3]
          have hk2 : (kk % 8 == 2) = false := by simp [hz3]
          have hk3 : (kk % 8 == 3) = true := by simp [hz3]

          go_wp2_with fail
          refine (vr_share_any p q (max need 1) C need _ _ _ (sa % 4) (sb % 8) W wq h3 HWA.out).mono ?_
          rintro e w4 ⟨rfl, h4⟩
          rw [isSome_iff]
          obtain ⟨o4, ho4⟩ : ∃ b, b = decide (1 ≤ (sb % 8) ∧ (sb % 8) ≤ (C.length : Int)) := ⟨_, rfl⟩
          rw [← ho4]
          have HO4 := Lib.hid ho4
          have hone : (o4 != o4) = false := by cases o4 <;> rfl
          clear ho4
          go_wp2_with fail
          refine (vr_rshare_any p q (max need 1) _ need _ _ k (sa % 4) (sb % 8) W w4 h4 (by omega)).mono ?_
          rintro e w5 ⟨rfl, h5⟩
          rw [rowOf_length, ← HO4.out]
          have hK5 := kept_share h5 HB.out
          clear h4 h5 h3 HO4

          obtain ⟨C', hC'⟩ : ∃ C', C' = shareAt C (sa % 4) (sb % 8) := ⟨_, rfl⟩
          rw [← hC'] at hK5
          clear hC'
          obtain ⟨hT5, hb5⟩ := hK5
          have HB5 := Lib.hid hb5
          clear hb5 HBY HNIL HCELL c0 c1 c2 c3 HB
          obtain ⟨r, hr⟩ : ∃ r, r = openAt (max need 1) C' (sa % 4) (sb % 8) := ⟨_, rfl⟩
          have HR := Lib.hid hr
          clear hr
          go_wp2_with fail
          refine (mine_open_any p (max need 1) _ (sa % 4) (sb % 8) W w5 hT5.mine (fun r hr => by have := HB5.out.2 r hr; omega)).mono ?_
          rw [← HR.out]
          intro e w6 ho6
          obtain ⟨a6, cp6, rfl, hx6, hc6⟩ := ho6.bytes
          have hT6 := hT5.chg0 hc6
          clear ho6 hc6 hT5
          go_wp2_with fail
          refine (vr_ropen_any p q (max need 1) _ need _ _ (k + 1) (sa % 4) (sb % 8) W w6 hT6 (by omega) (by rw [rowOf_length]; have := HB5.out.1; omega)).mono ?_
          rw [opens_same, ← HR.out]
          intro e w7 ho7
          obtain ⟨a7, cp7, rfl, hx7, hc7⟩ := ho7.bytes
          have hT7 := hT6.chg0 hc7
          replace hx6 := hx6.chg0 hc7
          clear ho7 hc7 hT6 HR
          have hbne : (r.isSome != r.isSome) = false := by cases r <;> rfl
          obtain ⟨rb, hrb⟩ : ∃ rb, rb = r.isSome := ⟨_, rfl⟩
          obtain ⟨rl, hrl⟩ : ∃ rl, rl = r.getD [] := ⟨_, rfl⟩
          rw [← hrl] at hx6 hx7
          rw [← hrb] at hbne
          rw [← hrl, ← hrb]
          clear hrb hrl
          go_wp2_with fail
          refine (same_any a6 a7 _ _ cp6 cp7 w7 hx6 hx7).mono ?_
          rintro e _ ⟨rfl, rfl⟩
          rw [decide_eq_true (rfl : rl = rl)]
          clear hx6 hx7
          go_wp2_with fail
          refine (mine_shares_any p _ _ (sb % 8) W w7 hT7.mine (fun r hr => by have := HB5.out.2 r hr; omega)).mono ?_
          intro e w8 ho8
          obtain ⟨a8, cp8, rfl, hi8, hB8, -⟩ := ho8.open
          have hT8 := hT7.chg0 (Chg.of_below hB8)
          clear ho8 hB8 hT7
          go_wp2_with fail
          refine (vr_rshares_any p q (max need 1) _ need _ _ (k + 1) (sb % 8) W w8 hT8 (by omega) (by rw [rowOf_length]; exact sharesAt_out _ _)).mono ?_
          rintro e w9 ⟨a9, cp9, rfl, hi9, -, hB9⟩
          have hT9 := hT8.chg0 (Chg.of_below hB9)
          replace hi8 := hi8.chg0 (Chg.of_below hB9)
          clear hB9 hT8
          have hsl := HB5.out.shares (sb % 8)
          obtain ⟨S, hS⟩ : ∃ S, S = sharesAt C' (sb % 8) := ⟨_, rfl⟩
          rw [← hS] at hi8 hi9 hsl
          rw [← hS]
          have HS := Lib.hid hS
          clear hS
          rw [← rising_length S] at *
          go_wp2_with fail
          refine (sameints_any a8 a9 _ _ cp8 cp9 w9 hi8 hi9 (by omega) (by omega)).mono ?_
          rintro e wz ⟨rfl, hcz⟩
          rw [decide_eq_true (rfl : rising S = rising S)]
          have hTz := hT9.chg0 hcz
          clear hT9 hcz hi8 hi9
          go_wp2_with fail
          refine (mine_len p _ _ W wz hTz.mine).mono ?_
          rintro e _ ⟨rfl, rfl⟩
          go_wp2_with fail
          refine (vr_rlen p q _ _ need _ _ _ W wz hTz).mono ?_
          rintro e _ ⟨rfl, rfl⟩
          rw [rowOf_length]
          go_wp2_with fail
          refine (vr_rshares_any p q (max need 1) _ need _ _ (k + 1) (sb % 8) W wz hTz (by omega) (by rw [rowOf_length]; exact sharesAt_out _ _)).mono ?_
          rw [← HS.out]
          rintro e wa ⟨aa, cpa, rfl, hia, -, hBa⟩
          rw [← rising_length S]
          have hTa := hTz.chg0 (Chg.of_below hBa)
          clear hBa hTz
          have hmem : ∀ x, x ∈ rising S ↔ x ∈ S := fun x => mem_rising
          have HMEM := Lib.hid hmem
          clear hmem
          generalize rising S = Z at *
          go_wp2_with fail
          go_loopw [144, 16] (fun i h wx => ∃ j : Nat, j ≤ Z.length ∧ i = .int .i64 j ∧ h = .bool (decide (sa % 4 ∈ Z.take j)) ∧ IntsAt wx aa Z ∧ VR W wx p q (max need 1) C' need (rowOf C') (sharesAt C') (k + 1)) (fun i _ _ => Z.length - (intOf i).toNat)
          case atStart => exact ⟨0, by omega, rfl, by simp, hia, hTa⟩
          case round =>
            clear hia hTa
            obtain ⟨j, hj, rfl, rfl, hia, hTa⟩ := hrel
            by_cases hjl : j < Z.length
            · have hia' := hia
              rcases hia' with h | ⟨bz, offz, rfl, hcz⟩
              · rw [h] at hjl; cases hjl
              have hz := hcz j hjl
              have hjl1 : (j : Int) < (Z.length : Int) := by omega
              have hnx := take_mem Z j hjl (sa % 4)
              have HNX := Lib.hid hnx
              clear hnx hcz
              obtain ⟨hv, hhv⟩ : ∃ hv, hv = decide (sa % 4 ∈ Z.take j) := ⟨_, rfl⟩
              rw [← hhv] at HNX
              rw [← hhv]
              clear hhv
              cases hv
              all_goals
                go_wp2_with fail
                go_roundw
                case rel => exact ⟨j + 1, by omega, by go_num, by rw [HNX.out]; simp [hjl], hia, hTa⟩
                case measure => simp [intOf]; omega
            · have hjz : j = Z.length := by omega
              subst hjz
              rw [List.take_length]
              have hd9 : decide (sa % 4 ∈ Z) = decide (sa % 4 ∈ sharesAt C' (sb % 8)) := by rw [← HS.out]; exact decide_eq_decide.2 (HMEM.out _)
              rw [hd9]
              obtain ⟨hv, hhv⟩ : ∃ hv, hv = decide (sa % 4 ∈ sharesAt C' (sb % 8)) := ⟨_, rfl⟩
              rw [← hhv]
              have HV := Lib.hid hhv
              have hvne : (hv != hv) = false := by cases hv <;> rfl
              clear hhv hd9 hia
              go_wp2_with fail
              refine (mine_shared_any p _ _ (sa % 4) (sb % 8) W _ hTa.mine).mono ?_
              rintro e _ ⟨rfl, rfl⟩
              rw [← HV.out]
              go_wp2_with fail
              go_roundw
              case rel => exact ⟨k + 1, C', by omega, by omega, by go_num, hTa, HB5.out⟩
              case measure => simp [intOf]; omega
        have hk0 : (kk % 8 == 0) = false := by simpa using hz
        have hk1 : (kk % 8 == 1) = false := by simpa using hz1
        have hk2 : (kk % 8 == 2) = false := by simpa using hz2
        have hk3 : (kk % 8 == 3) = false := by simpa using hz3

        have hK5 : Kept W wq p q need C (k + 1) := kept_more ⟨h3, HB.out⟩
        generalize wq = w5 at *
        clear h3

        obtain ⟨C', hC'⟩ : ∃ C', C' = C := ⟨_, rfl⟩
        rw [← hC'] at hK5
        clear hC'
        obtain ⟨hT5, hb5⟩ := hK5
        have HB5 := Lib.hid hb5
        clear hb5 HBY HNIL HCELL HB
        obtain ⟨r, hr⟩ : ∃ r, r = openAt (max need 1) C' (sa % 4) (sb % 8) := ⟨_, rfl⟩
        have HR := Lib.hid hr
        clear hr
        go_wp2_with fail
        refine (mine_open_any p (max need 1) _ (sa % 4) (sb % 8) W w5 hT5.mine (fun r hr => by have := HB5.out.2 r hr; omega)).mono ?_
        rw [← HR.out]
        intro e w6 ho6
        obtain ⟨a6, cp6, rfl, hx6, hc6⟩ := ho6.bytes
        have hT6 := hT5.chg0 hc6
        clear ho6 hc6 hT5
        go_wp2_with fail
        refine (vr_ropen_any p q (max need 1) _ need _ _ (k + 1) (sa % 4) (sb % 8) W w6 hT6 (by omega) (by rw [rowOf_length]; have := HB5.out.1; omega)).mono ?_
        rw [opens_same, ← HR.out]
        intro e w7 ho7
        obtain ⟨a7, cp7, rfl, hx7, hc7⟩ := ho7.bytes
        have hT7 := hT6.chg0 hc7
        replace hx6 := hx6.chg0 hc7
        clear ho7 hc7 hT6 HR
        have hbne : (r.isSome != r.isSome) = false := by cases r <;> rfl
        obtain ⟨rb, hrb⟩ : ∃ rb, rb = r.isSome := ⟨_, rfl⟩
        obtain ⟨rl, hrl⟩ : ∃ rl, rl = r.getD [] := ⟨_, rfl⟩
        rw [← hrl] at hx6 hx7
        rw [← hrb] at hbne
        rw [← hrl, ← hrb]
        clear hrb hrl
        go_wp2_with fail
        refine (same_any a6 a7 _ _ cp6 cp7 w7 hx6 hx7).mono ?_
        rintro e _ ⟨rfl, rfl⟩
        rw [decide_eq_true (rfl : rl = rl)]
        clear hx6 hx7
        go_wp2_with fail
        refine (mine_shares_any p _ _ (sb % 8) W w7 hT7.mine (fun r hr => by have := HB5.out.2 r hr; omega)).mono ?_
        intro e w8 ho8
        obtain ⟨a8, cp8, rfl, hi8, hB8, -⟩ := ho8.open
        have hT8 := hT7.chg0 (Chg.of_below hB8)
        clear ho8 hB8 hT7
        go_wp2_with fail
        refine (vr_rshares_any p q (max need 1) _ need _ _ (k + 1) (sb % 8) W w8 hT8 (by omega) (by rw [rowOf_length]; exact sharesAt_out _ _)).mono ?_
        rintro e w9 ⟨a9, cp9, rfl, hi9, -, hB9⟩
        have hT9 := hT8.chg0 (Chg.of_below hB9)
        replace hi8 := hi8.chg0 (Chg.of_below hB9)
        clear hB9 hT8
        have hsl := HB5.out.shares (sb % 8)
        obtain ⟨S, hS⟩ : ∃ S, S = sharesAt C' (sb % 8) := ⟨_, rfl⟩
        rw [← hS] at hi8 hi9 hsl
        rw [← hS]
        have HS := Lib.hid hS
        clear hS
        rw [← rising_length S] at *
        go_wp2_with fail
        refine (sameints_any a8 a9 _ _ cp8 cp9 w9 hi8 hi9 (by omega) (by omega)).mono ?_
        rintro e wz ⟨rfl, hcz⟩
        rw [decide_eq_true (rfl : rising S = rising S)]
        have hTz := hT9.chg0 hcz
        clear hT9 hcz hi8 hi9
        go_wp2_with fail
        refine (mine_len p _ _ W wz hTz.mine).mono ?_
        rintro e _ ⟨rfl, rfl⟩
        go_wp2_with fail
        refine (vr_rlen p q _ _ need _ _ _ W wz hTz).mono ?_
        rintro e _ ⟨rfl, rfl⟩
        rw [rowOf_length]
        go_wp2_with fail
        refine (vr_rshares_any p q (max need 1) _ need _ _ (k + 1) (sb % 8) W wz hTz (by omega) (by rw [rowOf_length]; exact sharesAt_out _ _)).mono ?_
        rw [← HS.out]
        rintro e wa ⟨aa, cpa, rfl, hia, -, hBa⟩
        rw [← rising_length S]
        have hTa := hTz.chg0 (Chg.of_below hBa)
        clear hBa hTz
        have hmem : ∀ x, x ∈ rising S ↔ x ∈ S := fun x => mem_rising
        have HMEM := Lib.hid hmem
        clear hmem
        generalize rising S = Z at *
        go_wp2_with fail
        go_loopw [144, 16] (fun i h wx => ∃ j : Nat, j ≤ Z.length ∧ i = .int .i64 j ∧ h = .bool (decide (sa % 4 ∈ Z.take j)) ∧ IntsAt wx aa Z ∧ VR W wx p q (max need 1) C' need (rowOf C') (sharesAt C') (k + 1)) (fun i _ _ => Z.length - (intOf i).toNat)
        case atStart => exact ⟨0, by omega, rfl, by simp, hia, hTa⟩
        case round =>
          clear hia hTa
          obtain ⟨j, hj, rfl, rfl, hia, hTa⟩ := hrel
          by_cases hjl : j < Z.length
          · have hia' := hia
            rcases hia' with h | ⟨bz, offz, rfl, hcz⟩
            · rw [h] at hjl; cases hjl
            have hz := hcz j hjl
            have hjl1 : (j : Int) < (Z.length : Int) := by omega
            have hnx := take_mem Z j hjl (sa % 4)
            have HNX := Lib.hid hnx
            clear hnx hcz
            obtain ⟨hv, hhv⟩ : ∃ hv, hv = decide (sa % 4 ∈ Z.take j) := ⟨_, rfl⟩
            rw [← hhv] at HNX
            rw [← hhv]
            clear hhv
            cases hv
            all_goals
              go_wp2_with fail
              go_roundw
              case rel => exact ⟨j + 1, by omega, by go_num, by rw [HNX.out]; simp [hjl], hia, hTa⟩
              case measure => simp [intOf]; omega
          · have hjz : j = Z.length := by omega
            subst hjz
            rw [List.take_length]
            have hd9 : decide (sa % 4 ∈ Z) = decide (sa % 4 ∈ sharesAt C' (sb % 8)) := by rw [← HS.out]; exact decide_eq_decide.2 (HMEM.out _)
            rw [hd9]
            obtain ⟨hv, hhv⟩ : ∃ hv, hv = decide (sa % 4 ∈ sharesAt C' (sb % 8)) := ⟨_, rfl⟩
            rw [← hhv]
            have HV := Lib.hid hhv
            have hvne : (hv != hv) = false := by cases hv <;> rfl
            clear hhv hd9 hia
            go_wp2_with fail
            refine (mine_shared_any p _ _ (sa % 4) (sb % 8) W _ hTa.mine).mono ?_
            rintro e _ ⟨rfl, rfl⟩
            rw [← HV.out]
            go_wp2_with fail
            go_roundw
            case rel => exact ⟨k + 1, C', by omega, by omega, by go_num, hTa, HB5.out⟩
            case measure => simp [intOf]; omega
      · have hd3 : decide (200 < (pl.length : Int)) = true := by simp only [decide_eq_true_eq]; omega
        go_wp2_with fail
        refine (seal_awake wq).mono ?_
        rintro e w4 ⟨rfl, hB4⟩
        go_wp2_with fail
        go_ret
        exact ⟨rfl, h3.below.trans (hB4.mono h3.below.size)⟩
    · clear HL
      obtain ⟨h2, hbC⟩ := hK
      by_cases h40 : k < 40
      · have hk4 : decide ((k : Int) < (L.length : Int)) = false := by simp; omega
        go_wp2_with fail
        refine (seal_awake wr).mono ?_
        rintro e w4 ⟨rfl, hB4⟩
        go_wp2_with fail
        go_ret
        exact ⟨rfl, h2.below.trans (hB4.mono h2.below.size)⟩
      · have : k = 40 := by omega
        subst this
        obtain ⟨v1, hv1⟩ : ∃ v1, decide ((40 : Int) < (L.length : Int)) = v1 := ⟨_, rfl⟩
        cases v1
        all_goals
          go_wp2_with fail
          refine (seal_awake wr).mono ?_
          rintro e w4 ⟨rfl, hB4⟩
          go_wp2_with fail
          go_ret
          exact ⟨rfl, h2.below.trans (hB4.mono h2.below.size)⟩

theorem walk (W : World) (a0 : Int) (_ : (Lit.int .i64 a0).wf = true) (a1 : Option Addr) (len1 cap1 : Nat) (L : List StepX) (hL : L.length = len1) (w1 : StepsAt W a1 L) (a2 : Bool) :
    Calls Try.prog 17 #[.int .i64 a0, .slice a1 len1 cap1, .bool a2] W fun e w' => e = .returned (.bool true) ∧ Below W.heap.size W w' := by
  cases a2
  · exact walk_false W a0 a1 len1 cap1 L hL w1
  · exact walk_true W a0 a1 len1 cap1 L hL w1


/-! ### the row's step -/
open Go.ChangeShapes Go.WideShapes Go.ChangeAt
set_option linter.unusedVariables false
theorem own : ownKnob Try.prog.godebug = none := by kernel_rfl
theorem laidOut : laidOutB Try.prog = true := by kernel_rfl
set_option maxRecDepth 100000 in
theorem lifted (os : Os) (started : os.Started) (H : Type) (enc : TypeId × Value → H) :
    ReturnsInHanded {} Try.checked os 17 .any (Rows.sealPlaysSpec.pre6 enc Try.prog Try.f17 Rows.sealPlaysRow.domain false) (Rows.sealPlaysSpec.post enc Try.prog Try.f17 false true false false) := by
  refine returnsInHanded_of_change_sized (C := Try.checked) own started (by kernel_rfl) Try.func17
    (ChangeSpec.witness6 (enc := enc) (C := Try.checked) false ⟨#[], #[.int .i64 0, .slice none 0 0, .bool false], []⟩ 8 (by kernel_rfl) (by kernel_rfl) (by kernel_rfl) (by kernel_rfl)) ?_
  intro W base args ds gs before hval0 hW hcnd hsz _
  have hval : ∀ (j : Nat) t v, Try.f17.params[j]? = some t → args[j]? = some v → Value.okWide Try.prog W .any base t v := hval0
  have hW' := hW
  obtain ⟨p, q, hA0, hV, rfl, hfz, hnd⟩ := hW
  have hA : DataW.TrodAll enc Try.prog W 0 (fun _ => true) true Try.f17.params.toList args.toList ds p := hA0
  rw [Try.params17] at hA hval hsz
  obtain ⟨v0, vs0, d0, ds0, p0, q0, hargs, rfl, rfl, h0, r0⟩ := trodAll_cons hA
  obtain ⟨v1, vs1, d1, ds1, p1, q1, rfl, rfl, rfl, h1, r1⟩ := trodAll_cons r0
  obtain ⟨v2, vs2, d2, ds2, p2, q2, rfl, rfl, rfl, h2, r2⟩ := trodAll_cons r1
  obtain ⟨rfl, rfl, rfl⟩ := trodAll_nil r2
  obtain rfl : args = #[v0, v1, v2] := by cases args; simp_all
  obtain ⟨rfl, rfl⟩ := trodVars_none hV
  obtain ⟨a0, rfl, rfl, rfl, w0⟩ := open_int Try.underlying3 (hval 0 3 v0 rfl rfl) h0
  obtain ⟨a1, len1, cap1, rfl⟩ := okWide_slice Try.underlying81 (hval 1 81 v1 rfl rfl)
  have k1 := h1
  have lt1 : ∀ x ∈ p1, x.block < W.heap.size := by obtain ⟨m, hm⟩ := k1; exact DataW.trod_lt m _ _ _ hm
  obtain ⟨T1, l1, w1⟩ := open_steps h1 (fun n hn => by simpa using List.all_eq_true.1 hsz n (DataW.weights_mem_each (j := 1) rfl rfl n hn))
  obtain ⟨a2, rfl, rfl, rfl⟩ := open_bool Try.underlying4 (hval 2 4 v2 rfl rfl) h2
  clear hA0 hval0
  refine (walk W a0 w0 a1 len1 cap1 T1 l1 w1 a2).mono fun e W' ⟨he, bel⟩ => ?_
  subst he
  exact ⟨_, rfl, _, _, _, [], _, [], hW', trodAll_mk1 (shut_bool Try.underlying4 _), (trodAll_cons_mk (shut_int Try.underlying3 w0) (trodAll_cons_mk (Below.trod laidOut (by kernel_rfl) (of_decide_eq_true (by kernel_rfl)) k1 bel lt1) (trodAll_cons_mk (shut_bool Try.underlying4 _) trodAll_mk0))), rfl, bel.frame _, fun h => by cases h⟩

theorem over : Rows.sealPlaysRow.holds Try.pinned (OpenSpec.ofChange Rows.sealPlaysSpec) :=
  OpenClaim.holds_of_wide 17 Try.f17 rfl rfl rfl rfl rfl rfl rfl ⟨rfl, rfl, rfl, rfl, rfl⟩ rfl rfl rfl rfl rfl (by kernel_rfl) Try.func17 (by kernel_rfl)
    (of_decide_eq_true (by kernel_rfl)) (by unfold Func.isWrapper; first | (rw [if_pos (by decide +kernel)]; kernel_rfl) | (rw [if_neg (by decide +kernel)]; exact ⟨rfl, rfl⟩))
    (fun os started H enc _ => lifted os started H enc)

theorem proved : Rows.SealPlaysSaid := over
#print axioms proved

end Go.Proofs.Ytjllejlgclfahaa.sealPlays
