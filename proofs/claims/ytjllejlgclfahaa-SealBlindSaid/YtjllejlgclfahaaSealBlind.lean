/-
  SealBlind: ciphers' numbers, who shared them, and whether they open, hang on nothing that is in them. No condition.
-/
import Derived.Test.YtjllejlgclfahaaSealAny
import Derived.Test.YtjllejlgclfahaaSteps
namespace Go.Proofs.Ytjllejlgclfahaa.sealBlind
open Go.RowKit Go.MapKept

theorem Opened.any {r : Option (List UInt8)} {w w' : World} {e : Ending} (h : Opened r w e w') : ∃ v, e = .returned (.tuple #[v, .bool r.isSome]) ∧ Chg none_ w w' := by
  cases r with
  | none => exact ⟨_, h.no.1, h.no.2⟩
  | some l => obtain ⟨v, h1, _, _, h4⟩ := h; exact ⟨v, h1, h4⟩
theorem snoc {C D : List Ciph} (h : Alike C D) (x : Int) (l l' : List UInt8) : Alike (C ++ [⟨x, l, []⟩]) (D ++ [⟨x, l', []⟩]) := by
  unfold Alike at *
  simp [h]
theorem has {C D : List Ciph} (h : Alike C D) (c : Int) : (cAt C c).isSome = (cAt D c).isSome := by
  have := congrArg Option.isSome (h.at c)
  simpa using this
theorem sharesEq {C D : List Ciph} (h : Alike C D) (c : Int) : sharesAt C c = sharesAt D c := by
  have := h.at c
  unfold sharesAt
  cases h1 : cAt C c <;> cases h2 : cAt D c <;> simp_all
theorem opensEq {C D : List Ciph} (h : Alike C D) (n l c : Int) : (openAt n C l c).isSome = (openAt n D l c).isSome := by
  have := h.at c
  unfold openAt
  cases h1 : cAt C c <;> cases h2 : cAt D c <;> simp_all [openC]
  split <;> rfl
theorem share {C D : List Ciph} (h : Alike C D) (who c : Int) : Alike (shareAt C who c) (shareAt D who c) := by
  have := h.at c
  unfold shareAt
  cases h1 : cAt C c <;> cases h2 : cAt D c <;> simp_all
  unfold Alike at *
  rw [List.map_set, List.map_set, h]
/-- What bounds them. -/
def Bnd (C : List Ciph) (k : Nat) : Prop := C.length ≤ k ∧ ∀ q ∈ C, q.plain.length ≤ 300 ∧ q.shares.length ≤ k
theorem Bnd.snoc {C : List Ciph} {k : Nat} (h : Bnd C k) (x : Int) {l : List UInt8} (hl : l.length ≤ 300) : Bnd (C ++ [⟨x, l, []⟩]) (k + 1) := by
  refine ⟨by simp; exact h.1, fun q hq => ?_⟩
  rcases List.mem_append.1 hq with hq | hq
  · have := h.2 q hq; omega
  · simp at hq; subst hq; exact ⟨hl, by simp⟩
theorem Bnd.share {C : List Ciph} {k : Nat} (h : Bnd C k) (who c : Int) : Bnd (shareAt C who c) (k + 1) := by
  unfold shareAt
  cases h1 : cAt C c with
  | none => exact ⟨by have := h.1; simp; omega, fun q hq => by have := h.2 q hq; omega⟩
  | some r =>
    have hr : r ∈ C := by
      unfold cAt at h1
      split at h1
      · exact List.mem_of_getElem? h1
      · cases h1
    refine ⟨by have := h.1; simp; omega, fun q hq => ?_⟩
    rcases List.mem_or_eq_of_mem_set hq with hq | rfl
    · have := h.2 q hq; omega
    · have := h.2 r hr
      refine ⟨this.1, ?_⟩
      have h2 : (addTo r.shares who).length ≤ r.shares.length + 1 := by unfold addTo; split <;> simp
      show (addTo r.shares who).length ≤ k + 1
      omega

theorem sharesLen {C : List Ciph} {k : Nat} (h : Bnd C k) (c : Int) : (sharesAt C c).length ≤ k := by
  unfold sharesAt
  cases h1 : cAt C c with
  | none => simp
  | some r =>
    have hr : r ∈ C := by
      unfold cAt at h1
      split at h1
      · exact List.mem_of_getElem? h1
      · cases h1
    simpa using (h.2 r hr).2
/-- One step's cells, in every later world. -/
theorem steps_fix {W : World} {a : Option Addr} {L : List StepX} (h : StepsAt W a L) {k : Nat} (hk : k < L.length) : ∃ b off ab cb, a = some ⟨b, off, none⟩ ∧ (ab = none → (L.getD k default).plain = []) ∧ (L.getD k default).plain.length ≤ reachBytes ∧
    (Lit.int .i64 (L.getD k default).kind).wf = true ∧ (Lit.int .i64 (L.getD k default).a).wf = true ∧ (Lit.int .i64 (L.getD k default).b).wf = true ∧
    ∀ x, Below W.heap.size W x → x.cell? ⟨b, off + k * 4, none⟩ = some (.int .i64 (L.getD k default).kind) ∧ x.cell? ⟨b, off + k * 4 + 1, none⟩ = some (.int .i64 (L.getD k default).a) ∧ x.cell? ⟨b, off + k * 4 + 2, none⟩ = some (.int .i64 (L.getD k default).b) ∧
      x.cell? ⟨b, off + k * 4 + 3, none⟩ = some (.slice ab (L.getD k default).plain.length cb) ∧ BytesAt x ab (L.getD k default).plain := by
  obtain ⟨b, off, v, e, h0, h1, h2, h3, ⟨ab, cb, rfl, hb, hn, hmx⟩, w0, w1, w2⟩ := h k hk
  refine ⟨b, off, ab, cb, e, hn, hmx, w0, w1, w2, fun x hx => ?_⟩
  have hc : Chg none_ W x := Chg.of_below hx
  exact ⟨hc.cell h0 (fun h => h), hc.cell h1 (fun h => h), hc.cell h2 (fun h => h), hc.cell h3 (fun h => h), hb.chg0 hc⟩
theorem texts_fix {W : World} {a : Option Addr} {T : List (List UInt8)} (h : TextsAt W a T) {k : Nat} (hk : k < T.length) : ∃ b off ab cb, a = some ⟨b, off, none⟩ ∧ (ab = none → T.getD k [] = []) ∧ (T.getD k []).length ≤ reachBytes ∧
    ∀ x, Below W.heap.size W x → x.cell? ⟨b, off + k, none⟩ = some (.slice ab (T.getD k []).length cb) ∧ BytesAt x ab (T.getD k []) := by
  obtain ⟨b, off, v, e, h0, ⟨ab, cb, rfl, hb, hn, hmx⟩⟩ := h k hk
  refine ⟨b, off, ab, cb, e, hn, hmx, fun x hx => ?_⟩
  have hc : Chg none_ W x := Chg.of_below hx
  exact ⟨hc.cell h0 (fun h => h), hb.chg0 hc⟩
/-- What the loop keeps. -/
def Kept (W wr : World) (p q : Nat) (C D : List Ciph) (k : Nat) : Prop := Two W wr p q 2 2 C D ∧ Alike C D ∧ Bnd C k ∧ Bnd D k

set_option maxRecDepth 100000 in
set_option maxHeartbeats 8000000 in
theorem walk (W : World) (a0 : Option Addr) (len0 cap0 : Nat) (L : List StepX) (hL : L.length = len0) (w0 : StepsAt W a0 L) (a1 : Option Addr) (len1 cap1 : Nat) (T : List (List UInt8)) (hT : T.length = len1) (w1 : TextsAt W a1 T) :
    Calls Try.prog 15 #[.slice a0 len0 cap0, .slice a1 len1 cap1] W fun e w' => e = .returned (.bool true) ∧ Below W.heap.size W w' := by
  subst hL
  subst hT
  have hm3 := i64_and3
  have hm7 := i64_and7
  have HL : Hid (StepsAt W a0 L) := w0
  have HT : Hid (TextsAt W a1 T) := w1
  clear w0 w1
  go_enter Try.func15, Try.ntmps15
  go_wp2_with fail
  refine (mine_new 2 W W (Below.refl _ _)).mono ?_
  rintro e x1 ⟨p, rfl, h1⟩
  rw [show max (2 : Int) 1 = 2 from rfl] at h1
  go_wp2_with fail
  refine (two_new 2 W x1 p 2 [] h1).mono ?_
  rintro e x2 ⟨q, rfl, h2⟩
  rw [show max (2 : Int) 1 = 2 from rfl] at h2
  clear h1
  go_wp2_with fail
  go_loopw [7] (fun i wr => ∃ (k : Nat) (C D : List Ciph), k ≤ L.length ∧ k ≤ 40 ∧ i = .int .i64 k ∧ Kept W wr p q C D k) (fun i _ => 40 - (intOf i).toNat)
  case atStart => exact ⟨0, [], [], by omega, by omega, rfl, h2, rfl, ⟨by simp, by simp⟩, ⟨by simp, by simp⟩⟩
  case round =>
    obtain ⟨k, C, D, hk, hk40, rfl, hK⟩ := hrel
    clear h2
    by_cases hlt : k < L.length ∧ k < 40
    · obtain ⟨hkl, hk4⟩ := hlt
      have hd1 : decide ((k : Int) < 40) = true := by simp; omega
      have hd2 : decide ((k : Int) < (L.length : Int)) = true := by simp; omega
      -- ROUND
      obtain ⟨b, off, ab, cb, rfl, hnil, hpm, wk, wa, wb, hcell⟩ := steps_fix HL.out hkl
      obtain ⟨⟨kk, sa, sb, pl⟩, hs⟩ : ∃ s, s = L.getD k default := ⟨_, rfl⟩
      rw [← hs] at hnil hpm wk wa wb hcell
      clear hs
      dsimp only at hnil hpm wk wa wb hcell
      have HCELL := Lib.hid hcell
      have HNIL := Lib.hid hnil
      have HWA : Hid ((Lit.int .i64 (sa % 4)).wf = true) := WalkArith.wf_i64 (by omega)
      clear hcell hnil wk wa wb
      obtain ⟨h2, hal, hbC, hbD⟩ := hK
      obtain ⟨c0, c1, c2, c3, hby⟩ := HCELL.out wr h2.below
      have hk01 : (k : Int) < (L.length : Int) := by omega
      have HBY := Lib.hid hby
      clear hby
      go_wp2_with fail
      go_quiet (fail)
      have h3 : Two W (wr.drewN nq) p q 2 2 C D := h2.chg0 ((Chg.refl _ _).drewN nq)
      obtain ⟨c0, c1, c2, c3, hby⟩ := HCELL.out (wr.drewN nq) h3.below
      clear h2 HBY
      obtain ⟨wq, hwq'⟩ : ∃ wq, wq = wr.drewN nq := ⟨_, rfl⟩
      rw [← hwq'] at h3 c0 c1 c2 c3 hby
      rw [← hwq']
      clear hwq'
      have HBY := Lib.hid hby
      clear hby
      by_cases hT : k < T.length
      · have hk11 : (k : Int) < (T.length : Int) := by omega
        obtain ⟨b1, off1, at1, ct1, rfl, hn1, htm, hc1⟩ := texts_fix HT.out hT
        obtain ⟨tx, htx⟩ : ∃ tx, tx = T.getD k [] := ⟨_, rfl⟩
        rw [← htx] at hn1 htm hc1
        clear htx
        have HC1 := Lib.hid hc1
        obtain ⟨d0, hby1⟩ := hc1 wq h3.below
        have HBY1 := Lib.hid hby1
        have HN1 := Lib.hid hn1
        clear hby1 hn1 hc1
        by_cases h300 : tx.length + pl.length ≤ 300
        · have hsum : wrap64 ((tx.length : Int) + (pl.length : Int)) = (tx.length : Int) + (pl.length : Int) := by unfold wrap64; unfold reachBytes at *; omega
          have hd3 : decide (300 < (tx.length : Int) + (pl.length : Int)) = false := by simp only [decide_eq_false_iff_not]; omega
          have hpl3 : pl.length ≤ 300 := by omega
          have htx3 : tx.length ≤ 300 := by omega
          by_cases hz : kk % 4 = 0
          · skip
            have hkd : (kk % 4 == 0) = true := by simpa using hz
            have hkd2 : kk % 4 = 0 := hz
            go_wp2_with fail
            refine (two_seal p q 2 2 C D (sa % 4) ab pl cb W wq h3 (by have := hbC.1; omega) HBY.out HNIL.out (by omega)).mono ?_
            rintro e w4 ⟨rfl, h4⟩
            rw [hal.length]
            go_wp2_with fail
            refine (two_seal q p 2 2 D (C ++ [⟨sa % 4, pl, []⟩]) (sa % 4) at1 (tx) ct1 W w4 h4.swap (by have := hbD.1; omega) (HC1.out w4 h4.below).2 HN1.out (by omega)).mono ?_
            rintro e w5 ⟨rfl, h5⟩
            have hK5 : Kept W w5 p q (C ++ [⟨sa % 4, pl, []⟩]) (D ++ [⟨sa % 4, (tx), []⟩]) (k + 1) := ⟨h5.swap, snoc hal _ _ _, hbC.snoc _ hpl3, hbD.snoc _ htx3⟩
            obtain ⟨e0, e1, e2, e3, -⟩ := HCELL.out w5 h5.swap.below
            have hkd3 : (kk % 4 != 0) = false := by simp [hz]
            clear h4 h5 h3

            obtain ⟨C', D', hC', hD'⟩ : ∃ C' D', C' = C ++ [⟨sa % 4, pl, []⟩] ∧ D' = D ++ [⟨sa % 4, tx, []⟩] := ⟨_, _, rfl, rfl⟩
            rw [← hC', ← hD'] at hK5
            clear hC' hD'
            obtain ⟨hT5, hal5, hb5, hb6⟩ := hK5
            have HAL := Lib.hid hal5
            have HB5 := Lib.hid hb5
            have HB6 := Lib.hid hb6
            clear hal5 hb5 hb6 hal hbC hbD HBY HBY1 HN1 HNIL HCELL c0 c1 c2 c3
            go_wp2_with fail
            refine (mine_open_any p 2 _ (sa % 4) (sb % 8) W w5 hT5.mine (fun r hr => by have := HB5.out.2 r hr; omega)).mono ?_
            intro e w6 ho6
            obtain ⟨v6, rfl, hc6⟩ := Opened.any ho6
            have hT6 := hT5.chg0 hc6
            clear ho6 hc6 hT5
            rw [opensEq HAL.out]
            obtain ⟨o6, ho6⟩ : ∃ b, b = (openAt 2 D' (sa % 4) (sb % 8)).isSome := ⟨_, rfl⟩
            rw [← ho6]
            have HO6 := Lib.hid ho6
            clear ho6
            go_wp2_with fail
            refine (mine_open_any q 2 _ (sa % 4) (sb % 8) W w6 hT6.mine2 (fun r hr => by have := HB6.out.2 r hr; omega)).mono ?_
            intro e w7 ho7
            obtain ⟨v7, rfl, hc7⟩ := Opened.any ho7
            have hT7 := hT6.chg0 hc7
            clear ho7 hc7 hT6
            rw [← HO6.out]
            clear HO6
            go_wp2_with fail
            refine (mine_len p 2 _ W w7 hT7.mine).mono ?_
            rintro e _ ⟨rfl, rfl⟩
            go_wp2_with fail
            refine (mine_len q 2 _ W w7 hT7.mine2).mono ?_
            rintro e _ ⟨rfl, rfl⟩
            rw [HAL.out.length]
            go_wp2_with fail
            refine (mine_shares_any p 2 _ (sb % 8) W w7 hT7.mine (fun r hr => by have := HB5.out.2 r hr; omega)).mono ?_
            intro e w8 ho8
            obtain ⟨a8, cp8, rfl, hi8, hB8, -⟩ := ho8.open
            have hT8 := hT7.chg0 (Chg.of_below hB8)
            clear ho8 hB8 hT7
            rw [sharesEq HAL.out] at hi8
            rw [sharesEq HAL.out]
            go_wp2_with fail
            refine (mine_shares_any q 2 _ (sb % 8) W w8 hT8.mine2 (fun r hr => by have := HB6.out.2 r hr; omega)).mono ?_
            intro e w9 ho9
            obtain ⟨a9, cp9, rfl, hi9, hB9, -⟩ := ho9.open
            have hT9 := hT8.chg0 (Chg.of_below hB9)
            replace hi8 := hi8.chg0 (Chg.of_below hB9)
            clear ho9 hB9 hT8
            have hsl := sharesLen HB6.out (sb % 8)
            obtain ⟨S, hS⟩ : ∃ S, S = sharesAt D' (sb % 8) := ⟨_, rfl⟩
            rw [← hS] at hi8 hi9 hsl
            rw [← hS]
            clear hS
            rw [← rising_length S] at *
            go_wp2_with fail
            refine (sameints_any a8 a9 _ _ cp8 cp9 w9 hi8 hi9 (by omega) (by omega)).mono ?_
            rintro e wz ⟨rfl, hcz⟩
            rw [decide_eq_true (rfl : rising S = rising S)]
            have hTz := hT9.chg0 hcz
            clear hT9 hcz hi8 hi9
            go_wp2_with fail
            go_roundw
            case rel => exact ⟨k + 1, C', D', by omega, by omega, by go_num, hTz, HAL.out, HB5.out, HB6.out⟩
            case measure => simp [intOf]; omega
          · skip
            have hkd : (kk % 4 == 0) = false := by simpa using hz
            have hkd3 : (kk % 4 != 0) = true := by simpa using hz
            go_wp2_with fail
            refine (two_share_any p q 2 2 C D (sa % 4) (sb % 8) W wq h3 HWA.out).mono ?_
            rintro e w4 ⟨rfl, h4⟩
            rw [has hal]
            obtain ⟨o4, ho4⟩ : ∃ b, b = (cAt D (sb % 8)).isSome := ⟨_, rfl⟩
            rw [← ho4]
            have HO4 := Lib.hid ho4
            clear ho4
            go_wp2_with fail
            refine (two_share_any q p 2 2 D _ (sa % 4) (sb % 8) W w4 h4.swap HWA.out).mono ?_
            rintro e w5 ⟨rfl, h5⟩
            rw [← HO4.out]
            have hK5 : Kept W w5 p q (shareAt C (sa % 4) (sb % 8)) (shareAt D (sa % 4) (sb % 8)) (k + 1) := ⟨h5.swap, share hal _ _, hbC.share _ _, hbD.share _ _⟩
            clear h4 h5 h3 HO4

            obtain ⟨C', D', hC', hD'⟩ : ∃ C' D', C' = shareAt C (sa % 4) (sb % 8) ∧ D' = shareAt D (sa % 4) (sb % 8) := ⟨_, _, rfl, rfl⟩
            rw [← hC', ← hD'] at hK5
            clear hC' hD'
            obtain ⟨hT5, hal5, hb5, hb6⟩ := hK5
            have HAL := Lib.hid hal5
            have HB5 := Lib.hid hb5
            have HB6 := Lib.hid hb6
            clear hal5 hb5 hb6 hal hbC hbD HBY HBY1 HN1 HNIL HCELL c0 c1 c2 c3
            go_wp2_with fail
            refine (mine_open_any p 2 _ (sa % 4) (sb % 8) W w5 hT5.mine (fun r hr => by have := HB5.out.2 r hr; omega)).mono ?_
            intro e w6 ho6
            obtain ⟨v6, rfl, hc6⟩ := Opened.any ho6
            have hT6 := hT5.chg0 hc6
            clear ho6 hc6 hT5
            rw [opensEq HAL.out]
            obtain ⟨o6, ho6⟩ : ∃ b, b = (openAt 2 D' (sa % 4) (sb % 8)).isSome := ⟨_, rfl⟩
            rw [← ho6]
            have HO6 := Lib.hid ho6
            clear ho6
            go_wp2_with fail
            refine (mine_open_any q 2 _ (sa % 4) (sb % 8) W w6 hT6.mine2 (fun r hr => by have := HB6.out.2 r hr; omega)).mono ?_
            intro e w7 ho7
            obtain ⟨v7, rfl, hc7⟩ := Opened.any ho7
            have hT7 := hT6.chg0 hc7
            clear ho7 hc7 hT6
            rw [← HO6.out]
            clear HO6
            go_wp2_with fail
            refine (mine_len p 2 _ W w7 hT7.mine).mono ?_
            rintro e _ ⟨rfl, rfl⟩
            go_wp2_with fail
            refine (mine_len q 2 _ W w7 hT7.mine2).mono ?_
            rintro e _ ⟨rfl, rfl⟩
            rw [HAL.out.length]
            go_wp2_with fail
            refine (mine_shares_any p 2 _ (sb % 8) W w7 hT7.mine (fun r hr => by have := HB5.out.2 r hr; omega)).mono ?_
            intro e w8 ho8
            obtain ⟨a8, cp8, rfl, hi8, hB8, -⟩ := ho8.open
            have hT8 := hT7.chg0 (Chg.of_below hB8)
            clear ho8 hB8 hT7
            rw [sharesEq HAL.out] at hi8
            rw [sharesEq HAL.out]
            go_wp2_with fail
            refine (mine_shares_any q 2 _ (sb % 8) W w8 hT8.mine2 (fun r hr => by have := HB6.out.2 r hr; omega)).mono ?_
            intro e w9 ho9
            obtain ⟨a9, cp9, rfl, hi9, hB9, -⟩ := ho9.open
            have hT9 := hT8.chg0 (Chg.of_below hB9)
            replace hi8 := hi8.chg0 (Chg.of_below hB9)
            clear ho9 hB9 hT8
            have hsl := sharesLen HB6.out (sb % 8)
            obtain ⟨S, hS⟩ : ∃ S, S = sharesAt D' (sb % 8) := ⟨_, rfl⟩
            rw [← hS] at hi8 hi9 hsl
            rw [← hS]
            clear hS
            rw [← rising_length S] at *
            go_wp2_with fail
            refine (sameints_any a8 a9 _ _ cp8 cp9 w9 hi8 hi9 (by omega) (by omega)).mono ?_
            rintro e wz ⟨rfl, hcz⟩
            rw [decide_eq_true (rfl : rising S = rising S)]
            have hTz := hT9.chg0 hcz
            clear hT9 hcz hi8 hi9
            go_wp2_with fail
            go_roundw
            case rel => exact ⟨k + 1, C', D', by omega, by omega, by go_num, hTz, HAL.out, HB5.out, HB6.out⟩
            case measure => simp [intOf]; omega
        · have hsum : wrap64 ((tx.length : Int) + (pl.length : Int)) = (tx.length : Int) + (pl.length : Int) := by unfold wrap64; unfold reachBytes at *; omega
          have hd3 : decide (300 < (tx.length : Int) + (pl.length : Int)) = true := by simp only [decide_eq_true_eq]; omega
          go_wp2_with fail
          refine (seal_awake wq).mono ?_
          rintro e w4 ⟨rfl, hB4⟩
          go_wp2_with fail
          go_ret
          exact ⟨rfl, h3.below.trans (hB4.mono h3.below.size)⟩
      · have hk11 : decide ((k : Int) < (T.length : Int)) = false := by simp; omega
        have HBY1 := Lib.hid trivial
        have HN1 := Lib.hid trivial
        by_cases h300 : pl.length ≤ 300
        · have hsum : wrap64 ((0 : Int) + (pl.length : Int)) = (pl.length : Int) := by unfold wrap64; unfold reachBytes at *; omega
          have hsum2 : wrap64 (pl.length : Int) = (pl.length : Int) := by unfold wrap64; unfold reachBytes at *; omega
          have hd3 : decide (300 < (pl.length : Int)) = false := by simp only [decide_eq_false_iff_not]; omega
          have hpl3 : pl.length ≤ 300 := by omega
          by_cases hz : kk % 4 = 0
          · skip
            have hkd : (kk % 4 == 0) = true := by simpa using hz
            have hkd2 : kk % 4 = 0 := hz
            go_wp2_with fail
            refine (two_seal p q 2 2 C D (sa % 4) ab pl cb W wq h3 (by have := hbC.1; omega) HBY.out HNIL.out (by omega)).mono ?_
            rintro e w4 ⟨rfl, h4⟩
            rw [hal.length]
            go_wp2_with fail
            refine (two_seal q p 2 2 D (C ++ [⟨sa % 4, pl, []⟩]) (sa % 4) none ([]) 0 W w4 h4.swap (by have := hbD.1; omega) (.inl rfl) (fun _ => rfl) (by simp)).mono ?_
            rintro e w5 ⟨rfl, h5⟩
            have hK5 : Kept W w5 p q (C ++ [⟨sa % 4, pl, []⟩]) (D ++ [⟨sa % 4, ([]), []⟩]) (k + 1) := ⟨h5.swap, snoc hal _ _ _, hbC.snoc _ hpl3, hbD.snoc _ (by simp)⟩
            obtain ⟨e0, e1, e2, e3, -⟩ := HCELL.out w5 h5.swap.below
            have hkd3 : (kk % 4 != 0) = false := by simp [hz]
            clear h4 h5 h3

            obtain ⟨C', D', hC', hD'⟩ : ∃ C' D', C' = C ++ [⟨sa % 4, pl, []⟩] ∧ D' = D ++ [⟨sa % 4, [], []⟩] := ⟨_, _, rfl, rfl⟩
            rw [← hC', ← hD'] at hK5
            clear hC' hD'
            obtain ⟨hT5, hal5, hb5, hb6⟩ := hK5
            have HAL := Lib.hid hal5
            have HB5 := Lib.hid hb5
            have HB6 := Lib.hid hb6
            clear hal5 hb5 hb6 hal hbC hbD HBY HBY1 HN1 HNIL HCELL c0 c1 c2 c3
            go_wp2_with fail
            refine (mine_open_any p 2 _ (sa % 4) (sb % 8) W w5 hT5.mine (fun r hr => by have := HB5.out.2 r hr; omega)).mono ?_
            intro e w6 ho6
            obtain ⟨v6, rfl, hc6⟩ := Opened.any ho6
            have hT6 := hT5.chg0 hc6
            clear ho6 hc6 hT5
            rw [opensEq HAL.out]
            obtain ⟨o6, ho6⟩ : ∃ b, b = (openAt 2 D' (sa % 4) (sb % 8)).isSome := ⟨_, rfl⟩
            rw [← ho6]
            have HO6 := Lib.hid ho6
            clear ho6
            go_wp2_with fail
            refine (mine_open_any q 2 _ (sa % 4) (sb % 8) W w6 hT6.mine2 (fun r hr => by have := HB6.out.2 r hr; omega)).mono ?_
            intro e w7 ho7
            obtain ⟨v7, rfl, hc7⟩ := Opened.any ho7
            have hT7 := hT6.chg0 hc7
            clear ho7 hc7 hT6
            rw [← HO6.out]
            clear HO6
            go_wp2_with fail
            refine (mine_len p 2 _ W w7 hT7.mine).mono ?_
            rintro e _ ⟨rfl, rfl⟩
            go_wp2_with fail
            refine (mine_len q 2 _ W w7 hT7.mine2).mono ?_
            rintro e _ ⟨rfl, rfl⟩
            rw [HAL.out.length]
            go_wp2_with fail
            refine (mine_shares_any p 2 _ (sb % 8) W w7 hT7.mine (fun r hr => by have := HB5.out.2 r hr; omega)).mono ?_
            intro e w8 ho8
            obtain ⟨a8, cp8, rfl, hi8, hB8, -⟩ := ho8.open
            have hT8 := hT7.chg0 (Chg.of_below hB8)
            clear ho8 hB8 hT7
            rw [sharesEq HAL.out] at hi8
            rw [sharesEq HAL.out]
            go_wp2_with fail
            refine (mine_shares_any q 2 _ (sb % 8) W w8 hT8.mine2 (fun r hr => by have := HB6.out.2 r hr; omega)).mono ?_
            intro e w9 ho9
            obtain ⟨a9, cp9, rfl, hi9, hB9, -⟩ := ho9.open
            have hT9 := hT8.chg0 (Chg.of_below hB9)
            replace hi8 := hi8.chg0 (Chg.of_below hB9)
            clear ho9 hB9 hT8
            have hsl := sharesLen HB6.out (sb % 8)
            obtain ⟨S, hS⟩ : ∃ S, S = sharesAt D' (sb % 8) := ⟨_, rfl⟩
            rw [← hS] at hi8 hi9 hsl
            rw [← hS]
            clear hS
            rw [← rising_length S] at *
            go_wp2_with fail
            refine (sameints_any a8 a9 _ _ cp8 cp9 w9 hi8 hi9 (by omega) (by omega)).mono ?_
            rintro e wz ⟨rfl, hcz⟩
            rw [decide_eq_true (rfl : rising S = rising S)]
            have hTz := hT9.chg0 hcz
            clear hT9 hcz hi8 hi9
            go_wp2_with fail
            go_roundw
            case rel => exact ⟨k + 1, C', D', by omega, by omega, by go_num, hTz, HAL.out, HB5.out, HB6.out⟩
            case measure => simp [intOf]; omega
          · skip
            have hkd : (kk % 4 == 0) = false := by simpa using hz
            have hkd3 : (kk % 4 != 0) = true := by simpa using hz
            go_wp2_with fail
            refine (two_share_any p q 2 2 C D (sa % 4) (sb % 8) W wq h3 HWA.out).mono ?_
            rintro e w4 ⟨rfl, h4⟩
            rw [has hal]
            obtain ⟨o4, ho4⟩ : ∃ b, b = (cAt D (sb % 8)).isSome := ⟨_, rfl⟩
            rw [← ho4]
            have HO4 := Lib.hid ho4
            clear ho4
            go_wp2_with fail
            refine (two_share_any q p 2 2 D _ (sa % 4) (sb % 8) W w4 h4.swap HWA.out).mono ?_
            rintro e w5 ⟨rfl, h5⟩
            rw [← HO4.out]
            have hK5 : Kept W w5 p q (shareAt C (sa % 4) (sb % 8)) (shareAt D (sa % 4) (sb % 8)) (k + 1) := ⟨h5.swap, share hal _ _, hbC.share _ _, hbD.share _ _⟩
            clear h4 h5 h3 HO4

            obtain ⟨C', D', hC', hD'⟩ : ∃ C' D', C' = shareAt C (sa % 4) (sb % 8) ∧ D' = shareAt D (sa % 4) (sb % 8) := ⟨_, _, rfl, rfl⟩
            rw [← hC', ← hD'] at hK5
            clear hC' hD'
            obtain ⟨hT5, hal5, hb5, hb6⟩ := hK5
            have HAL := Lib.hid hal5
            have HB5 := Lib.hid hb5
            have HB6 := Lib.hid hb6
            clear hal5 hb5 hb6 hal hbC hbD HBY HBY1 HN1 HNIL HCELL c0 c1 c2 c3
            go_wp2_with fail
            refine (mine_open_any p 2 _ (sa % 4) (sb % 8) W w5 hT5.mine (fun r hr => by have := HB5.out.2 r hr; omega)).mono ?_
            intro e w6 ho6
            obtain ⟨v6, rfl, hc6⟩ := Opened.any ho6
            have hT6 := hT5.chg0 hc6
            clear ho6 hc6 hT5
            rw [opensEq HAL.out]
            obtain ⟨o6, ho6⟩ : ∃ b, b = (openAt 2 D' (sa % 4) (sb % 8)).isSome := ⟨_, rfl⟩
            rw [← ho6]
            have HO6 := Lib.hid ho6
            clear ho6
            go_wp2_with fail
            refine (mine_open_any q 2 _ (sa % 4) (sb % 8) W w6 hT6.mine2 (fun r hr => by have := HB6.out.2 r hr; omega)).mono ?_
            intro e w7 ho7
            obtain ⟨v7, rfl, hc7⟩ := Opened.any ho7
            have hT7 := hT6.chg0 hc7
            clear ho7 hc7 hT6
            rw [← HO6.out]
            clear HO6
            go_wp2_with fail
            refine (mine_len p 2 _ W w7 hT7.mine).mono ?_
            rintro e _ ⟨rfl, rfl⟩
            go_wp2_with fail
            refine (mine_len q 2 _ W w7 hT7.mine2).mono ?_
            rintro e _ ⟨rfl, rfl⟩
            rw [HAL.out.length]
            go_wp2_with fail
            refine (mine_shares_any p 2 _ (sb % 8) W w7 hT7.mine (fun r hr => by have := HB5.out.2 r hr; omega)).mono ?_
            intro e w8 ho8
            obtain ⟨a8, cp8, rfl, hi8, hB8, -⟩ := ho8.open
            have hT8 := hT7.chg0 (Chg.of_below hB8)
            clear ho8 hB8 hT7
            rw [sharesEq HAL.out] at hi8
            rw [sharesEq HAL.out]
            go_wp2_with fail
            refine (mine_shares_any q 2 _ (sb % 8) W w8 hT8.mine2 (fun r hr => by have := HB6.out.2 r hr; omega)).mono ?_
            intro e w9 ho9
            obtain ⟨a9, cp9, rfl, hi9, hB9, -⟩ := ho9.open
            have hT9 := hT8.chg0 (Chg.of_below hB9)
            replace hi8 := hi8.chg0 (Chg.of_below hB9)
            clear ho9 hB9 hT8
            have hsl := sharesLen HB6.out (sb % 8)
            obtain ⟨S, hS⟩ : ∃ S, S = sharesAt D' (sb % 8) := ⟨_, rfl⟩
            rw [← hS] at hi8 hi9 hsl
            rw [← hS]
            clear hS
            rw [← rising_length S] at *
            go_wp2_with fail
            refine (sameints_any a8 a9 _ _ cp8 cp9 w9 hi8 hi9 (by omega) (by omega)).mono ?_
            rintro e wz ⟨rfl, hcz⟩
            rw [decide_eq_true (rfl : rising S = rising S)]
            have hTz := hT9.chg0 hcz
            clear hT9 hcz hi8 hi9
            go_wp2_with fail
            go_roundw
            case rel => exact ⟨k + 1, C', D', by omega, by omega, by go_num, hTz, HAL.out, HB5.out, HB6.out⟩
            case measure => simp [intOf]; omega
        · have hsum : wrap64 ((0 : Int) + (pl.length : Int)) = (pl.length : Int) := by unfold wrap64; unfold reachBytes at *; omega
          have hsum2 : wrap64 (pl.length : Int) = (pl.length : Int) := by unfold wrap64; unfold reachBytes at *; omega
          have hd3 : decide (300 < (pl.length : Int)) = true := by simp only [decide_eq_true_eq]; omega
          go_wp2_with fail
          refine (seal_awake wq).mono ?_
          rintro e w4 ⟨rfl, hB4⟩
          go_wp2_with fail
          go_ret
          exact ⟨rfl, h3.below.trans (hB4.mono h3.below.size)⟩
      -- END ROUND
    · -- END
      clear HL HT
      obtain ⟨h2, hal, hbC, hbD⟩ := hK
      by_cases h40 : k < 40
      · have hk4 : decide ((k : Int) < (L.length : Int)) = false := by simp; omega
        go_wp2_with fail
        refine (seal_awake wr).mono ?_
        rintro e w4 ⟨rfl, hB4⟩
        go_wp2_with fail
        go_ret
        exact ⟨rfl, h2.below.trans (hB4.mono h2.below.size)⟩
      · have : k = 40 := by omega
        subst this
        obtain ⟨v1, hv1⟩ : ∃ v1, decide ((40 : Int) < (L.length : Int)) = v1 := ⟨_, rfl⟩
        cases v1
        all_goals
          go_wp2_with fail
          refine (seal_awake wr).mono ?_
          rintro e w4 ⟨rfl, hB4⟩
          go_wp2_with fail
          go_ret
          exact ⟨rfl, h2.below.trans (hB4.mono h2.below.size)⟩

/-! ### the row's step -/
open Go.ChangeShapes Go.WideShapes Go.ChangeAt
set_option linter.unusedVariables false
theorem own : ownKnob Try.prog.godebug = none := by kernel_rfl
theorem laidOut : laidOutB Try.prog = true := by kernel_rfl
set_option maxRecDepth 100000 in
theorem lifted (os : Os) (started : os.Started) (H : Type) (enc : TypeId × Value → H) :
    ReturnsInHanded {} Try.checked os 15 .any (Rows.sealBlindSpec.pre6 enc Try.prog Try.f15 Rows.sealBlindRow.domain false) (Rows.sealBlindSpec.post enc Try.prog Try.f15 false true false false) := by
  refine returnsInHanded_of_change_sized (C := Try.checked) own started (by kernel_rfl) Try.func15
    (ChangeSpec.witness6 (enc := enc) (C := Try.checked) false ⟨#[], #[.slice none 0 0, .slice none 0 0], []⟩ 8 (by kernel_rfl) (by kernel_rfl) (by kernel_rfl) (by kernel_rfl)) ?_
  intro W base args ds gs before hval0 hW hcnd hsz _
  have hval : ∀ (j : Nat) t v, Try.f15.params[j]? = some t → args[j]? = some v → Value.okWide Try.prog W .any base t v := hval0
  have hW' := hW
  obtain ⟨p, q, hA0, hV, rfl, hfz, hnd⟩ := hW
  have hA : DataW.TrodAll enc Try.prog W 0 (fun _ => true) true Try.f15.params.toList args.toList ds p := hA0
  rw [Try.params15] at hA hval hsz
  obtain ⟨v0, vs0, d0, ds0, p0, q0, hargs, rfl, rfl, h0, r0⟩ := trodAll_cons hA
  obtain ⟨v1, vs1, d1, ds1, p1, q1, rfl, rfl, rfl, h1, r1⟩ := trodAll_cons r0
  obtain ⟨rfl, rfl, rfl⟩ := trodAll_nil r1
  obtain rfl : args = #[v0, v1] := by cases args; simp_all
  obtain ⟨rfl, rfl⟩ := trodVars_none hV
  obtain ⟨a0, len0, cap0, rfl⟩ := okWide_slice Try.underlying81 (hval 0 81 v0 rfl rfl)
  have k0 := h0
  have lt0 : ∀ x ∈ p0, x.block < W.heap.size := by obtain ⟨m, hm⟩ := k0; exact DataW.trod_lt m _ _ _ hm
  obtain ⟨T0, l0, w0⟩ := open_steps h0 (fun n hn => by simpa using List.all_eq_true.1 hsz n (DataW.weights_mem_each (j := 0) rfl rfl n hn))
  obtain ⟨a1, len1, cap1, rfl⟩ := okWide_slice Try.underlying82 (hval 1 82 v1 rfl rfl)
  have k1 := h1
  have lt1 : ∀ x ∈ p1, x.block < W.heap.size := by obtain ⟨m, hm⟩ := k1; exact DataW.trod_lt m _ _ _ hm
  obtain ⟨T1, l1, w1⟩ := open_texts h1 (fun n hn => by simpa using List.all_eq_true.1 hsz n (DataW.weights_mem_each (j := 1) rfl rfl n hn))
  clear hA0 hval0
  refine (walk W a0 len0 cap0 T0 l0 w0 a1 len1 cap1 T1 l1 w1).mono fun e W' ⟨he, bel⟩ => ?_
  subst he
  exact ⟨_, rfl, _, _, _, [], _, [], hW', trodAll_mk1 (shut_bool Try.underlying4 _), (trodAll_cons_mk (Below.trod laidOut (by kernel_rfl) (of_decide_eq_true (by kernel_rfl)) k0 bel lt0) (trodAll_cons_mk (Below.trod laidOut (by kernel_rfl) (of_decide_eq_true (by kernel_rfl)) k1 bel lt1) trodAll_mk0)), rfl, bel.frame _, fun h => by cases h⟩

theorem over : Rows.sealBlindRow.holds Try.pinned (OpenSpec.ofChange Rows.sealBlindSpec) :=
  OpenClaim.holds_of_wide 15 Try.f15 rfl rfl rfl rfl rfl rfl rfl ⟨rfl, rfl, rfl, rfl, rfl⟩ rfl rfl rfl rfl rfl (by kernel_rfl) Try.func15 (by kernel_rfl)
    (of_decide_eq_true (by kernel_rfl)) (by unfold Func.isWrapper; first | (rw [if_pos (by decide +kernel)]; kernel_rfl) | (rw [if_neg (by decide +kernel)]; exact ⟨rfl, rfl⟩))
    (fun os started H enc _ => lifted os started H enc)

theorem proved : Rows.SealBlindSaid := over
#print axioms proved

end Go.Proofs.Ytjllejlgclfahaa.sealBlind
