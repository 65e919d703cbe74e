/-
  The reference's Vault: Open.
-/
import Derived.Test.YtjllejlgclfahaaRefVaultSeal
import Derived.Test.YtjllejlgclfahaaHeld
namespace Go.Proofs.Ytjllejlgclfahaa
open Go.RowKit Go.MapKept

def ROpened (r : Option (List UInt8)) (w : World) (e : Ending) (w' : World) : Prop :=
  match r with
  | none => e = .returned (.tuple #[.slice none 0 0, .bool false]) ∧ Chg none_ w w'
  | some l => ∃ a cap, e = .returned (.tuple #[.slice a l.length cap, .bool true]) ∧ BytesAt w' a l ∧ Chg none_ w w'
/-- Whether it opens, and what. -/
def openR (need : Int) (sh : List Int) (x : Int × List UInt8) (label : Int) : Option (List UInt8) := if max need 1 ≤ (sh.length : Int) ∧ x.1 = label then some x.2 else none

set_option maxRecDepth 100000 in
set_option maxHeartbeats 2000000 in
theorem ref_open_no (q : Nat) (F : Nat → Prop) (need : Int) (R : List (Int × List UInt8)) (f : Int → List Int) (N : Nat) (label c : Int) (w : World) (h : RVault w q F need R f N) (hc : ¬ (1 ≤ c ∧ c ≤ R.length)) :
    Calls Try.prog 53 #[.pointer (some ⟨q, 0, none⟩), .int .i64 label, .int .i64 c] w (ROpened none w) := by
  obtain ⟨a, cap, pv, c0, c1, -⟩ := h.cells
  have HC := Lib.hid (fun n => ref_is_no q a R.length cap c (w.drewN n) c1 hc)
  clear h hc c0 c1
  go_enter Try.func53, Try.ntmps53
  go_wp2_with fail
  go_quiet ((go_at_call 67; exact Calls.quiet_of_same ((HC.out _).mono fun _ _ ⟨h1, h2⟩ => ⟨h1, h2.symm⟩)))
  go_wp2_with fail
  go_ret2
  exact ⟨rfl, (Chg.refl _ _).drewN _⟩

-- OPENYES
set_option maxRecDepth 100000 in
set_option maxHeartbeats 2000000 in
theorem ref_open_yes (q : Nat) (F : Nat → Prop) (need : Int) (R : List (Int × List UInt8)) (f : Int → List Int) (N : Nat) (label c : Int) (j : Nat) (x : Int × List UInt8) (w : World) (h : RVault w q F need R f N) (hc : c = (j : Int) + 1) (hx : R[j]? = some x) (hN : N ≤ 10000) (hRl : R.length ≤ 1000000000) :
    Calls Try.prog 53 #[.pointer (some ⟨q, 0, none⟩), .int .i64 label, .int .i64 c] w (ROpened (openR need (f c) x label) w) := by
  obtain ⟨hj, hxj⟩ := List.getElem?_eq_some_iff.1 hx
  have hw1 : RVault w.drew q F need R f N := h.chg (S := none_) (Chg.refl _ _).drew (fun _ _ h => h)
  have HS := Lib.hid (ref_shares_yes q F need R f N c w.drew hw1 (by omega) hN)
  obtain ⟨a, cap, pv, c0, c1, _, _, hb, hs⟩ := h.cells
  obtain ⟨g, rfl, d0, d1⟩ := hs j hj
  rw [hxj] at d0 d1
  have HC := Lib.hid (ref_is_yes q _ R.length cap c w.drew c1 (by omega))
  subst hc
  clear h hw1 hs hx hxj
  have hjn : (j : Int) < (R.length : Int) := by omega
  have hwj : IntKind.i64.wrap (j : Int) = (j : Int) := by rw [IntKind.wrap_i64]; omega
  have hwj1 : IntKind.i64.wrap ((j : Int) + 1 - 1) = (j : Int) := by rw [IntKind.wrap_i64]; omega
  generalize R.length = n at *
  generalize f (j + 1) = sh at *
  obtain ⟨lx, tx⟩ := x
  obtain ⟨nd, hnd⟩ : ∃ nd, nd = max need 1 := ⟨_, rfl⟩
  have e2 := hnd.symm
  have e3 : imax need 1 = nd := by rw [imax_eq]; exact e2
  have hcell : ∀ z, Below w.drew.heap.size w.drew z → z.cell? ⟨q, 0, none⟩ = some (.int .i64 need) ∧ z.cell? ⟨q, 1, none⟩ = some (.slice (some ⟨g, 0, none⟩) n cap) ∧ z.cell? ⟨g, j * 2, none⟩ = some (.int .i64 lx) ∧ z.cell? ⟨g, j * 2 + 1, none⟩ = some (.string ⟨tx.toArray⟩) := fun z hz => by
    have hz' : Chg none_ w.drew z := Chg.of_below hz
    exact ⟨hz'.cell c0 (fun h => h), hz'.cell c1 (fun h => h), hz'.cell d0 (fun h => h), hz'.cell d1 (fun h => h)⟩
  have HCELL := Lib.hid hcell
  clear hcell hnd d1
  by_cases hop : nd ≤ (sh.length : Int)
  · have hlt : decide ((sh.length : Int) < nd) = false := by simp; omega
    by_cases hll : lx = label
    · have hne : (lx != label) = false := by simp [hll]
      have hne2 : (label != label) = false := by simp
      rw [show openR need sh (lx, tx) label = some tx from if_pos (by rw [e2]; exact ⟨hop, hll⟩)]
      go_enter Try.func53, Try.ntmps53
      go_wp2_with fail
      go_region_held3 (fun x : World => x.cell? ⟨q, 0, none⟩ = some (.int .i64 need) ∧ x.cell? ⟨q, 1, none⟩ = some (.slice (some ⟨g, 0, none⟩) n cap) ∧ x.cell? ⟨g, j * 2, none⟩ = some (.int .i64 lx)) (go_keep) (first | (go_at_call 67; refine HC.out.mono ?_; rintro e _ ⟨rfl, rfl⟩) | (go_at_call 54; refine HS.out.mono ?_; rintro e w2 ⟨a2, cap2, rfl, -, -, hB2⟩; obtain ⟨g0, g1, g2, g3⟩ := HCELL.out w2 hB2))
      all_goals
        rename_i hHeld
        obtain ⟨cp, w3, hcv, hby, hC3⟩ := string_bytes w2 tx
        clear hHeld c0 c1 d0
        go_wp2_with fail
        go_ret2
        exact ⟨_, _, rfl, hby, (Chg.refl none_ w).drew.trans ((Chg.of_below (S := none_) hB2).trans hC3)⟩
    · have hne : (lx != label) = true := by simpa using hll
      rw [show openR need sh (lx, tx) label = none from if_neg (by rw [e2]; exact fun h => hll h.2)]
      go_enter Try.func53, Try.ntmps53
      go_wp2_with fail
      go_region_held3 (fun x : World => x.cell? ⟨q, 0, none⟩ = some (.int .i64 need) ∧ x.cell? ⟨q, 1, none⟩ = some (.slice (some ⟨g, 0, none⟩) n cap) ∧ x.cell? ⟨g, j * 2, none⟩ = some (.int .i64 lx)) (go_keep) (first | (go_at_call 67; refine HC.out.mono ?_; rintro e _ ⟨rfl, rfl⟩) | (go_at_call 54; refine HS.out.mono ?_; rintro e w2 ⟨a2, cap2, rfl, -, -, hB2⟩; obtain ⟨g0, g1, g2, g3⟩ := HCELL.out w2 hB2))
      all_goals
        rename_i hHeld
        clear hHeld c0 c1 d0
        go_wp2_with fail
        go_ret2
        exact ⟨rfl, (Chg.refl none_ w).drew.trans (Chg.of_below (S := none_) hB2)⟩
  · have hlt : decide ((sh.length : Int) < nd) = true := by simp; omega
    rw [show openR need sh (lx, tx) label = none from if_neg (by rw [e2]; exact fun h => hop h.1)]
    go_enter Try.func53, Try.ntmps53
    go_wp2_with fail
    refine wp_region_held_drew (S := (fun x : World => x.cell? ⟨q, 0, none⟩ = some (.int .i64 need) ∧ x.cell? ⟨q, 1, none⟩ = some (.slice (some ⟨g, 0, none⟩) n cap) ∧ x.cell? ⟨g, j * 2, none⟩ = some (.int .i64 lx))) (by kernel_rfl) (by go_keep) (fun hHeld => ?_)
    refine takeH 0 (some 8) (v := ?_) rfl (by rfl) (by kernel_rfl) (by kernel_rfl) (by kernel_rfl) (fun _ _ _ h => h) (by kernel_rfl) ?_ (by assumption) ?_
    rotate_left
    · (intro w hSw; (try dsimp only at hSw); go_simp; try (with_reducible rfl))
    try simp only [Act.put, List.setIfInBounds_toArray, List.set_cons_zero, List.set_cons_succ]
    refine takeH 1 (some 9) (v := ?_) rfl (by rfl) (by kernel_rfl) (by kernel_rfl) (by kernel_rfl) (fun _ _ _ h => h) (by kernel_rfl) ?_ (by assumption) ?_
    rotate_left
    · (intro w hSw; (try dsimp only at hSw); go_simp; try (with_reducible rfl))
    try simp only [Act.put, List.setIfInBounds_toArray, List.set_cons_zero, List.set_cons_succ]
    refine wpAnyH_ready (rs := [2]) (by kernel_rfl) (by simp) ?_
    refine AllReadyH.cons rfl (fun K hK => ?_) AllReadyH.nil
    go_simp
    (go_at_call 67; refine HC.out.mono ?_; rintro e _ ⟨rfl, rfl⟩)
    go_wp2_with fail
    refine hK.out _ _ ?_ (fun hHeld => ?_)
    · (try dsimp only); go_keep
    clear hK K
    try simp only [Act.put, List.setIfInBounds_toArray, List.set_cons_zero, List.set_cons_succ]
    refine takeH 3 (some 11) (v := ?_) rfl (by rfl) (by kernel_rfl) (by kernel_rfl) (by kernel_rfl) (fun _ _ _ h => h) (by kernel_rfl) ?_ (by assumption) ?_
    rotate_left
    · (intro w hSw; (try dsimp only at hSw); go_simp; try (with_reducible rfl))
    try simp only [Act.put, List.setIfInBounds_toArray, List.set_cons_zero, List.set_cons_succ]
    refine takeH 4 (some 12) (v := ?_) rfl (by rfl) (by kernel_rfl) (by kernel_rfl) (by kernel_rfl) (fun _ _ _ h => h) (by kernel_rfl) ?_ (by assumption) ?_
    rotate_left
    · (intro w hSw; (try dsimp only at hSw); go_simp; try (with_reducible rfl))
    try simp only [Act.put, List.setIfInBounds_toArray, List.set_cons_zero, List.set_cons_succ]
    refine takeH 5 (some 13) (v := ?_) rfl (by rfl) (by kernel_rfl) (by kernel_rfl) (by kernel_rfl) (fun _ _ _ h => h) (by kernel_rfl) ?_ (by assumption) ?_
    rotate_left
    · (intro w hSw; (try dsimp only at hSw); go_simp; try (with_reducible rfl))
    try simp only [Act.put, List.setIfInBounds_toArray, List.set_cons_zero, List.set_cons_succ]
    refine takeH 6 (some 14) (v := ?_) rfl (by rfl) (by kernel_rfl) (by kernel_rfl) (by kernel_rfl) (fun _ _ _ h => h) (by kernel_rfl) ?_ (by assumption) ?_
    rotate_left
    · (intro w hSw; (try dsimp only at hSw); go_simp; try (with_reducible rfl))
    try simp only [Act.put, List.setIfInBounds_toArray, List.set_cons_zero, List.set_cons_succ]
    refine takeH 9 (some 17) (v := ?_) rfl (by rfl) (by kernel_rfl) (by kernel_rfl) (by kernel_rfl) (fun _ _ _ h => h) (by kernel_rfl) ?_ (by assumption) ?_
    rotate_left
    · (intro w hSw; (try dsimp only at hSw); go_simp; try (with_reducible rfl))
    try simp only [Act.put, List.setIfInBounds_toArray, List.set_cons_zero, List.set_cons_succ]
    refine takeH 10 (some 18) (v := ?_) rfl (by rfl) (by kernel_rfl) (by kernel_rfl) (by kernel_rfl) (fun _ _ _ h => h) (by kernel_rfl) ?_ (by assumption) ?_
    rotate_left
    · (intro w hSw; (try dsimp only at hSw); go_simp; try (with_reducible rfl))
    try simp only [Act.put, List.setIfInBounds_toArray, List.set_cons_zero, List.set_cons_succ]
    refine takeH 11 (some 19) (v := ?_) rfl (by rfl) (by kernel_rfl) (by kernel_rfl) (by kernel_rfl) (fun _ _ _ h => h) (by kernel_rfl) ?_ (by assumption) ?_
    rotate_left
    · (intro w hSw; (try dsimp only at hSw); go_simp; try (with_reducible rfl))
    try simp only [Act.put, List.setIfInBounds_toArray, List.set_cons_zero, List.set_cons_succ]
    refine takeH 12 (some 20) (v := ?_) rfl (by rfl) (by kernel_rfl) (by kernel_rfl) (by kernel_rfl) (fun _ _ _ h => h) (by kernel_rfl) ?_ (by assumption) ?_
    rotate_left
    · (intro w hSw; (try dsimp only at hSw); go_simp; try (with_reducible rfl))
    try simp only [Act.put, List.setIfInBounds_toArray, List.set_cons_zero, List.set_cons_succ]
    refine takeH 13 (some 21) (v := ?_) rfl (by rfl) (by kernel_rfl) (by kernel_rfl) (by kernel_rfl) (fun _ _ _ h => h) (by kernel_rfl) ?_ (by assumption) ?_
    rotate_left
    · (intro w hSw; (try dsimp only at hSw); go_simp; try (with_reducible rfl))
    try simp only [Act.put, List.setIfInBounds_toArray, List.set_cons_zero, List.set_cons_succ]
    refine wpAnyH_ready (rs := [7]) (by kernel_rfl) (by simp) ?_
    refine AllReadyH.cons rfl (fun K hK => ?_) AllReadyH.nil
    go_simp
    (go_at_call 54; refine HS.out.mono ?_; rintro e w2 ⟨a2, cap2, rfl, -, -, hB2⟩; obtain ⟨g0, g1, g2, g3⟩ := HCELL.out w2 hB2)
    go_wp2_with fail
    refine hK.out _ _ ?_ (fun hHeld => ?_)
    · (try dsimp only); go_keep
    clear hK K
    try simp only [Act.put, List.setIfInBounds_toArray, List.set_cons_zero, List.set_cons_succ]
    refine takeH 8 (some 16) (v := ?_) rfl (by rfl) (by kernel_rfl) (by kernel_rfl) (by kernel_rfl) (fun _ _ _ h => h) (by kernel_rfl) ?_ (by assumption) ?_
    rotate_left
    · (intro w hSw; (try dsimp only at hSw); go_simp; try (with_reducible rfl))
    try simp only [Act.put, List.setIfInBounds_toArray, List.set_cons_zero, List.set_cons_succ]
    refine takeH 14 (some 22) (v := ?_) rfl (by rfl) (by kernel_rfl) (by kernel_rfl) (by kernel_rfl) (fun _ _ _ h => h) (by kernel_rfl) ?_ (by assumption) ?_
    rotate_left
    · (intro w hSw; (try dsimp only at hSw); go_simp; try (with_reducible rfl))
    try simp only [Act.put, List.setIfInBounds_toArray, List.set_cons_zero, List.set_cons_succ]
    refine takeH 15 (some 23) (v := ?_) rfl (by rfl) (by kernel_rfl) (by kernel_rfl) (by kernel_rfl) (fun _ _ _ h => h) (by kernel_rfl) ?_ (by assumption) ?_
    rotate_left
    · (intro w hSw; (try dsimp only at hSw); go_simp; try (with_reducible rfl))
    try simp only [Act.put, List.setIfInBounds_toArray, List.set_cons_zero, List.set_cons_succ]
    refine takeH 16 (some 24) (v := ?_) rfl (by rfl) (by kernel_rfl) (by kernel_rfl) (by kernel_rfl) (fun _ _ _ h => h) (by kernel_rfl) ?_ (by assumption) ?_
    rotate_left
    · (intro w hSw; (try dsimp only at hSw); go_simp; try (with_reducible rfl))
    try simp only [Act.put, List.setIfInBounds_toArray, List.set_cons_zero, List.set_cons_succ]
    refine skipH 17 (some 25) (by kernel_rfl) (by kernel_rfl) (by kernel_rfl) (by kernel_rfl) (fun _ _ _ h => h) (by assumption) ?_
    try simp only [Act.put, List.setIfInBounds_toArray, List.set_cons_zero, List.set_cons_succ]
    refine skipH 18 (some 26) (by kernel_rfl) (by kernel_rfl) (by kernel_rfl) (by kernel_rfl) (fun _ _ _ h => h) (by assumption) ?_
    try simp only [Act.put, List.setIfInBounds_toArray, List.set_cons_zero, List.set_cons_succ]
    refine skipH 19 (some 27) (by kernel_rfl) (by kernel_rfl) (by kernel_rfl) (by kernel_rfl) (fun _ _ _ h => h) (by assumption) ?_
    try simp only [Act.put, List.setIfInBounds_toArray, List.set_cons_zero, List.set_cons_succ]
    refine skipH 20 (some 28) (by kernel_rfl) (by kernel_rfl) (by kernel_rfl) (by kernel_rfl) (fun _ _ _ h => h) (by assumption) ?_
    try simp only [Act.put, List.setIfInBounds_toArray, List.set_cons_zero, List.set_cons_succ]
    refine skipH 21 (some 29) (by kernel_rfl) (by kernel_rfl) (by kernel_rfl) (by kernel_rfl) (fun _ _ _ h => h) (by assumption) ?_
    try simp only [Act.put, List.setIfInBounds_toArray, List.set_cons_zero, List.set_cons_succ]
    refine skipH 22 (some 30) (by kernel_rfl) (by kernel_rfl) (by kernel_rfl) (by kernel_rfl) (fun _ _ _ h => h) (by assumption) ?_
    try simp only [Act.put, List.setIfInBounds_toArray, List.set_cons_zero, List.set_cons_succ]
    refine skipH 23 (some 31) (by kernel_rfl) (by kernel_rfl) (by kernel_rfl) (by kernel_rfl) (fun _ _ _ h => h) (by assumption) ?_
    try simp only [Act.put, List.setIfInBounds_toArray, List.set_cons_zero, List.set_cons_succ]
    refine skipH 24 (some 32) (by kernel_rfl) (by kernel_rfl) (by kernel_rfl) (by kernel_rfl) (fun _ _ _ h => h) (by assumption) ?_
    try simp only [Act.put, List.setIfInBounds_toArray, List.set_cons_zero, List.set_cons_succ]
    refine skipH 25 (some 33) (by kernel_rfl) (by kernel_rfl) (by kernel_rfl) (by kernel_rfl) (fun _ _ _ h => h) (by assumption) ?_
    try simp only [Act.put, List.setIfInBounds_toArray, List.set_cons_zero, List.set_cons_succ]
    refine skipH 26 (some 34) (by kernel_rfl) (by kernel_rfl) (by kernel_rfl) (by kernel_rfl) (fun _ _ _ h => h) (by assumption) ?_
    try simp only [Act.put, List.setIfInBounds_toArray, List.set_cons_zero, List.set_cons_succ]
    refine skipH 27 (some 35) (by kernel_rfl) (by kernel_rfl) (by kernel_rfl) (by kernel_rfl) (fun _ _ _ h => h) (by assumption) ?_
    try simp only [Act.put, List.setIfInBounds_toArray, List.set_cons_zero, List.set_cons_succ]
    refine takeH 28 (some 36) (v := ?_) rfl (by rfl) (by kernel_rfl) (by kernel_rfl) (by kernel_rfl) (fun _ _ _ h => h) (by kernel_rfl) ?_ (by assumption) ?_
    rotate_left
    · (intro w hSw; (try dsimp only at hSw); go_simp; try (with_reducible rfl))
    try simp only [Act.put, List.setIfInBounds_toArray, List.set_cons_zero, List.set_cons_succ]
    refine wpAnyH_done (by kernel_rfl) ?_ _
    clear hHeld c0 c1 d0
    go_wp2_with fail
    go_ret2
    exact ⟨rfl, (Chg.refl none_ w).drew.trans (Chg.of_below (S := none_) hB2)⟩
end Go.Proofs.Ytjllejlgclfahaa
