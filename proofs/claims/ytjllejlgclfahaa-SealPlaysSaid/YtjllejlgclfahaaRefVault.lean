/-
  The reference's Vault: how many are needed, a row of labels and texts, and who shared which.
-/
import Derived.Test.YtjllejlgclfahaaRefPairs
import Derived.Test.YtjllejlgclfahaaBytes
import Derived.Test.YtjllejlgclfahaaStep
namespace Go.Proofs.Ytjllejlgclfahaa
open Go.RowKit Go.MapKept

def flatS (l : List (Int × List UInt8)) : List Value := l.flatMap fun q => [.int .i64 q.1, .string ⟨q.2.toArray⟩]
theorem flatS_snoc (l : List (Int × List UInt8)) (q : Int × List UInt8) : flatS (l ++ [q]) = flatS l ++ [.int .i64 q.1, .string ⟨q.2.toArray⟩] := by simp [flatS]
theorem flatS_at (l : List (Int × List UInt8)) (i : Nat) (h : i < l.length) : (flatS l)[i * 2]? = some (.int .i64 l[i].1) ∧ (flatS l)[i * 2 + 1]? = some (.string ⟨l[i].2.toArray⟩) := by
  induction l generalizing i with
  | nil => simp at h
  | cons q l ih =>
    cases i with
    | zero => simp [flatS]
    | succ i =>
      have := ih i (by simpa using h)
      have e1 : (i + 1) * 2 = i * 2 + 2 := by omega
      have e2 : (i + 1) * 2 + 1 = (i * 2 + 1) + 2 := by omega
      constructor
      · rw [e1]; simpa [flatS] using this.1
      · rw [e2]; simpa [flatS] using this.2

/-- The reference's vault behind q: its need, its row R, who shared which (f; no more than N pairs), its blocks F. -/
def RVault (w : World) (q : Nat) (F : Nat → Prop) (need : Int) (R : List (Int × List UInt8)) (f : Int → List Int) (N : Nat) : Prop :=
  ∃ v pv, w.heap[q]? = some (.cells #[.int .i64 need, v, pv] 90 (0, 0)) ∧ Own 121 2 w v R.length (flatS R) ∧ PairsV w pv f N ∧ v.ownBlock ≠ some q ∧ pv.ownBlock ≠ some q ∧ (∀ k, v.ownBlock = some k → pv.ownBlock ≠ some k) ∧ ∀ k, F k ↔ k = q ∨ v.ownBlock = some k ∨ pv.ownBlock = some k
section
variable {w w' : World} {q : Nat} {F : Nat → Prop} {need : Int} {R : List (Int × List UInt8)} {f : Int → List Int} {N : Nat}
theorem RVault.lt (h : RVault w q F need R f N) : ∀ k, F k → k < w.heap.size := by
  obtain ⟨v, pv, h1, h2, h3, h4, h5, h6, hF⟩ := h
  intro k hk
  rcases (hF k).1 hk with rfl | hk | hk
  · exact blk_lt h1
  · exact h2.lt hk
  · exact h3.lt hk
theorem RVault.chg {S : Nat → Prop} (h : RVault w q F need R f N) (hc : Chg S w w') (hs : ∀ k, F k → ¬ S k) : RVault w' q F need R f N := by
  obtain ⟨v, pv, h1, h2, h3, h4, h5, h6, hF⟩ := h
  exact ⟨v, pv, hc.blk h1 (hs _ ((hF _).2 (.inl rfl))), h2.chg hc (fun k hk => hs _ ((hF _).2 (.inr (.inl hk)))), h3.chg hc (fun k hk => hs _ ((hF _).2 (.inr (.inr hk)))), h4, h5, h6, hF⟩
theorem RVault.congr {g : Int → List Int} (h : RVault w q F need R f N) (e : ∀ d, g d = f d) : RVault w q F need R g N := by
  obtain ⟨v, pv, h1, h2, h3, h4⟩ := h
  exact ⟨v, pv, h1, h2, h3.congr e, h4⟩
/-- What the walks read of it. -/
theorem RVault.cells (h : RVault w q F need R f N) : ∃ a cap pv, w.cell? ⟨q, 0, none⟩ = some (.int .i64 need) ∧ w.cell? ⟨q, 1, none⟩ = some (.slice a R.length cap) ∧ w.cell? ⟨q, 2, none⟩ = some pv ∧ PairsV w pv f N ∧ R.length ≤ 9223372036854775807 ∧
    ∀ j, (hj : j < R.length) → ∃ g, a = some ⟨g, 0, none⟩ ∧ w.cell? ⟨g, j * 2, none⟩ = some (.int .i64 R[j].1) ∧ w.cell? ⟨g, j * 2 + 1, none⟩ = some (.string ⟨R[j].2.toArray⟩) := by
  obtain ⟨v, pv, h1, h2, h3, h4, h5, h6, hF⟩ := h
  obtain ⟨a, cap, rfl, hc, hm, hl, ha⟩ := h2.open
  refine ⟨a, cap, pv, (cell_of_blk h1 0).trans rfl, (cell_of_blk h1 1).trans rfl, (cell_of_blk h1 2).trans rfl, h3, by unfold maxLen at hm; omega, fun j hj => ?_⟩
  rcases ha with ⟨_, h0, _⟩ | ⟨g, cs, e, hg, _, ht⟩
  · omega
  · obtain ⟨f1, f2⟩ := flatS_at R j hj
    exact ⟨g, e, own_cell hg ht (by omega) f1, own_cell hg ht (by omega) f2⟩
end

theorem ref_is0 (q : Nat) (a : Option Addr) (n cap : Nat) (c : Int) (w : World) (c1 : w.cell? ⟨q, 1, none⟩ = some (.slice a n cap)) :
    Calls Try.prog 67 #[.pointer (some ⟨q, 0, none⟩), .int .i64 c] w fun e w' => e = .returned (.bool (decide (1 ≤ c ∧ c ≤ n))) ∧ w = w' := by
  by_cases h1 : 1 ≤ c
  · have hd : decide (1 ≤ c) = true := by simpa using h1
    have HH : Hid (decide (1 ≤ c ∧ c ≤ (n : Int)) = decide (c ≤ n)) := by show _ = _; simp [h1]
    clear h1
    go_enter Try.func67, Try.ntmps67
    go_wp2
    all_goals
      go_ret
      exact ⟨by rw [HH.out]; first | rfl | simp_all, rfl⟩
  · have hd : decide (1 ≤ c) = false := by simpa using h1
    have HH : Hid (decide (1 ≤ c ∧ c ≤ (n : Int)) = false) := by show _ = _; simp [h1]
    clear h1
    go_enter Try.func67, Try.ntmps67
    go_wp2
    go_ret
    exact ⟨by rw [HH.out]; rfl, rfl⟩
theorem ref_is_yes (q : Nat) (a : Option Addr) (n cap : Nat) (c : Int) (w : World) (c1 : w.cell? ⟨q, 1, none⟩ = some (.slice a n cap)) (h : 1 ≤ c ∧ c ≤ n) :
    Calls Try.prog 67 #[.pointer (some ⟨q, 0, none⟩), .int .i64 c] w fun e w' => e = .returned (.bool true) ∧ w = w' :=
  (ref_is0 q a n cap c w c1).mono fun _ _ ⟨h1, h2⟩ => ⟨by rw [h1]; simp [h], h2⟩
theorem ref_is_no (q : Nat) (a : Option Addr) (n cap : Nat) (c : Int) (w : World) (c1 : w.cell? ⟨q, 1, none⟩ = some (.slice a n cap)) (h : ¬ (1 ≤ c ∧ c ≤ n)) :
    Calls Try.prog 67 #[.pointer (some ⟨q, 0, none⟩), .int .i64 c] w fun e w' => e = .returned (.bool false) ∧ w = w' :=
  (ref_is0 q a n cap c w c1).mono fun _ _ ⟨h1, h2⟩ => ⟨by rw [h1]; simp [h], h2⟩

set_option maxHeartbeats 400000 in
theorem ref_len (q : Nat) (F : Nat → Prop) (need : Int) (R : List (Int × List UInt8)) (f : Int → List Int) (N : Nat) (w : World) (h : RVault w q F need R f N) :
    Calls Try.prog 55 #[.pointer (some ⟨q, 0, none⟩)] w fun e w' => e = .returned (.int .i64 R.length) ∧ w = w' := by
  obtain ⟨a, cap, pv, c0, c1, -⟩ := h.cells
  clear h
  generalize R.length = n at *
  go_enter Try.func55, Try.ntmps55
  go_wp2
  go_ret
  exact ⟨rfl, rfl⟩

set_option maxHeartbeats 1000000 in
theorem ref_shares_no (q : Nat) (F : Nat → Prop) (need : Int) (R : List (Int × List UInt8)) (f : Int → List Int) (N : Nat) (c : Int) (w : World) (h : RVault w q F need R f N) (hc : ¬ (1 ≤ c ∧ c ≤ R.length)) :
    Calls Try.prog 54 #[.pointer (some ⟨q, 0, none⟩), .int .i64 c] w (PairsAll [] w) := by
  obtain ⟨a, cap, pv, c0, c1, -⟩ := h.cells
  have HC := Lib.hid (ref_is_no q a R.length cap c w c1 hc)
  clear h hc c0 c1
  go_enter Try.func54, Try.ntmps54
  go_wp2_with fail
  refine HC.out.mono ?_
  rintro e _ ⟨rfl, rfl⟩
  go_wp2_with fail
  go_ret
  exact ⟨none, 0, rfl, .inl rising_nil, (by intro _ _ h; cases h), Below.refl _ _⟩

set_option maxHeartbeats 1000000 in
theorem ref_shares_yes (q : Nat) (F : Nat → Prop) (need : Int) (R : List (Int × List UInt8)) (f : Int → List Int) (N : Nat) (c : Int) (w : World) (h : RVault w q F need R f N) (hc : 1 ≤ c ∧ c ≤ R.length) (hN : N ≤ 10000) :
    Calls Try.prog 54 #[.pointer (some ⟨q, 0, none⟩), .int .i64 c] w (PairsAll (f c) w) := by
  obtain ⟨a, cap, pv, c0, c1, c2, hp, -⟩ := h.cells
  have HC := Lib.hid (ref_is_yes q a R.length cap c w c1 hc)
  have HP := Lib.hid (pairs_all q 2 pv f N c w c2 hp hN)
  clear h hc c0 c1 c2 hp
  go_enter Try.func54, Try.ntmps54
  go_wp2_with fail
  refine HC.out.mono ?_
  rintro e _ ⟨rfl, rfl⟩
  go_wp2_with fail
  refine HP.out.mono ?_
  rintro e w2 ⟨a2, cap2, rfl, h1, h2, h3⟩
  go_wp2_with fail
  go_ret
  exact ⟨a2, cap2, rfl, h1, h2, h3⟩

set_option maxHeartbeats 1000000 in
theorem ref_share_no (q : Nat) (F : Nat → Prop) (need : Int) (R : List (Int × List UInt8)) (f : Int → List Int) (N : Nat) (who c : Int) (w : World) (h : RVault w q F need R f N) (hc : ¬ (1 ≤ c ∧ c ≤ R.length)) :
    Calls Try.prog 52 #[.pointer (some ⟨q, 0, none⟩), .int .i64 who, .int .i64 c] w fun e w' => e = .returned (.bool false) ∧ w = w' := by
  obtain ⟨a, cap, pv, c0, c1, -⟩ := h.cells
  have HC := Lib.hid (ref_is_no q a R.length cap c w c1 hc)
  clear h hc c0 c1
  go_enter Try.func52, Try.ntmps52
  go_wp2_with fail
  refine HC.out.mono ?_
  rintro e _ ⟨rfl, rfl⟩
  go_wp2_with fail
  refine HC.out.mono ?_
  rintro e _ ⟨rfl, rfl⟩
  go_wp2_with fail
  go_ret
  exact ⟨rfl, rfl⟩

def RShared (q : Nat) (F : Nat → Prop) (need : Int) (R : List (Int × List UInt8)) (f : Int → List Int) (N : Nat) (who c : Int) (w : World) (e : Ending) (w' : World) : Prop :=
  e = .returned (.bool true) ∧ (∃ F', RVault w' q F' need R (addAt f c who) (N + 1) ∧ ∀ k, F' k → F k ∨ w.heap.size ≤ k) ∧ Chg F w w'

set_option maxHeartbeats 1000000 in
theorem ref_share_yes (q : Nat) (F : Nat → Prop) (need : Int) (R : List (Int × List UInt8)) (f : Int → List Int) (N : Nat) (who c : Int) (w : World) (h : RVault w q F need R f N) (hc : 1 ≤ c ∧ c ≤ R.length) (hN : N ≤ 10000) :
    Calls Try.prog 52 #[.pointer (some ⟨q, 0, none⟩), .int .i64 who, .int .i64 c] w (RShared q F need R f N who c w) := by
  obtain ⟨a, cap, _, _, c1, -⟩ := h.cells
  have HC := Lib.hid (ref_is_yes q a R.length cap c w c1 hc)
  obtain ⟨v, pv, h1, h2, h3, h4, h5, h6, hF⟩ := h
  have HP := Lib.hid (pairs_put q 2 pv #[.int .i64 need, v, pv] 90 f N who c w h1 rfl h3 h5 (by omega))
  have hfin : ∀ w', PairsPut q 2 pv #[.int .i64 need, v, pv] 90 f N who c w (.returned (.tuple #[])) w' → RShared q F need R f N who c w (.returned (.bool true)) w' ∧ ∃ a cap, w'.cell? ⟨q, 1, none⟩ = some (.slice a R.length cap) := by
    rintro w' ⟨_, pv', hb, hp, hn, hcc⟩
    have hvq : w'.heap[q]? = some (.cells #[.int .i64 need, v, pv'] 90 (0, 0)) := hb
    have hnb : ∀ k, pv'.ownBlock = some k → pv.ownBlock = some k ∨ w.heap.size ≤ k := by
      intro k hk
      rcases hn with h | ⟨k', h, hle⟩
      · exact .inl (h ▸ hk)
      · rw [h] at hk; cases hk; exact .inr hle
    have hq := blk_lt h1
    refine ⟨⟨rfl, ⟨fun k => k = q ∨ v.ownBlock = some k ∨ pv'.ownBlock = some k, ⟨v, pv', hvq, h2.chg hcc (fun k hk h => ?_), hp, h4, fun h => ?_, fun k hk h => ?_, fun _ => Iff.rfl⟩, ?_⟩, hcc.mono fun k _ h => ?_⟩, ?_⟩
    · rcases h with rfl | h
      · exact h4 hk
      · exact h6 k hk h
    · rcases hnb _ h with h | h
      · exact h5 h
      · omega
    · rcases hnb _ h with h | h
      · exact h6 k hk h
      · have := h2.lt hk; omega
    · rintro k (rfl | h | h)
      · exact .inl ((hF _).2 (.inl rfl))
      · exact .inl ((hF _).2 (.inr (.inl h)))
      · rcases hnb _ h with h | h
        · exact .inl ((hF _).2 (.inr (.inr h)))
        · exact .inr h
    · rcases h with rfl | h
      · exact (hF _).2 (.inl rfl)
      · exact (hF _).2 (.inr (.inr h))
    · obtain ⟨a', cap', rfl, -⟩ := h2.open
      exact ⟨a', cap', (cell_of_blk hvq 1).trans rfl⟩
  have HF := Lib.hid hfin
  clear h1 h2 h3 h4 h5 h6 hF hfin c1
  have HCC := Lib.hid hc
  clear hc
  go_enter Try.func52, Try.ntmps52
  go_wp2_with fail
  refine HC.out.mono ?_
  rintro e _ ⟨rfl, rfl⟩
  go_wp2_with fail
  refine HP.out.mono ?_
  intro e w2 hp
  obtain rfl := hp.1
  obtain ⟨hsh, a2, cap2, c1⟩ := HF.out w2 hp
  have HSH := Lib.hid hsh
  have HC2 := Lib.hid (ref_is_yes q a2 R.length cap2 c w2 c1 HCC.out)
  clear hp hsh c1
  go_wp2_with fail
  refine HC2.out.mono ?_
  rintro e _ ⟨rfl, rfl⟩
  go_wp2_with fail
  go_ret
  exact HSH.out
end Go.Proofs.Ytjllejlgclfahaa
