/-
  The reference's Vault: Seal (a region that draws its order) and Open.
-/
import Derived.Test.YtjllejlgclfahaaRefVault
import Derived.Laws.IdiomStrings
namespace Go.Proofs.Ytjllejlgclfahaa
open Go.RowKit Go.MapKept

def RSealed (q : Nat) (F : Nat → Prop) (need : Int) (R : List (Int × List UInt8)) (f : Int → List Int) (N : Nat) (label : Int) (l : List UInt8) (w : World) (e : Ending) (w' : World) : Prop :=
  e = .returned (.int .i64 ((R.length : Int) + 1)) ∧ (∃ F', RVault w' q F' need (R ++ [(label, l)]) f N ∧ ∀ k, F' k → F k ∨ w.heap.size ≤ k) ∧ Chg F w w'

set_option maxRecDepth 100000 in
set_option maxHeartbeats 4000000 in
theorem ref_seal (q : Nat) (F : Nat → Prop) (need : Int) (R : List (Int × List UInt8)) (f : Int → List Int) (N : Nat) (label : Int) (a : Option Addr) (l : List UInt8) (cap : Nat) (w : World) (h : RVault w q F need R f N) (hn : R.length ≤ 1000000000) (ha : BytesAt w a l) :
    Calls Try.prog 51 #[.pointer (some ⟨q, 0, none⟩), .int .i64 label, .slice a l.length cap] w (RSealed q F need R f N label l w) := by
  obtain ⟨v, pv, h1, h2, h3, h4, h5, h6, hF⟩ := h
  obtain ⟨av, cv, rfl, hcc, hm, hl, _⟩ := h2.open
  have c1 : w.cell? ⟨q, 1, none⟩ = some (.slice av R.length cv) := (cell_of_blk h1 1).trans rfl
  obtain ⟨i, hi, hz, hs, hby⟩ := info_parts' (P := Try.prog) (e := 121) (z := some (.agg #[.int .i64 0, .string ByteArray.empty])) (s := 2) (b := 24) (by kernel_rfl)
  have hstr : ∀ x, Chg none_ w x → (convert 72 9 (.slice a l.length cap)).run Try.prog x = .ok (.string ⟨l.toArray⟩) x := fun x hx => bytes_string (ha.chg0 hx) cap
  have hown : ∀ x, Chg none_ w x → Own 121 2 x (.slice av R.length cv) R.length (flatS R) := fun x hx => h2.chg hx (fun _ _ h => h)
  have hfin : ∀ x y v', Chg none_ w x → Own 121 2 y v' (R.length + 1) (flatS R ++ [.int .i64 label, .string ⟨l.toArray⟩]) → Chg (fun k => (Value.slice av R.length cv).ownBlock = some k) x y → (v'.ownBlock = (Value.slice av R.length cv).ownBlock ∨ ∃ k, v'.ownBlock = some k ∧ x.heap.size ≤ k) →
      y.frozen? ⟨q, 1, none⟩ = false ∧ y.cell? ⟨q, 1, none⟩ = some (.slice av R.length cv) ∧ (∃ F', RVault (y.setCell ⟨q, 1, none⟩ v') q F' need (R ++ [(label, l)]) f N ∧ ∀ k, F' k → F k ∨ w.heap.size ≤ k) ∧ Chg F w (y.setCell ⟨q, 1, none⟩ v') ∧ (y.setCell ⟨q, 1, none⟩ v').cell? ⟨q, 1, none⟩ = some v' := by
    intro x y v' hx hv hy hb
    have hq := blk_lt h1
    have hyb : y.heap[q]? = some (.cells #[.int .i64 need, .slice av R.length cv, pv] 90 (0, 0)) := hy.blk (hx.blk h1 (fun h => h)) h4
    have hzb : (y.setCell ⟨q, 1, none⟩ v').heap[q]? = some (.cells #[.int .i64 need, v', pv] 90 (0, 0)) := setCell_same (i := 1) v' hyb
    have hxs := hx.size
    have hnb : ∀ k, v'.ownBlock = some k → (Value.slice av R.length cv).ownBlock = some k ∨ x.heap.size ≤ k := by
      intro k hk
      rcases hb with h | ⟨k', h, hle⟩
      · exact .inl (h ▸ hk)
      · rw [h] at hk; cases hk; exact .inr hle
    have hyz := (Chg.refl (· = q) y).put 1 v'
    have hc : Chg F w y := (hx.mono fun _ _ h => h.elim).step hy fun i hi => .inl ((hF _).2 (.inr (.inl hi)))
    have hv'q : v'.ownBlock ≠ some q := fun h => by
      rcases hnb _ h with h | h
      · exact h4 h
      · omega
    refine ⟨frozen_of_blk hyb 1, (cell_of_blk hyb 1).trans rfl, ⟨fun k => k = q ∨ v'.ownBlock = some k ∨ pv.ownBlock = some k, ⟨v', pv, hzb, ?_, ((h3.chg hx (fun _ _ h => h)).chg hy (fun k hk h => h6 k h hk)).chg hyz (fun k hk e => h5 (e ▸ hk)), hv'q, h5, fun k hk h => ?_, fun _ => Iff.rfl⟩, ?_⟩, hc.setCell (.inl ((hF _).2 (.inl rfl))) v', (cell_of_blk hzb 1).trans rfl⟩
    · rw [flatS_snoc, List.length_append, List.length_singleton]
      exact Own.chg hv hyz (fun k hk e => hv'q (e ▸ hk))
    · rcases hnb _ hk with h' | h'
      · exact h6 k h' h
      · have := h3.lt h; omega
    · rintro k (rfl | h | h)
      · exact .inl ((hF _).2 (.inl rfl))
      · rcases hnb _ h with h | h
        · exact .inl ((hF _).2 (.inr (.inl h)))
        · right; omega
      · exact .inl ((hF _).2 (.inr (.inr h)))
  have hq := blk_lt h1
  have hW := Chg.refl none_ w
  have hd1 : ∀ o, (w.drew.alloc o).cell? ⟨q, 1, none⟩ = some (.slice av R.length cv) := fun o => (hW.drew.alloc o).cell c1 (fun h => h)
  have hs0 := hstr w.drew hW.drew
  have hs1 := fun o => hstr (w.drew.alloc o) (hW.drew.alloc o)
  have HFIN := Lib.hid hfin
  have HOWN := Lib.hid hown
  clear h1 h2 h3 h4 h5 h6 hF hfin hown hstr ha hcc hm hl
  generalize hes : R.length = n at *
  generalize flatS R = fl at *
  go_enter Try.func51, Try.ntmps51
  go_wp2_with fail
  go_region_law (first
    | (refine step_own_append rfl (.tmp 11) (.tmp 16) 88 rfl Try.underlying88 hi hz hs hby rfl (by decide) (by simp [Act.eval] <;> rfl) (HOWN.out _ (by repeat (first | (with_reducible assumption) | (with_reducible refine Chg.alloc ?_ _) | (with_reducible refine Chg.drew ?_)))) (by simp [Act.eval] <;> rfl) _ (alloc_new _ _ _ (by simp)) rfl (by simp [Value.oneCell']) (by omega) (by unfold maxLen; omega) ?_; intro v' w' hv' hw' hb'; obtain ⟨av', cv', rfl, -⟩ := hv'.open; obtain ⟨hf1, hf2, hff⟩ := HFIN.out _ w' _ (by repeat (first | (with_reducible assumption) | (with_reducible refine Chg.alloc ?_ _) | (with_reducible refine Chg.drew ?_))) hv' hw' hb'))
  all_goals
    obtain ⟨q1, q2, q3⟩ := hff
    clear HFIN HOWN hd1 hf1 hf2 hw' hv' hb' c1 hi hz hs hby hs0 hs1
    generalize w'.setCell _ _ = wz at *
    go_wp2_with fail
    go_ret
    exact ⟨by simp [hes], q1, q2⟩

/-- []byte(s). -/
theorem string_bytes (w : World) (l : List UInt8) : ∃ cap w', (convert 9 72 (.string ⟨l.toArray⟩)).run Try.prog w = .ok (.slice (some ⟨w.heap.size, 0, none⟩) l.length cap) w' ∧ BytesAt w' (some ⟨w.heap.size, 0, none⟩) l ∧ Chg none_ w w' := by
  refine ⟨_, _, run_bytes_of_string w 9 72 5 ⟨l.toArray⟩ Try.underlying9 Try.underlying72 Try.underlying5, .inr ⟨w.heap.size, 0, rfl, fun i hi => ?_⟩, (Chg.refl _ _).drew.alloc _⟩
  refine (cell_of_blk (alloc_new w.drew _ w.heap.size rfl) _).trans ?_
  rw [Nat.zero_add, bytesRow_at _ _ _ (by simpa using hi)]
  simp [List.getD, hi]
end Go.Proofs.Ytjllejlgclfahaa
