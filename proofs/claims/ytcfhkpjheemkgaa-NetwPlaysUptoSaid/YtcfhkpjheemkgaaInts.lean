/-
  A slice of whole numbers read as a list; the reference's SameInts.
-/
import Derived.Test.YtcfhkpjheemkgaaSorted
import Derived.WalkSpells
namespace Go.Proofs.Ytcfhkpjheemkgaa
set_option linter.unusedSectionVars false
set_option linter.unusedSimpArgs false
set_option linter.unusedVariables false
open Go.RowKit Go.MapKept

/-- One more who signed: each once. -/
def addTo (l : List Int) (a : Int) : List Int := if a ∈ l then l else l ++ [a]
theorem mem_addTo {l : List Int} {a x : Int} : x ∈ addTo l a ↔ x ∈ l ∨ x = a := by
  unfold addTo
  split
  · rename_i h
    exact ⟨.inl, fun hx => by rcases hx with hx | rfl <;> assumption⟩
  · simp
theorem addTo_nodup {l : List Int} {a : Int} (h : l.Nodup) : (addTo l a).Nodup := by
  unfold addTo
  split
  · exact h
  · rename_i hn
    exact List.nodup_append.2 ⟨h, by simp, by simp; exact fun x hx e => hn (e ▸ hx)⟩
/-- What lies from address a on, as a list. -/
def IntsAt (w : World) (a : Option Addr) (l : List Int) : Prop :=
  l = [] ∨ ∃ b off, a = some ⟨b, off, none⟩ ∧ ∀ i, i < l.length → w.cell? ⟨b, off + i, none⟩ = some (.int .i64 (l.getD i 0))
theorem IntsAt.of_new {w : World} {base : Nat} {v : Value} {l : List Int} (h : NewInts w base v l) : ∃ a cap, v = .slice a l.length cap ∧ IntsAt w a l ∧ l.length ≤ cap ∧ cap ≤ maxLen ∧ ∀ b, v.ownBlock = some b → base ≤ b := by
  rcases h with ⟨h1, h2⟩ | ⟨b, cap, cs, h1, h2, h3, h4, h5, h6, h7⟩
  · subst h2
    exact ⟨none, 0, h1, .inl rfl, Nat.le_refl _, Nat.zero_le _, fun b hb => by rw [h1] at hb; cases hb⟩
  · refine ⟨_, cap, h1, .inr ⟨b, 0, rfl, fun i hi => ?_⟩, h4, h5, fun b' hb => by rw [h1] at hb; cases hb; exact h2⟩
    rw [Nat.zero_add, cell_of_blk h3]
    have h8 : (cs.toList.take l.length)[i]? = some (.int .i64 (l.getD i 0)) := by
      rw [h7]; simp [hi]
    rw [List.getElem?_take, if_pos hi] at h8
    simpa using h8
theorem IntsAt.of_row {w : World} {a : Option Addr} {len cap : Nat} {zs : List Int} (h : IsRow .i64 w a len cap zs) : IntsAt w a (zs.take len) ∧ (zs.take len).length = len := by
  have hl : (zs.take len).length = len := by
    rcases h with ⟨_, h1, _, h2⟩ | ⟨_, _, h1, _, h3, _⟩
    · subst h2; simp [h1]
    · simp; omega
  refine ⟨?_, hl⟩
  by_cases h0 : len = 0
  · left; subst h0; simp
  · obtain ⟨b, off, e, _, _, hc⟩ := h.at_ (by omega)
    refine .inr ⟨b, off, e, fun i hi => ?_⟩
    rw [hl] at hi
    rw [hc i hi]
    simp [List.getD, hi]
theorem IntsAt.chg {w w' : World} {S : Nat → Prop} {a : Option Addr} {l : List Int} (h : IntsAt w a l) (hc : Chg S w w') (hs : ∀ b off, a = some ⟨b, off, none⟩ → ¬ S b) : IntsAt w' a l := by
  rcases h with h | ⟨b, off, e, h⟩
  · exact .inl h
  · exact .inr ⟨b, off, e, fun i hi => hc.cell (h i hi) (hs b off e)⟩
theorem IntsAt.chg0 {w w' : World} {a : Option Addr} {l : List Int} (h : IntsAt w a l) (hc : Chg none_ w w') : IntsAt w' a l := h.chg hc fun _ _ _ h => h
theorem IntsAt.below {w w' : World} {a : Option Addr} {l : List Int} (h : IntsAt w a l) (hb : Below w.heap.size w w') : IntsAt w' a l := h.chg0 (Chg.of_below hb)
theorem chg_drewn (w : World) (n : Nat) : Chg none_ w (w.drewN n) := (Chg.refl _ _).drewN n

set_option maxHeartbeats 800000 in
theorem sameints_any (a1 a2 : Option Addr) (l1 l2 : List Int) (c1 c2 : Nat) (w : World) (h1 : IntsAt w a1 l1) (h2 : IntsAt w a2 l2) (hb1 : l1.length ≤ 9223372036854775807) (_ : l2.length ≤ 9223372036854775807) :
    Calls Try.prog 49 #[.slice a1 l1.length c1, .slice a2 l2.length c2] w fun e w' => e = .returned (.bool (decide (l1 = l2))) ∧ Chg none_ w w' := by
  by_cases hl : l1.length = l2.length
  · have hl1 : ((l1.length : Int) != (l2.length : Int)) = false := by simp [hl]
    obtain ⟨n, hn⟩ : ∃ n, n = l1.length := ⟨_, rfl⟩
    rw [← hl, ← hn]
    rw [← hn] at hb1
    have HN := Lib.hid hn
    have HL := Lib.hid hl
    have H1 := Lib.hid h1
    have H2 := Lib.hid h2
    clear hn hl h1 h2 hl1
    go_enter Try.func49, Try.ntmps49
    go_wp2_with fail
    go_loopw [5] (fun i wr => ∃ k : Nat, k ≤ n ∧ i = .int .i64 k ∧ l1.take k = l2.take k ∧ Chg none_ w wr) (fun i _ => n - (intOf i).toNat)
    case atStart => exact ⟨0, by omega, rfl, by simp, Chg.refl _ _⟩
    case round =>
      obtain ⟨k, hk, rfl, ht, hC⟩ := hrel
      have HT := Lib.hid ht
      clear ht
      by_cases hlt : k < n
      · have q1 : ∃ b off, a1 = some ⟨b, off, none⟩ ∧ wr.cell? ⟨b, off + k, none⟩ = some (.int .i64 (l1.getD k 0)) := by
          rcases H1.out with h | ⟨b, off, e, h⟩
          · have := HN.out; rw [h, List.length_nil] at this; omega
          · exact ⟨b, off, e, hC.cell (h k (by have := HN.out; omega)) id⟩
        have q2 : ∃ b off, a2 = some ⟨b, off, none⟩ ∧ wr.cell? ⟨b, off + k, none⟩ = some (.int .i64 (l2.getD k 0)) := by
          rcases H2.out with h | ⟨b, off, e, h⟩
          · have := HN.out; have h9 : l1.length = l2.length := HL.out; rw [h, List.length_nil] at h9; omega
          · have e1 := HN.out
            have e2 : l1.length = l2.length := HL.out
            have e3 : k < l2.length := by omega
            exact ⟨b, off, e, hC.cell (h k e3) id⟩
        obtain ⟨b1, o1, rfl, q1⟩ := q1
        obtain ⟨b2, o2, rfl, q2⟩ := q2
        obtain ⟨x, hx⟩ : ∃ x, x = l1.getD k 0 := ⟨_, rfl⟩
        obtain ⟨y, hy⟩ : ∃ y, y = l2.getD k 0 := ⟨_, rfl⟩
        rw [← hx] at q1
        rw [← hy] at q2
        have HX := Lib.hid hx
        have HY := Lib.hid hy
        clear hx hy
        by_cases hxy : x = y
        · have hb : (x != y) = false := by simp [hxy]
          have HXY := Lib.hid hxy
          clear hxy
          go_wp2_with fail
          go_quiet (fail)
          go_wp2_with fail
          go_roundw
          case rel =>
            refine ⟨k + 1, by omega, by go_num, ?_, hC.drewN _⟩
            have e1 := HN.out
            have e2 := HL.out
            rw [List.take_succ_eq_append_getElem (by omega), List.take_succ_eq_append_getElem (by omega), HT.out]
            congr 1
            have z1 := HX.out
            have z2 := HY.out
            rw [HXY.out] at z1
            rw [z1] at z2
            simp [List.getD, show k < l1.length by omega, show k < l2.length by omega] at z2
            simp [z2]
          case measure => simp [intOf]; omega
        · have hb : (x != y) = true := by simp [hxy]
          have HXY := Lib.hid hxy
          clear hxy
          go_wp2_with fail
          go_quiet (fail)
          go_wp2_with fail
          go_ret
          refine ⟨?_, hC.drewN _⟩
          have : l1 ≠ l2 := fun e => HXY.out (by rw [HX.out, HY.out, e])
          simp [this]
      · go_wp2_with fail
        go_ret
        refine ⟨?_, hC⟩
        have e1 := HN.out
        have e2 := HL.out
        have ht := HT.out
        rw [List.take_of_length_le (by omega), List.take_of_length_le (by omega)] at ht
        simp [ht]
  · have hl1 : ((l1.length : Int) != (l2.length : Int)) = true := by simp; omega
    have hl2 : ¬ (l1 = l2) := fun e => hl (by rw [e])
    have HL := Lib.hid hl2
    generalize l1.length = n1 at *
    generalize l2.length = n2 at *
    clear hl hl2 h1 h2
    go_enter Try.func49, Try.ntmps49
    go_wp2_with fail
    go_ret
    exact ⟨by simp [HL.out], Chg.refl _ _⟩
end Go.Proofs.Ytcfhkpjheemkgaa
