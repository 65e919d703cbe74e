/-
  SignTells: who signed what is told, all of them, and nobody else: the book and the reference agree. No condition.
-/
import Derived.Test.YtjllejlgclfahaaRefPairs
import Derived.ProofKit
import Derived.OpenShut
import Derived.ChangeOld
namespace Go.Proofs.Ytjllejlgclfahaa.signTells
open Go.RowKit

/-- The book at p and the reference's pairs at q say the same. -/
def TR (p q : Nat) (w wr : World) (F : Nat → Prop) (f : Int → List Int) (v : Value) (k : Nat) : Prop :=
  Book wr p F f ∧ wr.heap[q]? = some (.cells #[v] 70 (0, 0)) ∧ PairsV wr v f k ∧ v.ownBlock ≠ some q ∧ ¬ F q ∧ (∀ b, v.ownBlock = some b → ¬ F b ∧ w.heap.size ≤ b) ∧ (∀ j, F j → w.heap.size ≤ j) ∧ w.heap.size ≤ q ∧ Below w.heap.size w wr

set_option maxRecDepth 100000 in
set_option maxHeartbeats 4000000 in
theorem walk_false (a0 : Option Addr) (len0 cap0 : Nat) (z0 : List Int) (a1 : Option Addr) (len1 cap1 : Nat) (z1 : List Int) (w : World) (w0 : IsRow .i64 w a0 len0 cap0 z0) (w1 : IsRow .i64 w a1 len1 cap1 z1) :
    Calls Try.prog 12 #[.slice a0 len0 cap0, .slice a1 len1 cap1, .bool false] w fun e w' => e = .returned (.bool true) ∧ Below w.heap.size w w' := by
  have hlen := w0.len_le
  have hlen1 := w1.len_le
  have hm7 := i64_and7
  have hm3 := i64_and3
  have HR0 := Lib.hid w0
  have HR1 := Lib.hid w1
  clear w0 w1
  go_enter Try.func12, Try.ntmps12
  go_wp2_with fail
  refine (sign_new w).mono ?_
  rintro e ws ⟨p, F1, rfl, h1, hF1, hB1⟩
  go_wp2_with fail
  obtain ⟨q, hq⟩ : ∃ q, q = ws.heap.size := ⟨_, rfl⟩
  rw [← hq]
  have HQ := Lib.hid hq
  clear hq
  go_loopw [9] (fun i wr => ∃ (k : Nat) (F : Nat → Prop) (f : Int → List Int) (v : Value), k ≤ len0 ∧ k ≤ len1 ∧ k ≤ 40 ∧ i = .int .i64 k ∧ TR p q w wr F f v k) (fun i _ => 40 - (intOf i).toNat)
  case atStart =>
    have hq := HQ.out
    refine ⟨0, F1, fun _ => [], .slice none 0 0, by omega, by omega, by omega, rfl, h1.below ((Below.refl _ _).alloc (Nat.le_refl _) _), alloc_new ws _ q hq, PairsV.nil _, (by intro h; cases h), fun h => by have := h1.lt _ h; omega, (by intro b hb; cases hb), hF1, by rw [hq]; exact hB1.size, hB1.trans ((Below.refl _ _).alloc (by have := hB1.size; exact this) _)⟩
  case round =>
    obtain ⟨k, F, f, v, hk0, hk1, hk2, rfl, hbk, hqb, hpv, hvq, hFq, hvF, hF, hwq, hB⟩ := hrel
    clear h1 hF1 hB1
    by_cases hlt : k < len0 ∧ k < len1 ∧ k < 40
    · obtain ⟨hlt0, hlt1, hlt2⟩ := hlt
      obtain ⟨xb, xo, rfl, hlc, hxb, hcell⟩ := HR0.out.at_ (by omega)
      obtain ⟨yb, yo, rfl, hlc1, hyb, hcell1⟩ := HR1.out.at_ (by omega)
      have hc := (hB.cell (p := ⟨xb, xo + k, none⟩) hxb).trans (hcell k hlt0)
      have hc1 := (hB.cell (p := ⟨yb, yo + k, none⟩) hyb).trans (hcell1 k hlt1)
      have hx := HR0.out.wf_ k hlt0
      have hd0 : decide (k < len0) = true := by simpa using hlt0
      have hd1 : decide (k < len1) = true := by simpa using hlt1
      have hd2 : decide ((k : Int) < 40) = true := by simp; omega
      clear hcell hcell1
      generalize z0.getD k 0 = x at hc hx
      generalize z1.getD k 0 = y at hc1
      have hxw : (Lit.int .i64 (x)).wf = true := hx
      have HX := Lib.hid hxw
      clear hx hxw
      have hqd : ∀ n, (wr.drewN n).heap[q]? = some (.cells #[v] 70 (0, 0)) := fun n => hqb
      have HQB := Lib.hid hqb
      clear hqb
      go_wp2_with fail
      go_quiet (fail)
      have hqb := hqd nq
      have hbk0 : Book (wr.drewN nq) p F f := hbk
      have hpv0 : PairsV (wr.drewN nq) v f k := hpv
      have hB0 : Below w.heap.size w (wr.drewN nq) := below_drewn hB nq
      clear hqd hbk hpv hB hc hc1 HQB
      obtain ⟨wq, hwq'⟩ : ∃ wq, wq = wr.drewN nq := ⟨_, rfl⟩
      rw [← hwq'] at hqb hbk0 hpv0 hB0
      rw [← hwq']
      clear hwq'
      obtain ⟨bb, hbb⟩ : ∃ bb : Bool, decide (x ∈ f (y)) = bb := ⟨_, rfl⟩
      have HBB := Lib.hid hbb
      clear hbb
      go_wp2_with fail
      refine ((sign_has p F f (x) (y) wq hbk0).mono fun e w' ⟨h1, h2⟩ => (⟨by rw [h1, HBB.out], h2⟩ : e = Ending.returned (.bool bb) ∧ wq = w')).mono ?_
      rintro e _ ⟨rfl, rfl⟩
      have cq : wq.cell? ⟨q, 0, none⟩ = some v := (cell_of_blk hqb 0).trans rfl
      have CQ := Lib.hid cq
      clear cq
      go_wp2_with fail
      refine ((pairs_has q 0 v f k (x) (y) wq CQ.out hpv0 (by omega)).mono fun e w' ⟨h1, h2⟩ => (⟨by rw [h1, HBB.out], h2⟩ : e = Ending.returned (.bool bb) ∧ wq = w')).mono ?_
      rintro e _ ⟨rfl, rfl⟩
      clear HBB CQ
      have hbne : (bb != bb) = false := by simp
      go_wp2_with fail
      refine (sign_sign p F f (x) (y) wq hbk0 HX.out).mono ?_
      rintro e w2 ⟨rfl, F2, hbk2, hn2, _, hc2⟩
      have hqb2 := hc2.blk hqb hFq
      have hpv2 := hpv0.chg hc2 (fun b hb => (hvF b hb).1)
      have hB2 := hB0.trans (hc2.below hB0.size hF)
      have hF2 : ∀ k, F2 k → w.heap.size ≤ k := fun k hk => by rcases hn2 k hk with h | h; exact hF k h; have := hB0.size; omega
      have hFq2 : ¬ F2 q := fun h => by rcases hn2 q h with h | h; exact hFq h; have := blk_lt hqb; omega
      have hvF2 : ∀ b, v.ownBlock = some b → ¬ F2 b ∧ w.heap.size ≤ b := fun b hb => ⟨fun h => by rcases hn2 b h with h | h; exact (hvF b hb).1 h; have := hpv0.lt hb; omega, (hvF b hb).2⟩
      clear hbk0 hpv0 hB0 hc2 hn2 hF hFq hvF hqb
      go_wp2_with fail
      refine (pairs_put q 0 v #[v] 70 f k (x) (y) w2 hqb2 rfl hpv2 hvq (by omega)).mono ?_
      rintro e w3 ⟨rfl, v3, hqb3, hpv3, hv3, hc3⟩
      have hqb3 : w3.heap[q]? = some (.cells #[v3] 70 (0, 0)) := hqb3
      have hbk3 := hbk2.chg hc3 (fun b hb e => by rcases e with rfl | e; exact hFq2 hb; exact (hvF2 b e).1 hb)
      have hB3 : Below w.heap.size w w3 := hB2.trans (hc3.below hB2.size (fun b e => by rcases e with rfl | e; exact hwq; exact (hvF2 b e).2))
      have hvq3 : v3.ownBlock ≠ some q := by
        rcases hv3 with h | ⟨z, h, hz⟩
        · rw [h]; exact hvq
        · rw [h]; intro e; cases e; have := blk_lt hqb2; omega
      have hvF3 : ∀ b, v3.ownBlock = some b → ¬ F2 b ∧ w.heap.size ≤ b := by
        intro b hb
        rcases hv3 with h | ⟨z, h, hz⟩
        · exact hvF2 b (h ▸ hb)
        · rw [h] at hb; cases hb
          exact ⟨fun hf => by have := hbk2.lt _ hf; omega, by have := hB2.size; omega⟩
      clear hbk2 hpv2 hB2 hc3 hvF2 hqb2 hv3 hvq
      obtain ⟨g, hg⟩ : ∃ g, g = addAt f (y) (x) := ⟨_, rfl⟩
      have hmem : x ∈ g (y) := by rw [hg]; unfold addAt; rw [if_pos rfl]; exact mem_addTo.2 (.inr rfl)
      rw [← hg] at hbk3 hpv3
      clear hg
      have HM := Lib.hid hmem
      clear hmem
      go_wp2_with fail
      refine (sign_has_yes p F2 g (x) (y) w3 hbk3 HM.out).mono ?_
      rintro e _ ⟨rfl, rfl⟩
      clear HM
      obtain ⟨cc, hcc⟩ : ∃ cc : Bool, decide (y ∈ g (x)) = cc := ⟨_, rfl⟩
      have HCC := Lib.hid hcc
      clear hcc
      go_wp2_with fail
      refine ((sign_has p F2 g (y) (x) w3 hbk3).mono fun e w' ⟨h1, h2⟩ => (⟨by rw [h1, HCC.out], h2⟩ : e = Ending.returned (.bool cc) ∧ w3 = w')).mono ?_
      rintro e _ ⟨rfl, rfl⟩
      have cq : w3.cell? ⟨q, 0, none⟩ = some v3 := (cell_of_blk hqb3 0).trans rfl
      have CQ := Lib.hid cq
      clear cq
      go_wp2_with fail
      refine ((pairs_has q 0 v3 g (k + 1) (y) (x) w3 CQ.out hpv3 (by omega)).mono fun e w' ⟨h1, h2⟩ => (⟨by rw [h1, HCC.out], h2⟩ : e = Ending.returned (.bool cc) ∧ w3 = w')).mono ?_
      rintro e _ ⟨rfl, rfl⟩
      clear HCC
      have hcne : (cc != cc) = false := by simp
      have hs1 : (g (y)).length * 8 ≤ 140737488355328 := by have := hpv3.length (y); omega
      have HS1 := Lib.hid hs1
      have hsl1 : (rising (g (y))).length ≤ 9223372036854775807 := by rw [rising_length]; omega
      have HSL1 := Lib.hid hsl1
      clear hs1 hsl1
      go_wp2_with fail
      refine (sign_all p F2 g (y) w3 hbk3 HS1.out).mono ?_
      intro e w4 h4
      obtain ⟨ad1, cap1', rfl, hi1, hBa, had1⟩ := h4.open
      have hpvx := hpv3.below hBa
      have hbkx := hbk3.below hBa
      have hqbx := blk_below hBa (blk_lt hqb3) hqb3
      have hBx : Below w.heap.size w w4 := hB3.trans (hBa.mono hB3.size)
      have cq1 : w4.cell? ⟨q, 0, none⟩ = some v3 := (cell_of_blk hqbx 0).trans rfl
      have CQ1 := Lib.hid cq1
      clear cq1 h4 hBa
      go_wp2_with fail
      refine (pairs_all q 0 v3 g (k + 1) (y) w4 CQ1.out hpvx (by omega)).mono ?_
      rintro e w5 ⟨be1, cbe1, rfl, hj1, hbe1, hBb⟩
      have hiy := hi1.below hBb
      have hpvy := hpvx.below hBb
      have hbky := hbkx.below hBb
      have hqby := blk_below hBb (blk_lt hqbx) hqbx
      have hBy : Below w.heap.size w w5 := hBx.trans (hBb.mono hBx.size)
      clear hpvx hbkx hqbx hBx hBb hi1 CQ1
      have hlr : (g (y)).length = (rising (g (y))).length := (rising_length _).symm
      have HLR := Lib.hid hlr
      have cs := sameints_any ad1 be1 (rising (g (y))) (rising (g (y))) cap1' cbe1 w5 hiy hj1 HSL1.out HSL1.out
      rw [← hlr] at cs
      have CS := Lib.hid cs
      clear cs hlr hiy hj1
      go_wp2_with fail
      refine CS.out.mono ?_
      rintro e w6 ⟨rfl, hcz⟩
      have hpv6 := hpvy.chg hcz (fun _ _ h => h)
      have hbk6 := hbky.chg hcz (fun _ _ h => h)
      have hqb6 := hcz.blk hqby id
      have hB6 : Below w.heap.size w w6 := hBy.trans (hcz.below hBy.size (fun _ h => h.elim))
      clear hpvy hbky hqby hBy hcz CS HLR
      have hs2 : (g (x)).length * 8 ≤ 140737488355328 := by have := hpv6.length (x); omega
      have HS2 := Lib.hid hs2
      have hsl2 : (rising (g (x))).length ≤ 9223372036854775807 := by rw [rising_length]; omega
      have HSL2 := Lib.hid hsl2
      clear hs2 hsl2
      go_wp2_with fail
      refine (sign_all p F2 g (x) w6 hbk6 HS2.out).mono ?_
      intro e w7 h4
      obtain ⟨ad2, cap2', rfl, hi2, hBa, had2⟩ := h4.open
      have hpvx := hpv6.below hBa
      have hbkx := hbk6.below hBa
      have hqbx := blk_below hBa (blk_lt hqb6) hqb6
      have hBx : Below w.heap.size w w7 := hB6.trans (hBa.mono hB6.size)
      have cq2 : w7.cell? ⟨q, 0, none⟩ = some v3 := (cell_of_blk hqbx 0).trans rfl
      have CQ2 := Lib.hid cq2
      clear cq2 h4 hBa
      go_wp2_with fail
      refine (pairs_all q 0 v3 g (k + 1) (x) w7 CQ2.out hpvx (by omega)).mono ?_
      rintro e w8 ⟨be2, cbe2, rfl, hj2, hbe2, hBb⟩
      have hiy := hi2.below hBb
      have hpvy := hpvx.below hBb
      have hbky := hbkx.below hBb
      have hqby := blk_below hBb (blk_lt hqbx) hqbx
      have hBy : Below w.heap.size w w8 := hBx.trans (hBb.mono hBx.size)
      clear hpvx hbkx hqbx hBx hBb hi2 CQ2
      have hlr : (g (x)).length = (rising (g (x))).length := (rising_length _).symm
      have HLR := Lib.hid hlr
      have cs := sameints_any ad2 be2 (rising (g (x))) (rising (g (x))) cap2' cbe2 w8 hiy hj2 HSL2.out HSL2.out
      rw [← hlr] at cs
      have CS := Lib.hid cs
      clear cs hlr hiy hj2
      go_wp2_with fail
      refine CS.out.mono ?_
      rintro e w9 ⟨rfl, hcz⟩
      have hpv9 := hpvy.chg hcz (fun _ _ h => h)
      have hbk9 := hbky.chg hcz (fun _ _ h => h)
      have hqb9 := hcz.blk hqby id
      have hB9 : Below w.heap.size w w9 := hBy.trans (hcz.below hBy.size (fun _ h => h.elim))
      clear hpvy hbky hqby hBy hcz CS HLR
      go_wp2_with fail
      go_roundw
      case rel => exact ⟨k + 1, F2, g, v3, by omega, by omega, by omega, by go_num, hbk9, hqb9, hpv9, hvq3, hFq2, hvF3, hF2, hwq, hB9⟩
      case measure => simp [intOf]; omega
    · have hd : decide (k < len0) = false ∨ (decide (k < len0) = true ∧ decide (k < len1) = false) ∨ (decide (k < len0) = true ∧ decide (k < len1) = true ∧ decide ((k : Int) < 40) = false) := by
        by_cases h : k < len0
        · by_cases h' : k < len1
          · right; right; simp [h, h']; omega
          · right; left; simp [h]; omega
        · left; simpa using h
      clear hlt
      rcases hd with hd | ⟨hd, hd1⟩ | ⟨hd, hd1, hd2⟩
      all_goals
        go_wp2_with fail
        refine (sign_awake _).mono ?_
        rintro e w3 ⟨rfl, hB3⟩
        go_wp2_with fail
        go_ret
        exact ⟨rfl, hB.trans (hB3.mono hB.size)⟩

set_option maxRecDepth 100000 in
set_option maxHeartbeats 4000000 in
theorem walk_true (a0 : Option Addr) (len0 cap0 : Nat) (z0 : List Int) (a1 : Option Addr) (len1 cap1 : Nat) (z1 : List Int) (w : World) (w0 : IsRow .i64 w a0 len0 cap0 z0) (w1 : IsRow .i64 w a1 len1 cap1 z1) :
    Calls Try.prog 12 #[.slice a0 len0 cap0, .slice a1 len1 cap1, .bool true] w fun e w' => e = .returned (.bool true) ∧ Below w.heap.size w w' := by
  have hlen := w0.len_le
  have hlen1 := w1.len_le
  have hm7 := i64_and7
  have hm3 := i64_and3
  have HR0 := Lib.hid w0
  have HR1 := Lib.hid w1
  clear w0 w1
  go_enter Try.func12, Try.ntmps12
  go_wp2_with fail
  refine (sign_new w).mono ?_
  rintro e ws ⟨p, F1, rfl, h1, hF1, hB1⟩
  go_wp2_with fail
  obtain ⟨q, hq⟩ : ∃ q, q = ws.heap.size := ⟨_, rfl⟩
  rw [← hq]
  have HQ := Lib.hid hq
  clear hq
  go_loopw [9] (fun i wr => ∃ (k : Nat) (F : Nat → Prop) (f : Int → List Int) (v : Value), k ≤ len0 ∧ k ≤ len1 ∧ k ≤ 40 ∧ i = .int .i64 k ∧ TR p q w wr F f v k) (fun i _ => 40 - (intOf i).toNat)
  case atStart =>
    have hq := HQ.out
    refine ⟨0, F1, fun _ => [], .slice none 0 0, by omega, by omega, by omega, rfl, h1.below ((Below.refl _ _).alloc (Nat.le_refl _) _), alloc_new ws _ q hq, PairsV.nil _, (by intro h; cases h), fun h => by have := h1.lt _ h; omega, (by intro b hb; cases hb), hF1, by rw [hq]; exact hB1.size, hB1.trans ((Below.refl _ _).alloc (by have := hB1.size; exact this) _)⟩
  case round =>
    obtain ⟨k, F, f, v, hk0, hk1, hk2, rfl, hbk, hqb, hpv, hvq, hFq, hvF, hF, hwq, hB⟩ := hrel
    clear h1 hF1 hB1
    by_cases hlt : k < len0 ∧ k < len1 ∧ k < 40
    · obtain ⟨hlt0, hlt1, hlt2⟩ := hlt
      obtain ⟨xb, xo, rfl, hlc, hxb, hcell⟩ := HR0.out.at_ (by omega)
      obtain ⟨yb, yo, rfl, hlc1, hyb, hcell1⟩ := HR1.out.at_ (by omega)
      have hc := (hB.cell (p := ⟨xb, xo + k, none⟩) hxb).trans (hcell k hlt0)
      have hc1 := (hB.cell (p := ⟨yb, yo + k, none⟩) hyb).trans (hcell1 k hlt1)
      have hx := HR0.out.wf_ k hlt0
      have hd0 : decide (k < len0) = true := by simpa using hlt0
      have hd1 : decide (k < len1) = true := by simpa using hlt1
      have hd2 : decide ((k : Int) < 40) = true := by simp; omega
      clear hcell hcell1
      generalize z0.getD k 0 = x at hc hx
      generalize z1.getD k 0 = y at hc1
      have hxw : (Lit.int .i64 (x % 8)).wf = true := WalkArith.wf_i64 (by omega)
      have HX := Lib.hid hxw
      clear hx hxw
      have hqd : ∀ n, (wr.drewN n).heap[q]? = some (.cells #[v] 70 (0, 0)) := fun n => hqb
      have HQB := Lib.hid hqb
      clear hqb
      go_wp2_with fail
      go_quiet (fail)
      have hqb := hqd nq
      have hbk0 : Book (wr.drewN nq) p F f := hbk
      have hpv0 : PairsV (wr.drewN nq) v f k := hpv
      have hB0 : Below w.heap.size w (wr.drewN nq) := below_drewn hB nq
      clear hqd hbk hpv hB hc hc1 HQB
      obtain ⟨wq, hwq'⟩ : ∃ wq, wq = wr.drewN nq := ⟨_, rfl⟩
      rw [← hwq'] at hqb hbk0 hpv0 hB0
      rw [← hwq']
      clear hwq'
      obtain ⟨bb, hbb⟩ : ∃ bb : Bool, decide (x % 8 ∈ f (y % 4)) = bb := ⟨_, rfl⟩
      have HBB := Lib.hid hbb
      clear hbb
      go_wp2_with fail
      refine ((sign_has p F f (x % 8) (y % 4) wq hbk0).mono fun e w' ⟨h1, h2⟩ => (⟨by rw [h1, HBB.out], h2⟩ : e = Ending.returned (.bool bb) ∧ wq = w')).mono ?_
      rintro e _ ⟨rfl, rfl⟩
      have cq : wq.cell? ⟨q, 0, none⟩ = some v := (cell_of_blk hqb 0).trans rfl
      have CQ := Lib.hid cq
      clear cq
      go_wp2_with fail
      refine ((pairs_has q 0 v f k (x % 8) (y % 4) wq CQ.out hpv0 (by omega)).mono fun e w' ⟨h1, h2⟩ => (⟨by rw [h1, HBB.out], h2⟩ : e = Ending.returned (.bool bb) ∧ wq = w')).mono ?_
      rintro e _ ⟨rfl, rfl⟩
      clear HBB CQ
      have hbne : (bb != bb) = false := by simp
      go_wp2_with fail
      refine (sign_sign p F f (x % 8) (y % 4) wq hbk0 HX.out).mono ?_
      rintro e w2 ⟨rfl, F2, hbk2, hn2, _, hc2⟩
      have hqb2 := hc2.blk hqb hFq
      have hpv2 := hpv0.chg hc2 (fun b hb => (hvF b hb).1)
      have hB2 := hB0.trans (hc2.below hB0.size hF)
      have hF2 : ∀ k, F2 k → w.heap.size ≤ k := fun k hk => by rcases hn2 k hk with h | h; exact hF k h; have := hB0.size; omega
      have hFq2 : ¬ F2 q := fun h => by rcases hn2 q h with h | h; exact hFq h; have := blk_lt hqb; omega
      have hvF2 : ∀ b, v.ownBlock = some b → ¬ F2 b ∧ w.heap.size ≤ b := fun b hb => ⟨fun h => by rcases hn2 b h with h | h; exact (hvF b hb).1 h; have := hpv0.lt hb; omega, (hvF b hb).2⟩
      clear hbk0 hpv0 hB0 hc2 hn2 hF hFq hvF hqb
      go_wp2_with fail
      refine (pairs_put q 0 v #[v] 70 f k (x % 8) (y % 4) w2 hqb2 rfl hpv2 hvq (by omega)).mono ?_
      rintro e w3 ⟨rfl, v3, hqb3, hpv3, hv3, hc3⟩
      have hqb3 : w3.heap[q]? = some (.cells #[v3] 70 (0, 0)) := hqb3
      have hbk3 := hbk2.chg hc3 (fun b hb e => by rcases e with rfl | e; exact hFq2 hb; exact (hvF2 b e).1 hb)
      have hB3 : Below w.heap.size w w3 := hB2.trans (hc3.below hB2.size (fun b e => by rcases e with rfl | e; exact hwq; exact (hvF2 b e).2))
      have hvq3 : v3.ownBlock ≠ some q := by
        rcases hv3 with h | ⟨z, h, hz⟩
        · rw [h]; exact hvq
        · rw [h]; intro e; cases e; have := blk_lt hqb2; omega
      have hvF3 : ∀ b, v3.ownBlock = some b → ¬ F2 b ∧ w.heap.size ≤ b := by
        intro b hb
        rcases hv3 with h | ⟨z, h, hz⟩
        · exact hvF2 b (h ▸ hb)
        · rw [h] at hb; cases hb
          exact ⟨fun hf => by have := hbk2.lt _ hf; omega, by have := hB2.size; omega⟩
      clear hbk2 hpv2 hB2 hc3 hvF2 hqb2 hv3 hvq
      obtain ⟨g, hg⟩ : ∃ g, g = addAt f (y % 4) (x % 8) := ⟨_, rfl⟩
      have hmem : x % 8 ∈ g (y % 4) := by rw [hg]; unfold addAt; rw [if_pos rfl]; exact mem_addTo.2 (.inr rfl)
      rw [← hg] at hbk3 hpv3
      clear hg
      have HM := Lib.hid hmem
      clear hmem
      go_wp2_with fail
      refine (sign_has_yes p F2 g (x % 8) (y % 4) w3 hbk3 HM.out).mono ?_
      rintro e _ ⟨rfl, rfl⟩
      clear HM
      obtain ⟨cc, hcc⟩ : ∃ cc : Bool, decide (y % 4 ∈ g (x % 8)) = cc := ⟨_, rfl⟩
      have HCC := Lib.hid hcc
      clear hcc
      go_wp2_with fail
      refine ((sign_has p F2 g (y % 4) (x % 8) w3 hbk3).mono fun e w' ⟨h1, h2⟩ => (⟨by rw [h1, HCC.out], h2⟩ : e = Ending.returned (.bool cc) ∧ w3 = w')).mono ?_
      rintro e _ ⟨rfl, rfl⟩
      have cq : w3.cell? ⟨q, 0, none⟩ = some v3 := (cell_of_blk hqb3 0).trans rfl
      have CQ := Lib.hid cq
      clear cq
      go_wp2_with fail
      refine ((pairs_has q 0 v3 g (k + 1) (y % 4) (x % 8) w3 CQ.out hpv3 (by omega)).mono fun e w' ⟨h1, h2⟩ => (⟨by rw [h1, HCC.out], h2⟩ : e = Ending.returned (.bool cc) ∧ w3 = w')).mono ?_
      rintro e _ ⟨rfl, rfl⟩
      clear HCC
      have hcne : (cc != cc) = false := by simp
      have hs1 : (g (y % 4)).length * 8 ≤ 140737488355328 := by have := hpv3.length (y % 4); omega
      have HS1 := Lib.hid hs1
      have hsl1 : (rising (g (y % 4))).length ≤ 9223372036854775807 := by rw [rising_length]; omega
      have HSL1 := Lib.hid hsl1
      clear hs1 hsl1
      go_wp2_with fail
      refine (sign_all p F2 g (y % 4) w3 hbk3 HS1.out).mono ?_
      intro e w4 h4
      obtain ⟨ad1, cap1', rfl, hi1, hBa, had1⟩ := h4.open
      have hpvx := hpv3.below hBa
      have hbkx := hbk3.below hBa
      have hqbx := blk_below hBa (blk_lt hqb3) hqb3
      have hBx : Below w.heap.size w w4 := hB3.trans (hBa.mono hB3.size)
      have cq1 : w4.cell? ⟨q, 0, none⟩ = some v3 := (cell_of_blk hqbx 0).trans rfl
      have CQ1 := Lib.hid cq1
      clear cq1 h4 hBa
      go_wp2_with fail
      refine (pairs_all q 0 v3 g (k + 1) (y % 4) w4 CQ1.out hpvx (by omega)).mono ?_
      rintro e w5 ⟨be1, cbe1, rfl, hj1, hbe1, hBb⟩
      have hiy := hi1.below hBb
      have hpvy := hpvx.below hBb
      have hbky := hbkx.below hBb
      have hqby := blk_below hBb (blk_lt hqbx) hqbx
      have hBy : Below w.heap.size w w5 := hBx.trans (hBb.mono hBx.size)
      clear hpvx hbkx hqbx hBx hBb hi1 CQ1
      have hlr : (g (y % 4)).length = (rising (g (y % 4))).length := (rising_length _).symm
      have HLR := Lib.hid hlr
      have cs := sameints_any ad1 be1 (rising (g (y % 4))) (rising (g (y % 4))) cap1' cbe1 w5 hiy hj1 HSL1.out HSL1.out
      rw [← hlr] at cs
      have CS := Lib.hid cs
      clear cs hlr hiy hj1
      go_wp2_with fail
      refine CS.out.mono ?_
      rintro e w6 ⟨rfl, hcz⟩
      have hpv6 := hpvy.chg hcz (fun _ _ h => h)
      have hbk6 := hbky.chg hcz (fun _ _ h => h)
      have hqb6 := hcz.blk hqby id
      have hB6 : Below w.heap.size w w6 := hBy.trans (hcz.below hBy.size (fun _ h => h.elim))
      clear hpvy hbky hqby hBy hcz CS HLR
      have hs2 : (g (x % 8)).length * 8 ≤ 140737488355328 := by have := hpv6.length (x % 8); omega
      have HS2 := Lib.hid hs2
      have hsl2 : (rising (g (x % 8))).length ≤ 9223372036854775807 := by rw [rising_length]; omega
      have HSL2 := Lib.hid hsl2
      clear hs2 hsl2
      go_wp2_with fail
      refine (sign_all p F2 g (x % 8) w6 hbk6 HS2.out).mono ?_
      intro e w7 h4
      obtain ⟨ad2, cap2', rfl, hi2, hBa, had2⟩ := h4.open
      have hpvx := hpv6.below hBa
      have hbkx := hbk6.below hBa
      have hqbx := blk_below hBa (blk_lt hqb6) hqb6
      have hBx : Below w.heap.size w w7 := hB6.trans (hBa.mono hB6.size)
      have cq2 : w7.cell? ⟨q, 0, none⟩ = some v3 := (cell_of_blk hqbx 0).trans rfl
      have CQ2 := Lib.hid cq2
      clear cq2 h4 hBa
      go_wp2_with fail
      refine (pairs_all q 0 v3 g (k + 1) (x % 8) w7 CQ2.out hpvx (by omega)).mono ?_
      rintro e w8 ⟨be2, cbe2, rfl, hj2, hbe2, hBb⟩
      have hiy := hi2.below hBb
      have hpvy := hpvx.below hBb
      have hbky := hbkx.below hBb
      have hqby := blk_below hBb (blk_lt hqbx) hqbx
      have hBy : Below w.heap.size w w8 := hBx.trans (hBb.mono hBx.size)
      clear hpvx hbkx hqbx hBx hBb hi2 CQ2
      have hlr : (g (x % 8)).length = (rising (g (x % 8))).length := (rising_length _).symm
      have HLR := Lib.hid hlr
      have cs := sameints_any ad2 be2 (rising (g (x % 8))) (rising (g (x % 8))) cap2' cbe2 w8 hiy hj2 HSL2.out HSL2.out
      rw [← hlr] at cs
      have CS := Lib.hid cs
      clear cs hlr hiy hj2
      go_wp2_with fail
      refine CS.out.mono ?_
      rintro e w9 ⟨rfl, hcz⟩
      have hpv9 := hpvy.chg hcz (fun _ _ h => h)
      have hbk9 := hbky.chg hcz (fun _ _ h => h)
      have hqb9 := hcz.blk hqby id
      have hB9 : Below w.heap.size w w9 := hBy.trans (hcz.below hBy.size (fun _ h => h.elim))
      clear hpvy hbky hqby hBy hcz CS HLR
      go_wp2_with fail
      go_roundw
      case rel => exact ⟨k + 1, F2, g, v3, by omega, by omega, by omega, by go_num, hbk9, hqb9, hpv9, hvq3, hFq2, hvF3, hF2, hwq, hB9⟩
      case measure => simp [intOf]; omega
    · have hd : decide (k < len0) = false ∨ (decide (k < len0) = true ∧ decide (k < len1) = false) ∨ (decide (k < len0) = true ∧ decide (k < len1) = true ∧ decide ((k : Int) < 40) = false) := by
        by_cases h : k < len0
        · by_cases h' : k < len1
          · right; right; simp [h, h']; omega
          · right; left; simp [h]; omega
        · left; simpa using h
      clear hlt
      rcases hd with hd | ⟨hd, hd1⟩ | ⟨hd, hd1, hd2⟩
      all_goals
        go_wp2_with fail
        refine (sign_awake _).mono ?_
        rintro e w3 ⟨rfl, hB3⟩
        go_wp2_with fail
        go_ret
        exact ⟨rfl, hB.trans (hB3.mono hB.size)⟩

theorem walk (a0 : Option Addr) (len0 cap0 : Nat) (z0 : List Int) (a1 : Option Addr) (len1 cap1 : Nat) (z1 : List Int) (few : Bool) (w : World) (w0 : IsRow .i64 w a0 len0 cap0 z0) (w1 : IsRow .i64 w a1 len1 cap1 z1) :
    Calls Try.prog 12 #[.slice a0 len0 cap0, .slice a1 len1 cap1, .bool few] w fun e w' => e = .returned (.bool true) ∧ Below w.heap.size w w' := by
  cases few
  · exact walk_false a0 len0 cap0 z0 a1 len1 cap1 z1 w w0 w1
  · exact walk_true a0 len0 cap0 z0 a1 len1 cap1 z1 w w0 w1

/-! ### the row's step -/
open Go.ChangeShapes Go.WideShapes Go.ChangeAt
set_option linter.unusedVariables false
theorem own : ownKnob Try.prog.godebug = none := by kernel_rfl
theorem laidOut : laidOutB Try.prog = true := by kernel_rfl
set_option maxRecDepth 100000 in
theorem lifted (os : Os) (started : os.Started) (H : Type) (enc : TypeId × Value → H) :
    ReturnsInHanded {} Try.checked os 12 .any (Rows.signTellsSpec.pre6 enc Try.prog Try.f12 Rows.signTellsRow.domain false) (Rows.signTellsSpec.post enc Try.prog Try.f12 false true false false) := by
  refine returnsInHanded_of_change (C := Try.checked) own started (by kernel_rfl) Try.func12
    (ChangeSpec.witness6 (enc := enc) (C := Try.checked) false ⟨#[], #[.slice none 0 0, .slice none 0 0, .bool false], []⟩ 8 (by kernel_rfl) (by kernel_rfl) (by kernel_rfl) (by kernel_rfl)) ?_
  intro W base args ds gs before hval0 hW hcnd _
  have hval : ∀ (j : Nat) t v, Try.f12.params[j]? = some t → args[j]? = some v → Value.okWide Try.prog W .any base t v := hval0
  have hW' := hW
  obtain ⟨p, q, hA0, hV, rfl, hfz, hnd⟩ := hW
  have hA : DataW.TrodAll enc Try.prog W 0 (fun _ => true) true Try.f12.params.toList args.toList ds p := hA0
  rw [Try.params12] at hA hval
  obtain ⟨v0, vs0, d0, ds0, p0, q0, hargs, rfl, rfl, h0, r0⟩ := trodAll_cons hA
  obtain ⟨v1, vs1, d1, ds1, p1, q1, rfl, rfl, rfl, h1, r1⟩ := trodAll_cons r0
  obtain ⟨v2, vs2, d2, ds2, p2, q2, rfl, rfl, rfl, h2, r2⟩ := trodAll_cons r1
  obtain ⟨rfl, rfl, rfl⟩ := trodAll_nil r2
  obtain rfl : args = #[v0, v1, v2] := by cases args; simp_all
  obtain ⟨rfl, rfl⟩ := trodVars_none hV
  obtain ⟨a0, len0, cap0, rfl⟩ := okWide_slice Try.underlying37 (hval 0 37 v0 rfl rfl)
  have k0 := h0
  have lt0 : ∀ x ∈ p0, x.block < W.heap.size := by obtain ⟨m, hm⟩ := k0; exact DataW.trod_lt m _ _ _ hm
  obtain ⟨z0, w0⟩ : ∃ zs, IsRow .i64 W a0 len0 cap0 zs := by
    obtain ⟨fuel, hf⟩ := h0
    rcases open_ints Try.underlying37 Try.underlying3 (by kernel_rfl) hf with ⟨hcs, _⟩ | ⟨x, l, c, zs, hcs, _, hl, hm, hz, _, hcell, hwz⟩
    · simp [Value.cells] at hcs
      obtain ⟨rfl, rfl, rfl⟩ := hcs
      exact ⟨[], .inl ⟨rfl, rfl, rfl, rfl⟩⟩
    · simp [Value.cells] at hcs
      obtain ⟨rfl, rfl, rfl⟩ := hcs
      exact ⟨zs, .inr ⟨_, rfl, hl, hm, by simpa using hz, hcell, hwz⟩⟩
  obtain ⟨a1, len1, cap1, rfl⟩ := okWide_slice Try.underlying37 (hval 1 37 v1 rfl rfl)
  have k1 := h1
  have lt1 : ∀ x ∈ p1, x.block < W.heap.size := by obtain ⟨m, hm⟩ := k1; exact DataW.trod_lt m _ _ _ hm
  obtain ⟨z1, w1⟩ : ∃ zs, IsRow .i64 W a1 len1 cap1 zs := by
    obtain ⟨fuel, hf⟩ := h1
    rcases open_ints Try.underlying37 Try.underlying3 (by kernel_rfl) hf with ⟨hcs, _⟩ | ⟨x, l, c, zs, hcs, _, hl, hm, hz, _, hcell, hwz⟩
    · simp [Value.cells] at hcs
      obtain ⟨rfl, rfl, rfl⟩ := hcs
      exact ⟨[], .inl ⟨rfl, rfl, rfl, rfl⟩⟩
    · simp [Value.cells] at hcs
      obtain ⟨rfl, rfl, rfl⟩ := hcs
      exact ⟨zs, .inr ⟨_, rfl, hl, hm, by simpa using hz, hcell, hwz⟩⟩
  obtain ⟨a2, rfl, rfl, rfl⟩ := open_bool Try.underlying4 (hval 2 4 v2 rfl rfl) h2
  clear hA0 hval0
  refine (walk a0 len0 cap0 z0 a1 len1 cap1 z1 a2 W w0 w1).mono fun e W' ⟨he, bel⟩ => ?_
  subst he
  exact ⟨_, rfl, _, _, _, [], _, [], hW', trodAll_mk1 (shut_bool Try.underlying4 _), (trodAll_cons_mk (Below.trod laidOut (by kernel_rfl) (of_decide_eq_true (by kernel_rfl)) k0 bel lt0) (trodAll_cons_mk (Below.trod laidOut (by kernel_rfl) (of_decide_eq_true (by kernel_rfl)) k1 bel lt1) (trodAll_cons_mk (shut_bool Try.underlying4 _) trodAll_mk0))), rfl, bel.frame _, fun h => by cases h⟩

theorem over : Rows.signTellsRow.holds Try.pinned (OpenSpec.ofChange Rows.signTellsSpec) :=
  OpenClaim.holds_of_wide 12 Try.f12 rfl rfl rfl rfl rfl rfl rfl ⟨rfl, rfl, rfl, rfl, rfl⟩ rfl rfl rfl rfl rfl (by kernel_rfl) Try.func12 (by kernel_rfl)
    (of_decide_eq_true (by kernel_rfl)) (by unfold Func.isWrapper; first | (rw [if_pos (by decide +kernel)]; kernel_rfl) | (rw [if_neg (by decide +kernel)]; exact ⟨rfl, rfl⟩))
    (fun os started H enc _ => lifted os started H enc)

theorem proved : Rows.SignTellsSaid := over
#print axioms proved
end Go.Proofs.Ytjllejlgclfahaa.signTells
