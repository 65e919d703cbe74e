/-
  The walks of package pace: New, View, Long, Enter, Tick; and the statements' own 'awake'.
-/
import Derived.Test.YtjllejlgclfahaaBase
namespace Go.Proofs.Ytjllejlgclfahaa
open Go.RowKit

/-- Block b is a clock of these six numbers. -/
def PaceAt (w : World) (b : Nat) (base most view long clock ticks : Int) : Prop :=
  w.heap[b]? = some (.cells #[.int .i64 base, .int .i64 most, .int .i64 view, .int .i64 long, .int .i64 clock, .int .i64 ticks] 93 (0, 0))
theorem PaceAt.drew {w : World} {b : Nat} {base most view long clock ticks : Int} (h : PaceAt w b base most view long clock ticks) : PaceAt w.drew b base most view long clock ticks := h

set_option maxHeartbeats 400000 in
theorem pace_long (b : Nat) (base most view long clock ticks : Int) (w : World) (h : PaceAt w b base most view long clock ticks) :
    Calls Try.prog 20 #[.pointer (some ⟨b, 0, none⟩)] w fun e w' => e = .returned (.int .i64 long) ∧ w = w' := by
  have c3 := cell_of_blk h 3
  simp at c3
  clear h
  go_enter Try.func20, Try.ntmps20
  go_wp2
  go_ret
  exact ⟨rfl, rfl⟩

set_option maxHeartbeats 400000 in
theorem pace_view (b : Nat) (base most view long clock ticks : Int) (w : World) (h : PaceAt w b base most view long clock ticks) :
    Calls Try.prog 21 #[.pointer (some ⟨b, 0, none⟩)] w fun e w' => e = .returned (.int .i64 view) ∧ w = w' := by
  have c3 := cell_of_blk h 2
  simp at c3
  clear h
  go_enter Try.func21, Try.ntmps21
  go_wp2
  go_ret
  exact ⟨rfl, rfl⟩

/-- What New makes of a Config's two numbers. -/
def pBase (base : Int) : Int := min (max base 1) 1000
def pMost (base most : Int) : Int := min (max most (pBase base)) 1000

def PaceNew (base most : Int) (w : World) (e : Ending) (w' : World) : Prop :=
  ∃ b, e = .returned (.pointer (some ⟨b, 0, none⟩)) ∧ w.heap.size ≤ b ∧ Below w.heap.size w w' ∧ PaceAt w' b (pBase base) (pMost base most) 1 (pBase base) 0 0

set_option maxHeartbeats 400000 in
theorem pace_new (c0 c1 c2 base most c5 c6 c7 : Int) (w : World) :
    Calls Try.prog 18 #[.agg #[.int .i64 c0, .int .i64 c1, .int .i64 c2, .int .i64 base, .int .i64 most, .int .i64 c5, .int .i64 c6, .int .i64 c7]] w (PaceNew base most w) := by
  go_enter Try.func18, Try.ntmps18
  go_wp2
  all_goals
    go_ret
    refine ⟨_, rfl, ?_, ?_, ?_⟩
    · simp
    · exact ((Below.refl _ _).alloc (by simp) _).alloc (by simp) _
    · refine (alloc_new _ _ _ (by simp)).trans ?_
      unfold pMost pBase
      congr 8 <;> omega

set_option maxHeartbeats 400000 in
theorem pace_enter_no (b : Nat) (base most view long clock ticks v : Int) (s : Bool) (w : World) (h : PaceAt w b base most view long clock ticks) (hv : v ≤ view) :
    Calls Try.prog 19 #[.pointer (some ⟨b, 0, none⟩), .int .i64 v, .bool s] w fun e w' => e = .returned (.bool false) ∧ w = w' := by
  have c2 := cell_of_blk h 2
  simp at c2
  clear h
  go_enter Try.func19, Try.ntmps19
  go_wp2
  go_ret
  exact ⟨rfl, rfl⟩

set_option maxHeartbeats 400000 in
theorem pace_enter_fast (b : Nat) (base most view long clock ticks v : Int) (w : World) (h : PaceAt w b base most view long clock ticks) (hv : view < v) :
    Calls Try.prog 19 #[.pointer (some ⟨b, 0, none⟩), .int .i64 v, .bool false] w fun e w' => e = .returned (.bool true) ∧ PaceAt w' b base most v base 0 ticks ∧ Chg (· = b) w w' := by
  have c0 := cell_of_blk h 0
  have c2 := cell_of_blk h 2
  have c3 := cell_of_blk h 3
  have c4 := cell_of_blk h 4
  have f2 := frozen_of_blk h 2
  have f3 := frozen_of_blk h 3
  have f4 := frozen_of_blk h 4
  simp at c0 c2 c3 c4
  have H := Lib.hid h
  clear h
  go_enter Try.func19, Try.ntmps19
  go_wp2
  go_ret
  refine ⟨rfl, ?_, ?_⟩
  · exact (setCell_same _ (setCell_same _ (setCell_same _ H.out))).trans rfl
  · exact (((Chg.refl _ _).put _ _).put _ _).put _ _

set_option maxHeartbeats 400000 in
theorem pace_enter_slow (b : Nat) (base most view long clock ticks v : Int) (w : World) (h : PaceAt w b base most view long clock ticks) (hv : view < v) (h0 : 0 ≤ long) (h1 : long ≤ 1000) :
    Calls Try.prog 19 #[.pointer (some ⟨b, 0, none⟩), .int .i64 v, .bool true] w fun e w' => e = .returned (.bool true) ∧ PaceAt w' b base most v (min (2 * long) most) 0 ticks ∧ Chg (· = b) w w' := by
  have c1 := cell_of_blk h 1
  have c2 := cell_of_blk h 2
  have c3 := cell_of_blk h 3
  have c4 := cell_of_blk h 4
  have f2 := frozen_of_blk h 2
  have f3 := frozen_of_blk h 3
  have f4 := frozen_of_blk h 4
  simp at c1 c2 c3 c4
  have H := Lib.hid h
  clear h
  go_enter Try.func19, Try.ntmps19
  go_wp2
  go_region
  all_goals go_wp2
  all_goals go_ret
  all_goals
    refine ⟨rfl, ?_, ?_⟩
    · refine (setCell_same (w := World.setCell _ _ _) _ (setCell_same _ (setCell_same _ H.out))).trans ?_
      first | rw [show min (2 * long) most = most from by omega]; rfl | rw [show min (2 * long) most = 2 * long from by omega]; rfl
    · exact ((((Chg.refl _ _).put _ _).put _ _).put _ _).drew

/-- A tick, by what it comes to. -/
def PaceTicked (b : Nat) (base most view long clock ticks : Int) (w : World) (e : Ending) (w' : World) : Prop :=
  e = .returned (.tuple #[.bool (clock + 1 == long), .bool ((ticks + 1) % base == 0)]) ∧
    PaceAt w' b base most view long (if clock + 1 = long then 0 else clock + 1) ((ticks + 1) % base) ∧ Chg (· = b) w w'

set_option maxHeartbeats 1000000 in
theorem pace_tick (b : Nat) (base most view long clock ticks : Int) (w : World) (h : PaceAt w b base most view long clock ticks) (hb0 : 1 ≤ base) (hb1 : base ≤ 1000) (hc0 : 0 ≤ clock) (hc1 : clock ≤ 100000) (ht0 : 0 ≤ ticks) (ht1 : ticks ≤ 1000) :
    Calls Try.prog 23 #[.pointer (some ⟨b, 0, none⟩)] w (PaceTicked b base most view long clock ticks w) := by
  have c0 := cell_of_blk h 0
  have c3 := cell_of_blk h 3
  have c4 := cell_of_blk h 4
  have c5 := cell_of_blk h 5
  have f4 := frozen_of_blk h 4
  have f5 := frozen_of_blk h 5
  simp at c0 c3 c4 c5
  have H := Lib.hid h
  clear h
  have hbn : (base == 0) = false := by simp; omega
  by_cases hl : clock + 1 = long
  · have hl1 : (clock + 1 == long) = true := by simpa using hl
    have HL := Lib.hid hl
    clear hl
    go_enter Try.func23, Try.ntmps23
    go_wp2
    go_region
    go_wp2
    go_quiet (fail)
    go_wp2
    go_quiet (fail)
    go_wp2
    go_ret2
    refine ⟨by rw [hl1]; rfl, ?_, ?_⟩
    · rw [if_pos HL.out]
      exact (setCell_same (w := World.drewN (World.setCell _ _ _) _) _ (setCell_same _ (setCell_same _ H.out))).trans rfl
    · exact (((((Chg.refl _ _).put _ _).put _ _).drewN _).put _ _).drewN _
  · have hl1 : (clock + 1 == long) = false := by simpa using hl
    have HL := Lib.hid hl
    clear hl
    go_enter Try.func23, Try.ntmps23
    go_wp2
    go_region
    go_wp2
    go_quiet (fail)
    go_wp2
    go_quiet (fail)
    go_wp2
    go_ret2
    refine ⟨by rw [hl1]; rfl, ?_, ?_⟩
    · rw [if_neg HL.out]
      exact (setCell_same _ (setCell_same _ H.out)).trans rfl
    · repeat (first | exact Chg.refl _ _ | apply Chg.drewN | apply Chg.drew | apply Chg.put)

set_option maxHeartbeats 1000000 in
theorem pace_awake (w : World) : Calls Try.prog 22 #[] w fun e w' => e = .returned (.bool true) ∧ Below w.heap.size w w' := by
  go_enter Try.func22, Try.ntmps22
  go_wp2_with fail
  refine (pace_new 0 0 0 2 5 0 0 0 _).mono ?_
  rintro e w1 ⟨b, rfl, hb, hB1, h1⟩
  go_wp2_with fail
  refine (pace_tick b 2 5 1 2 0 0 w1 h1 (by omega) (by omega) (by omega) (by omega) (by omega) (by omega)).mono ?_
  rintro e w2 ⟨rfl, h2, hc2⟩
  have h2 : PaceAt w2 b 2 5 1 2 1 1 := h2
  go_wp2_with fail
  refine (pace_tick b 2 5 1 2 1 1 w2 h2 (by omega) (by omega) (by omega) (by omega) (by omega) (by omega)).mono ?_
  rintro e w3 ⟨rfl, h3, hc3⟩
  have h3 : PaceAt w3 b 2 5 1 2 0 0 := h3
  go_wp2_with fail
  refine (pace_enter_slow b 2 5 1 2 0 0 4 w3 h3 (by omega) (by omega) (by omega)).mono ?_
  rintro e w4 ⟨rfl, h4, hc4⟩
  have h4 : PaceAt w4 b 2 5 4 4 0 0 := h4
  go_wp2_with fail
  refine (pace_long b 2 5 4 4 0 0 w4 h4).mono ?_
  rintro e _ ⟨rfl, rfl⟩
  go_wp2_with fail
  refine (pace_enter_slow b 2 5 4 4 0 0 5 w4 h4 (by omega) (by omega) (by omega)).mono ?_
  rintro e w5 ⟨rfl, h5, hc5⟩
  have h5 : PaceAt w5 b 2 5 5 5 0 0 := h5
  go_wp2_with fail
  refine (pace_long b 2 5 5 5 0 0 w5 h5).mono ?_
  rintro e _ ⟨rfl, rfl⟩
  go_wp2_with fail
  refine (pace_enter_no b 2 5 5 5 0 0 5 false w5 h5 (by omega)).mono ?_
  rintro e _ ⟨rfl, rfl⟩
  go_wp2_with fail
  refine (pace_enter_fast b 2 5 5 5 0 0 6 w5 h5 (by omega)).mono ?_
  rintro e w6 ⟨rfl, h6, hc6⟩
  go_wp2_with fail
  refine (pace_long b 2 5 6 2 0 0 w6 h6).mono ?_
  rintro e _ ⟨rfl, rfl⟩
  go_wp2_with fail
  refine (pace_view b 2 5 6 2 0 0 w6 h6).mono ?_
  rintro e _ ⟨rfl, rfl⟩
  go_wp2_with fail
  go_ret
  refine ⟨rfl, ?_⟩
  have hs1 := hB1.size
  have hs2 := hc2.size
  have hs3 := hc3.size
  have hs4 := hc4.size
  have hs5 := hc5.size
  exact hB1.trans ((hc2.below1 hs1 hb).trans ((hc3.below1 (by omega) hb).trans ((hc4.below1 (by omega) hb).trans ((hc5.below1 (by omega) hb).trans (hc6.below1 (by omega) hb)))))
end Go.Proofs.Ytjllejlgclfahaa
