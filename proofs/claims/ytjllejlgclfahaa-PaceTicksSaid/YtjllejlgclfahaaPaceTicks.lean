/-
  PaceTicks: as long as no view is entered the clock tells to give up at each Long-th tick and beats at each Base-th; entering begins the one anew, not the other. No condition.
-/
import Derived.Test.YtjllejlgclfahaaPace
import Derived.ProofKit
import Derived.OpenShut
import Derived.ChangeOld
namespace Go.Proofs.Ytjllejlgclfahaa.paceTicks
open Go.RowKit

/-! ### the plain law -/
theorem succ_mod (s L : Int) (hL : 0 < L) : (s + 1) % L = if s % L + 1 = L then 0 else s % L + 1 := by
  have h0 := Int.emod_nonneg s (show L ≠ 0 by omega)
  have h1 := Int.emod_lt_of_pos s hL
  have e : (s + 1) % L = (s % L + 1) % L := by rw [Int.emod_add_emod]
  rw [e]
  split
  · rename_i h; rw [h, Int.emod_self]
  · rename_i h; exact Int.emod_eq_of_lt (by omega) (by omega)
theorem out_iff (s L : Int) (hL : 0 < L) : (s % L + 1 == L) = ((s + 1) % L == 0) := by
  have h0 := Int.emod_nonneg s (show L ≠ 0 by omega)
  rw [succ_mod s L hL]
  split
  · rename_i h; simp [h]
  · rename_i h
    rw [Bool.eq_iff_iff]; simp [h]; omega
theorem succ_div (s L : Int) (hL : 0 < L) : (s + 1) / L = s / L + if (s + 1) % L = 0 then 1 else 0 := by
  have h0 := Int.emod_nonneg s (show L ≠ 0 by omega)
  have h1 := Int.emod_lt_of_pos s hL
  have e0 := Int.mul_ediv_add_emod s L
  have e1 := Int.mul_ediv_add_emod (s + 1) L
  have e2 := succ_mod s L hL
  generalize (s + 1) / L = q1 at *
  generalize s / L = q0 at *
  generalize (s + 1) % L = r1 at *
  generalize s % L = r0 at *
  split at e2
  · rename_i h
    subst e2
    rw [if_pos rfl]
    have : L * q1 = L * (q0 + 1) := by rw [Int.mul_add]; omega
    exact Int.eq_of_mul_eq_mul_left (by omega) this
  · rename_i h
    rw [if_neg (by omega)]
    have : L * q1 = L * q0 := by omega
    have := Int.eq_of_mul_eq_mul_left (by omega) this
    omega
theorem div_le (a b L : Int) (hL : 0 < L) (hb : 0 ≤ b) : a / L + b / (2 * L) ≤ (a + b) / L := by
  have h1 : b / (2 * L) ≤ b / L := by
    rw [Int.mul_comm, ← Int.ediv_ediv_of_nonneg (by omega)]
    have : 0 ≤ b / L := Int.ediv_nonneg hb (by omega)
    omega
  have h2 : a / L + b / L ≤ (a + b) / L := by
    rw [Int.le_ediv_iff_mul_le hL, Int.add_mul]
    have := Int.ediv_mul_le a (show L ≠ 0 by omega)
    have := Int.ediv_mul_le b (show L ≠ 0 by omega)
    omega
  omega

/-- Behind k ticks (a: when a view is entered). -/
def TRel (base a : Int) (k : Nat) (view long s o bt clock ticks : Int) : Prop :=
  bt = k / base ∧ ticks = k % base ∧ clock = s % long ∧
    ((1 ≤ a ∧ a ≤ k ∧ view = 9 ∧ long = 2 * base ∧ s = k + 1 - a ∧ o = (a - 1) / base + s / long) ∨ (¬ (1 ≤ a ∧ a ≤ k) ∧ view = 1 ∧ long = base ∧ s = k ∧ o = s / long))
/-- Ahead of tick k + 1, the view entered if it is its turn. -/
def MRel (base a : Int) (k : Nat) (view long s o bt clock ticks : Int) : Prop :=
  bt = k / base ∧ ticks = k % base ∧ clock = s % long ∧
    ((1 ≤ a ∧ a ≤ k + 1 ∧ view = 9 ∧ long = 2 * base ∧ s = k + 1 - a ∧ o = (a - 1) / base + s / long) ∨ (¬ (1 ≤ a ∧ a ≤ k + 1) ∧ view = 1 ∧ long = base ∧ s = k ∧ o = s / long))
theorem trel_zero (base a : Int) : TRel base a 0 1 base 0 0 0 0 0 := by
  refine ⟨by simp, by simp, by simp, .inr ⟨by omega, rfl, rfl, rfl, by simp⟩⟩
theorem trel_stays {base a : Int} {k : Nat} {view long s o bt clock ticks : Int} (h : TRel base a k view long s o bt clock ticks) (hne : ((k : Int) + 1) ≠ a) : MRel base a k view long s o bt clock ticks := by
  obtain ⟨h1, h2, h3, h4⟩ := h
  refine ⟨h1, h2, h3, ?_⟩
  rcases h4 with ⟨x1, x2, x3⟩ | ⟨x1, x3⟩
  · exact .inl ⟨x1, by omega, x3⟩
  · exact .inr ⟨by omega, x3⟩
theorem trel_turns {base a : Int} {k : Nat} {view long s o bt clock ticks : Int} (h : TRel base a k view long s o bt clock ticks) (he : ((k : Int) + 1) = a) : view = 1 ∧ base = long ∧ MRel base a k 9 (2 * base) 0 o bt 0 ticks := by
  obtain ⟨h1, h2, h3, h4⟩ := h
  rcases h4 with ⟨x1, x2, x3⟩ | ⟨x1, x2, x3, x4, x5⟩
  · omega
  · refine ⟨x2, x3.symm, h1, h2, by simp, .inl ⟨by omega, by omega, rfl, rfl, by omega, ?_⟩⟩
    rw [x5, x4, x3, ← he]; simp
theorem mrel_ticks {base a : Int} (hb : 1 ≤ base) {k : Nat} {view long s o bt clock ticks : Int} (h : MRel base a k view long s o bt clock ticks) :
    TRel base a (k + 1) view long (s + 1) (o + if (s + 1) % long = 0 then 1 else 0) (bt + if ((k : Int) + 1) % base = 0 then 1 else 0) (if clock + 1 = long then 0 else clock + 1) ((ticks + 1) % base) := by
  obtain ⟨h1, h2, h3, h4⟩ := h
  have hL : 0 < long := by rcases h4 with ⟨_, _, _, h, _⟩ | ⟨_, _, h, _⟩ <;> omega
  refine ⟨?_, ?_, ?_, ?_⟩
  · rw [h1, ← succ_div _ _ (by omega)]; rfl
  · rw [h2, Int.emod_add_emod]; rfl
  · rw [succ_mod s long hL, h3]
  · rcases h4 with ⟨x1, x2, x3, x4, x5, x6⟩ | ⟨x1, x2, x3, x4, x5⟩
    · exact .inl ⟨x1, by omega, x3, x4, by omega, by rw [x6, succ_div _ _ hL]; omega⟩
    · exact .inr ⟨by omega, x2, x3, by omega, by rw [x5, succ_div _ _ hL]⟩
theorem mrel_bounds {base a : Int} (hb : 1 ≤ base) (hb1 : base ≤ 16) {k : Nat} {view long s o bt clock ticks : Int} (h : MRel base a k view long s o bt clock ticks) :
    0 ≤ clock ∧ clock ≤ 100 ∧ 0 ≤ ticks ∧ ticks ≤ 100 ∧ 0 ≤ s ∧ s ≤ k ∧ 1 ≤ long ∧ long ≤ 32 ∧ 0 ≤ o ∧ o ≤ k ∧ 0 ≤ bt ∧ bt ≤ k ∧ (clock + 1 == long) = ((s + 1) % long == 0) ∧ ((ticks + 1) % base == 0) = (((k : Int) + 1) % base == 0) := by
  obtain ⟨h1, h2, h3, h4⟩ := h
  have hL : 0 < long ∧ long ≤ 32 := by rcases h4 with ⟨_, _, _, h, _⟩ | ⟨_, _, h, _⟩ <;> omega
  have c0 := Int.emod_nonneg s (show long ≠ 0 by omega)
  have c1 := Int.emod_lt_of_pos s hL.1
  have t0 := Int.emod_nonneg (k : Int) (show base ≠ 0 by omega)
  have t1 := Int.emod_lt_of_pos (k : Int) (show 0 < base by omega)
  have b0 : 0 ≤ (k : Int) / base := Int.ediv_nonneg (by omega) (by omega)
  have b1 : (k : Int) / base ≤ k := Int.ediv_le_self _ (by omega)
  have hs : 0 ≤ s ∧ s ≤ k := by rcases h4 with ⟨_, _, _, _, h, _⟩ | ⟨_, _, _, h, _⟩ <;> omega
  have hs1 : 0 ≤ s / long := Int.ediv_nonneg hs.1 (by omega)
  have hs2 : s / long ≤ s := Int.ediv_le_self _ hs.1
  have ho : 0 ≤ o ∧ o ≤ k := by
    rcases h4 with ⟨y1, y2, _, _, y3, h⟩ | ⟨_, _, _, _, h⟩
    · have z0 : 0 ≤ (a - 1) / base := Int.ediv_nonneg (by omega) (by omega)
      have z1 : (a - 1) / base ≤ a - 1 := Int.ediv_le_self _ (by omega)
      omega
    · omega
  refine ⟨by omega, by omega, by omega, by omega, hs.1, hs.2, by omega, by omega, ho.1, ho.2, by omega, by omega, ?_, ?_⟩
  · rw [h3]; exact out_iff s long hL.1
  · rw [h2, Int.emod_add_emod]
theorem trel_end {base a : Int} (hb : 1 ≤ base) {k : Nat} {view long s o bt clock ticks : Int} (h : TRel base a k view long s o bt clock ticks) : bt = k / base ∧ o ≤ bt := by
  obtain ⟨h1, h2, h3, h4⟩ := h
  refine ⟨h1, ?_⟩
  rcases h4 with ⟨x1, x2, x3, x4, x5, x6⟩ | ⟨x1, x2, x3, x4, x5⟩
  · have := div_le (a - 1) (k + 1 - a) base (by omega) (by omega)
    rw [x6, x5, x4, h1]
    rw [show a - 1 + ((k : Int) + 1 - a) = k by omega] at this
    exact this
  · rw [x5, h1, x4, x3]; omega

/-! ### the walk -/
set_option maxRecDepth 100000 in
set_option maxHeartbeats 8000000 in
theorem walk (a0 : Int) (_ : (Lit.int .i64 a0).wf = true) (a1 : Int) (_ : (Lit.int .i64 a1).wf = true) (a2 : Int) (_ : (Lit.int .i64 a2).wf = true) (w : World) :
    Calls Try.prog 4 #[.int .i64 a0, .int .i64 a1, .int .i64 a2] w fun e w' => e = .returned (.bool true) ∧ Below w.heap.size w w' := by
  have hm15 := i64_and15
  have hm127 := i64_and127
  obtain ⟨base, hbase⟩ : ∃ x, x = a0 % 16 + 1 := ⟨_, rfl⟩
  obtain ⟨n, hn⟩ : ∃ x, x = a1 % 128 := ⟨_, rfl⟩
  obtain ⟨a, ha⟩ : ∃ x, x = a2 % 128 := ⟨_, rfl⟩
  have hb0 : 1 ≤ base ∧ base ≤ 16 := by omega
  have hn0 : 0 ≤ n ∧ n < 128 := by omega
  have ha0 : 0 ≤ a ∧ a < 128 := by omega
  have hbn : (base == 0) = false := by simp; omega
  have e0 := hbase.symm
  have e1 := hn.symm
  have e2 := ha.symm
  clear hbase hn ha
  go_enter Try.func4, Try.ntmps4
  go_wp2_with fail
  refine (pace_new _ _ _ _ _ _ _ _ _).mono ?_
  rintro e w1 ⟨b, rfl, hb, hB1, h1⟩
  replace h1 : PaceAt w1 b base (4 * base) 1 base 0 0 := by
    have x1 : pBase base = base := by unfold pBase; omega
    have x2 : pMost base (4 * base) = 4 * base := by unfold pMost; rw [x1]; omega
    rw [x1, x2] at h1; exact h1
  go_wp2_with fail
  go_loopw [8, 9, 10, 11] (fun since outs beats i wr => ∃ (k : Nat) (view long s o bt clock ticks : Int), (k : Int) ≤ n ∧ i = .int .i64 (k + 1) ∧ since = .int .i64 s ∧ outs = .int .i64 o ∧ beats = .int .i64 bt ∧ TRel base a k view long s o bt clock ticks ∧ PaceAt wr b base (4 * base) view long clock ticks ∧ Below w.heap.size w wr) (fun _ _ _ i _ => (n + 1 - intOf i).toNat)
  case atStart => exact ⟨0, 1, base, 0, 0, 0, 0, 0, by omega, rfl, rfl, rfl, rfl, trel_zero base a, h1, hB1⟩
  case round =>
    obtain ⟨k, view, long, s, o, bt, clock, ticks, hk, rfl, rfl, rfl, rfl, hT, hp, hB⟩ := hrel
    clear h1 hB1
    by_cases hlt : (k : Int) < n
    · by_cases hin : ((k : Int) + 1) = a
      · obtain ⟨rfl, rfl, hM⟩ := trel_turns hT hin
        clear hT
        have hin1 : ((k : Int) + 1 == a) = true := by simpa using hin
        have hg1 : decide (1 ≤ a) = true := by simp; omega
        have hg2 : a ≤ (k : Int) + 1 := by omega
        have HIN := Lib.hid hin
        clear hin
        go_wp2_with fail
        refine (pace_enter_slow b _ _ _ _ _ _ _ wr hp (by omega) (by omega) (by omega)).mono ?_
        rintro e w2 ⟨rfl, h2, hc2⟩
        rw [show min (2 * base) (4 * base) = 2 * base from by omega] at h2
        have hB2 : Below w.heap.size w w2 := hB.trans (hc2.below1 hB.size hb)
        clear hB hc2 hp
        have hb2 := mrel_bounds hb0.1 hb0.2 hM
        have hT := mrel_ticks hb0.1 hM
        simp only [Int.zero_add] at hb2 hT
        obtain ⟨m1, m2, m3, m4, m5, m6, m7, m8, m9, m10, m11, m12, m13, m14⟩ := hb2
        clear hM
        have hz : ((2 * base) == 0) = false := by simp; omega
        by_cases ho : 1 % (2 * base) = 0
        · have ho1 : (1 % (2 * base) == 0) = true := by simpa using ho
          rw [if_pos ho] at hT
          rw [ho1] at m13
          by_cases hbt : ((k : Int) + 1) % base = 0
          · have hbt1 : (((k : Int) + 1) % base == 0) = true := by simpa using hbt
            rw [if_pos hbt] at hT
            rw [hbt1] at m14
            have HO := Lib.hid ho
            have HBT := Lib.hid hbt
            clear ho hbt
            go_wp2_with fail
            refine (pace_tick _ _ _ _ _ _ _ _ h2 (by omega) (by omega) (by omega) (by omega) (by omega) (by omega)).mono ?_
            rintro e w3 ⟨rfl, h3, hc3⟩
            simp only [Int.zero_add] at h3 ⊢
            rw [m13, m14]
            have hB3 : Below w.heap.size w w3 := hB2.trans (hc3.below1 hB2.size hb)
            clear m13 m14 hc3 h2
            go_wp2_with fail
            go_roundw
            case rel => exact ⟨k + 1, _, _, _, _, _, _, _, by omega, by go_num, rfl, rfl, rfl, hT, h3, hB3⟩
            case measure => simp [intOf]; omega
          · have hbt1 : (((k : Int) + 1) % base == 0) = false := by simpa using hbt
            rw [if_neg hbt] at hT
            rw [hbt1] at m14
            have HO := Lib.hid ho
            have HBT := Lib.hid hbt
            clear ho hbt
            go_wp2_with fail
            refine (pace_tick _ _ _ _ _ _ _ _ h2 (by omega) (by omega) (by omega) (by omega) (by omega) (by omega)).mono ?_
            rintro e w3 ⟨rfl, h3, hc3⟩
            simp only [Int.zero_add] at h3 ⊢
            rw [m13, m14]
            have hB3 : Below w.heap.size w w3 := hB2.trans (hc3.below1 hB2.size hb)
            clear m13 m14 hc3 h2
            go_wp2_with fail
            go_roundw
            case rel => exact ⟨k + 1, _, _, _, _, _, _, _, by omega, by go_num, rfl, rfl, rfl, by simpa using hT, h3, hB3⟩
            case measure => simp [intOf]; omega
        · have ho1 : (1 % (2 * base) == 0) = false := by simpa using ho
          rw [if_neg ho] at hT
          rw [ho1] at m13
          by_cases hbt : ((k : Int) + 1) % base = 0
          · have hbt1 : (((k : Int) + 1) % base == 0) = true := by simpa using hbt
            rw [if_pos hbt] at hT
            rw [hbt1] at m14
            have HO := Lib.hid ho
            have HBT := Lib.hid hbt
            clear ho hbt
            go_wp2_with fail
            refine (pace_tick _ _ _ _ _ _ _ _ h2 (by omega) (by omega) (by omega) (by omega) (by omega) (by omega)).mono ?_
            rintro e w3 ⟨rfl, h3, hc3⟩
            simp only [Int.zero_add] at h3 ⊢
            rw [m13, m14]
            have hB3 : Below w.heap.size w w3 := hB2.trans (hc3.below1 hB2.size hb)
            clear m13 m14 hc3 h2
            go_wp2_with fail
            go_roundw
            case rel => exact ⟨k + 1, _, _, _, _, _, _, _, by omega, by go_num, rfl, rfl, rfl, by simpa using hT, h3, hB3⟩
            case measure => simp [intOf]; omega
          · have hbt1 : (((k : Int) + 1) % base == 0) = false := by simpa using hbt
            rw [if_neg hbt] at hT
            rw [hbt1] at m14
            have HO := Lib.hid ho
            have HBT := Lib.hid hbt
            clear ho hbt
            go_wp2_with fail
            refine (pace_tick _ _ _ _ _ _ _ _ h2 (by omega) (by omega) (by omega) (by omega) (by omega) (by omega)).mono ?_
            rintro e w3 ⟨rfl, h3, hc3⟩
            simp only [Int.zero_add] at h3 ⊢
            rw [m13, m14]
            have hB3 : Below w.heap.size w w3 := hB2.trans (hc3.below1 hB2.size hb)
            clear m13 m14 hc3 h2
            go_wp2_with fail
            go_roundw
            case rel => exact ⟨k + 1, _, _, _, _, _, _, _, by omega, by go_num, rfl, rfl, rfl, by simpa using hT, h3, hB3⟩
            case measure => simp [intOf]; omega
      · have hM := trel_stays hT hin
        clear hT
        have hin1 : ((k : Int) + 1 == a) = false := by simpa using hin
        have HIN := Lib.hid hin
        by_cases hg : 1 ≤ a ∧ a ≤ (k : Int) + 1
        · have hl2 : 2 * base = long := by
            obtain ⟨_, _, _, h4⟩ := hM
            rcases h4 with ⟨_, _, _, h, _⟩ | ⟨h, _⟩
            · exact h.symm
            · exact absurd hg h
          subst hl2
          have hg1 : decide (1 ≤ a) = true := by simpa using hg.1
          have hg2 : decide (a ≤ (k : Int) + 1) = true := by simpa using hg.2
          clear hin
          have hb2 := mrel_bounds hb0.1 hb0.2 hM
          have hT := mrel_ticks hb0.1 hM
          obtain ⟨m1, m2, m3, m4, m5, m6, m7, m8, m9, m10, m11, m12, m13, m14⟩ := hb2
          clear hM
          have hz : ((2 * base) == 0) = false := by simp; omega
          by_cases ho : (s + 1) % (2 * base) = 0
          · have ho1 : ((s + 1) % (2 * base) == 0) = true := by simpa using ho
            rw [if_pos ho] at hT
            rw [ho1] at m13
            by_cases hbt : ((k : Int) + 1) % base = 0
            · have hbt1 : (((k : Int) + 1) % base == 0) = true := by simpa using hbt
              rw [if_pos hbt] at hT
              rw [hbt1] at m14
              have HO := Lib.hid ho
              have HBT := Lib.hid hbt
              clear ho hbt
              go_wp2_with fail
              refine (pace_tick _ _ _ _ _ _ _ _ hp (by omega) (by omega) (by omega) (by omega) (by omega) (by omega)).mono ?_
              rintro e w3 ⟨rfl, h3, hc3⟩
              rw [m13, m14]
              have hB3 : Below w.heap.size w w3 := hB.trans (hc3.below1 hB.size hb)
              clear m13 m14 hc3 hp
              go_wp2_with fail
              go_roundw
              case rel => exact ⟨k + 1, _, _, _, _, _, _, _, by omega, by go_num, rfl, rfl, rfl, hT, h3, hB3⟩
              case measure => simp [intOf]; omega
            · have hbt1 : (((k : Int) + 1) % base == 0) = false := by simpa using hbt
              rw [if_neg hbt] at hT
              rw [hbt1] at m14
              have HO := Lib.hid ho
              have HBT := Lib.hid hbt
              clear ho hbt
              go_wp2_with fail
              refine (pace_tick _ _ _ _ _ _ _ _ hp (by omega) (by omega) (by omega) (by omega) (by omega) (by omega)).mono ?_
              rintro e w3 ⟨rfl, h3, hc3⟩
              rw [m13, m14]
              have hB3 : Below w.heap.size w w3 := hB.trans (hc3.below1 hB.size hb)
              clear m13 m14 hc3 hp
              go_wp2_with fail
              go_roundw
              case rel => exact ⟨k + 1, _, _, _, _, _, _, _, by omega, by go_num, rfl, rfl, rfl, by simpa using hT, h3, hB3⟩
              case measure => simp [intOf]; omega
          · have ho1 : ((s + 1) % (2 * base) == 0) = false := by simpa using ho
            rw [if_neg ho] at hT
            rw [ho1] at m13
            by_cases hbt : ((k : Int) + 1) % base = 0
            · have hbt1 : (((k : Int) + 1) % base == 0) = true := by simpa using hbt
              rw [if_pos hbt] at hT
              rw [hbt1] at m14
              have HO := Lib.hid ho
              have HBT := Lib.hid hbt
              clear ho hbt
              go_wp2_with fail
              refine (pace_tick _ _ _ _ _ _ _ _ hp (by omega) (by omega) (by omega) (by omega) (by omega) (by omega)).mono ?_
              rintro e w3 ⟨rfl, h3, hc3⟩
              rw [m13, m14]
              have hB3 : Below w.heap.size w w3 := hB.trans (hc3.below1 hB.size hb)
              clear m13 m14 hc3 hp
              go_wp2_with fail
              go_roundw
              case rel => exact ⟨k + 1, _, _, _, _, _, _, _, by omega, by go_num, rfl, rfl, rfl, by simpa using hT, h3, hB3⟩
              case measure => simp [intOf]; omega
            · have hbt1 : (((k : Int) + 1) % base == 0) = false := by simpa using hbt
              rw [if_neg hbt] at hT
              rw [hbt1] at m14
              have HO := Lib.hid ho
              have HBT := Lib.hid hbt
              clear ho hbt
              go_wp2_with fail
              refine (pace_tick _ _ _ _ _ _ _ _ hp (by omega) (by omega) (by omega) (by omega) (by omega) (by omega)).mono ?_
              rintro e w3 ⟨rfl, h3, hc3⟩
              rw [m13, m14]
              have hB3 : Below w.heap.size w w3 := hB.trans (hc3.below1 hB.size hb)
              clear m13 m14 hc3 hp
              go_wp2_with fail
              go_roundw
              case rel => exact ⟨k + 1, _, _, _, _, _, _, _, by omega, by go_num, rfl, rfl, rfl, by simpa using hT, h3, hB3⟩
              case measure => simp [intOf]; omega
        · have hl2 : base = long := by
            obtain ⟨_, _, _, h4⟩ := hM
            rcases h4 with ⟨h, h', _⟩ | ⟨_, _, h, _⟩
            · exact absurd ⟨h, h'⟩ hg
            · exact h.symm
          subst hl2
          clear hin
          by_cases hg1 : 1 ≤ a
          · have hg1b : decide (1 ≤ a) = true := by simpa using hg1
            have hg2 : decide (a ≤ (k : Int) + 1) = false := by simp; omega
            have hb2 := mrel_bounds hb0.1 hb0.2 hM
            have hT := mrel_ticks hb0.1 hM
            obtain ⟨m1, m2, m3, m4, m5, m6, m7, m8, m9, m10, m11, m12, m13, m14⟩ := hb2
            clear hM
            have hz : (base == 0) = false := by simp; omega
            by_cases ho : (s + 1) % base = 0
            · have ho1 : ((s + 1) % base == 0) = true := by simpa using ho
              rw [if_pos ho] at hT
              rw [ho1] at m13
              by_cases hbt : ((k : Int) + 1) % base = 0
              · have hbt1 : (((k : Int) + 1) % base == 0) = true := by simpa using hbt
                rw [if_pos hbt] at hT
                rw [hbt1] at m14
                have HO := Lib.hid ho
                have HBT := Lib.hid hbt
                clear ho hbt
                go_wp2_with fail
                refine (pace_tick _ _ _ _ _ _ _ _ hp (by omega) (by omega) (by omega) (by omega) (by omega) (by omega)).mono ?_
                rintro e w3 ⟨rfl, h3, hc3⟩
                rw [m13, m14]
                have hB3 : Below w.heap.size w w3 := hB.trans (hc3.below1 hB.size hb)
                clear m13 m14 hc3 hp
                go_wp2_with fail
                go_roundw
                case rel => exact ⟨k + 1, _, _, _, _, _, _, _, by omega, by go_num, rfl, rfl, rfl, hT, h3, hB3⟩
                case measure => simp [intOf]; omega
              · have hbt1 : (((k : Int) + 1) % base == 0) = false := by simpa using hbt
                rw [if_neg hbt] at hT
                rw [hbt1] at m14
                have HO := Lib.hid ho
                have HBT := Lib.hid hbt
                clear ho hbt
                go_wp2_with fail
                refine (pace_tick _ _ _ _ _ _ _ _ hp (by omega) (by omega) (by omega) (by omega) (by omega) (by omega)).mono ?_
                rintro e w3 ⟨rfl, h3, hc3⟩
                rw [m13, m14]
                have hB3 : Below w.heap.size w w3 := hB.trans (hc3.below1 hB.size hb)
                clear m13 m14 hc3 hp
                go_wp2_with fail
                go_roundw
                case rel => exact ⟨k + 1, _, _, _, _, _, _, _, by omega, by go_num, rfl, rfl, rfl, by simpa using hT, h3, hB3⟩
                case measure => simp [intOf]; omega
            · have ho1 : ((s + 1) % base == 0) = false := by simpa using ho
              rw [if_neg ho] at hT
              rw [ho1] at m13
              by_cases hbt : ((k : Int) + 1) % base = 0
              · have hbt1 : (((k : Int) + 1) % base == 0) = true := by simpa using hbt
                rw [if_pos hbt] at hT
                rw [hbt1] at m14
                have HO := Lib.hid ho
                have HBT := Lib.hid hbt
                clear ho hbt
                go_wp2_with fail
                refine (pace_tick _ _ _ _ _ _ _ _ hp (by omega) (by omega) (by omega) (by omega) (by omega) (by omega)).mono ?_
                rintro e w3 ⟨rfl, h3, hc3⟩
                rw [m13, m14]
                have hB3 : Below w.heap.size w w3 := hB.trans (hc3.below1 hB.size hb)
                clear m13 m14 hc3 hp
                go_wp2_with fail
                go_roundw
                case rel => exact ⟨k + 1, _, _, _, _, _, _, _, by omega, by go_num, rfl, rfl, rfl, by simpa using hT, h3, hB3⟩
                case measure => simp [intOf]; omega
              · have hbt1 : (((k : Int) + 1) % base == 0) = false := by simpa using hbt
                rw [if_neg hbt] at hT
                rw [hbt1] at m14
                have HO := Lib.hid ho
                have HBT := Lib.hid hbt
                clear ho hbt
                go_wp2_with fail
                refine (pace_tick _ _ _ _ _ _ _ _ hp (by omega) (by omega) (by omega) (by omega) (by omega) (by omega)).mono ?_
                rintro e w3 ⟨rfl, h3, hc3⟩
                rw [m13, m14]
                have hB3 : Below w.heap.size w w3 := hB.trans (hc3.below1 hB.size hb)
                clear m13 m14 hc3 hp
                go_wp2_with fail
                go_roundw
                case rel => exact ⟨k + 1, _, _, _, _, _, _, _, by omega, by go_num, rfl, rfl, rfl, by simpa using hT, h3, hB3⟩
                case measure => simp [intOf]; omega
          · have hg1b : decide (1 ≤ a) = false := by simp; omega
            have hb2 := mrel_bounds hb0.1 hb0.2 hM
            have hT := mrel_ticks hb0.1 hM
            obtain ⟨m1, m2, m3, m4, m5, m6, m7, m8, m9, m10, m11, m12, m13, m14⟩ := hb2
            clear hM
            have hz : (base == 0) = false := by simp; omega
            by_cases ho : (s + 1) % base = 0
            · have ho1 : ((s + 1) % base == 0) = true := by simpa using ho
              rw [if_pos ho] at hT
              rw [ho1] at m13
              by_cases hbt : ((k : Int) + 1) % base = 0
              · have hbt1 : (((k : Int) + 1) % base == 0) = true := by simpa using hbt
                rw [if_pos hbt] at hT
                rw [hbt1] at m14
                have HO := Lib.hid ho
                have HBT := Lib.hid hbt
                clear ho hbt
                go_wp2_with fail
                refine (pace_tick _ _ _ _ _ _ _ _ hp (by omega) (by omega) (by omega) (by omega) (by omega) (by omega)).mono ?_
                rintro e w3 ⟨rfl, h3, hc3⟩
                rw [m13, m14]
                have hB3 : Below w.heap.size w w3 := hB.trans (hc3.below1 hB.size hb)
                clear m13 m14 hc3 hp
                go_wp2_with fail
                go_roundw
                case rel => exact ⟨k + 1, _, _, _, _, _, _, _, by omega, by go_num, rfl, rfl, rfl, hT, h3, hB3⟩
                case measure => simp [intOf]; omega
              · have hbt1 : (((k : Int) + 1) % base == 0) = false := by simpa using hbt
                rw [if_neg hbt] at hT
                rw [hbt1] at m14
                have HO := Lib.hid ho
                have HBT := Lib.hid hbt
                clear ho hbt
                go_wp2_with fail
                refine (pace_tick _ _ _ _ _ _ _ _ hp (by omega) (by omega) (by omega) (by omega) (by omega) (by omega)).mono ?_
                rintro e w3 ⟨rfl, h3, hc3⟩
                rw [m13, m14]
                have hB3 : Below w.heap.size w w3 := hB.trans (hc3.below1 hB.size hb)
                clear m13 m14 hc3 hp
                go_wp2_with fail
                go_roundw
                case rel => exact ⟨k + 1, _, _, _, _, _, _, _, by omega, by go_num, rfl, rfl, rfl, by simpa using hT, h3, hB3⟩
                case measure => simp [intOf]; omega
            · have ho1 : ((s + 1) % base == 0) = false := by simpa using ho
              rw [if_neg ho] at hT
              rw [ho1] at m13
              by_cases hbt : ((k : Int) + 1) % base = 0
              · have hbt1 : (((k : Int) + 1) % base == 0) = true := by simpa using hbt
                rw [if_pos hbt] at hT
                rw [hbt1] at m14
                have HO := Lib.hid ho
                have HBT := Lib.hid hbt
                clear ho hbt
                go_wp2_with fail
                refine (pace_tick _ _ _ _ _ _ _ _ hp (by omega) (by omega) (by omega) (by omega) (by omega) (by omega)).mono ?_
                rintro e w3 ⟨rfl, h3, hc3⟩
                rw [m13, m14]
                have hB3 : Below w.heap.size w w3 := hB.trans (hc3.below1 hB.size hb)
                clear m13 m14 hc3 hp
                go_wp2_with fail
                go_roundw
                case rel => exact ⟨k + 1, _, _, _, _, _, _, _, by omega, by go_num, rfl, rfl, rfl, by simpa using hT, h3, hB3⟩
                case measure => simp [intOf]; omega
              · have hbt1 : (((k : Int) + 1) % base == 0) = false := by simpa using hbt
                rw [if_neg hbt] at hT
                rw [hbt1] at m14
                have HO := Lib.hid ho
                have HBT := Lib.hid hbt
                clear ho hbt
                go_wp2_with fail
                refine (pace_tick _ _ _ _ _ _ _ _ hp (by omega) (by omega) (by omega) (by omega) (by omega) (by omega)).mono ?_
                rintro e w3 ⟨rfl, h3, hc3⟩
                rw [m13, m14]
                have hB3 : Below w.heap.size w w3 := hB.trans (hc3.below1 hB.size hb)
                clear m13 m14 hc3 hp
                go_wp2_with fail
                go_roundw
                case rel => exact ⟨k + 1, _, _, _, _, _, _, _, by omega, by go_num, rfl, rfl, rfl, by simpa using hT, h3, hB3⟩
                case measure => simp [intOf]; omega
    · have hkn : n = k := by omega
      obtain ⟨hbt, ho⟩ := trel_end hb0.1 hT
      rw [← hkn] at hbt
      have hq : (bt == n / base) = true := by simpa using hbt
      have hod : decide (o ≤ bt) = true := by simpa using ho
      have hlt2 : n < (k : Int) + 1 := by omega
      clear ho hk hlt hkn hbt hT e0 e1 e2
      go_wp2_with fail
      refine (pace_awake _).mono ?_
      rintro e w3 ⟨rfl, hB3⟩
      go_wp2_with fail
      go_ret
      exact ⟨rfl, hB.trans (hB3.mono hB.size)⟩

/-! ### the row's step -/
open Go.ChangeShapes Go.WideShapes Go.ChangeAt
set_option linter.unusedVariables false
theorem own : ownKnob Try.prog.godebug = none := by kernel_rfl
theorem laidOut : laidOutB Try.prog = true := by kernel_rfl
set_option maxRecDepth 100000 in
theorem lifted (os : Os) (started : os.Started) (H : Type) (enc : TypeId × Value → H) :
    ReturnsInHanded {} Try.checked os 4 .any (Rows.paceTicksSpec.pre6 enc Try.prog Try.f4 Rows.paceTicksRow.domain false) (Rows.paceTicksSpec.post enc Try.prog Try.f4 false true false false) := by
  refine returnsInHanded_of_change (C := Try.checked) own started (by kernel_rfl) Try.func4
    (ChangeSpec.witness6 (enc := enc) (C := Try.checked) false ⟨#[], #[.int .i64 0, .int .i64 0, .int .i64 0], []⟩ 8 (by kernel_rfl) (by kernel_rfl) (by kernel_rfl) (by kernel_rfl)) ?_
  intro W base args ds gs before hval0 hW hcnd _
  have hval : ∀ (j : Nat) t v, Try.f4.params[j]? = some t → args[j]? = some v → Value.okWide Try.prog W .any base t v := hval0
  have hW' := hW
  obtain ⟨p, q, hA0, hV, rfl, hfz, hnd⟩ := hW
  have hA : DataW.TrodAll enc Try.prog W 0 (fun _ => true) true Try.f4.params.toList args.toList ds p := hA0
  rw [Try.params4] at hA hval
  obtain ⟨v0, vs0, d0, ds0, p0, q0, hargs, rfl, rfl, h0, r0⟩ := trodAll_cons hA
  obtain ⟨v1, vs1, d1, ds1, p1, q1, rfl, rfl, rfl, h1, r1⟩ := trodAll_cons r0
  obtain ⟨v2, vs2, d2, ds2, p2, q2, rfl, rfl, rfl, h2, r2⟩ := trodAll_cons r1
  obtain ⟨rfl, rfl, rfl⟩ := trodAll_nil r2
  obtain rfl : args = #[v0, v1, v2] := by cases args; simp_all
  obtain ⟨rfl, rfl⟩ := trodVars_none hV
  obtain ⟨a0, rfl, rfl, rfl, w0⟩ := open_int Try.underlying3 (hval 0 3 v0 rfl rfl) h0
  obtain ⟨a1, rfl, rfl, rfl, w1⟩ := open_int Try.underlying3 (hval 1 3 v1 rfl rfl) h1
  obtain ⟨a2, rfl, rfl, rfl, w2⟩ := open_int Try.underlying3 (hval 2 3 v2 rfl rfl) h2
  clear hA0 hval0
  refine (walk a0 w0 a1 w1 a2 w2 W).mono fun e W' ⟨he, bel⟩ => ?_
  subst he
  exact ⟨_, rfl, _, _, _, [], _, [], hW', trodAll_mk1 (shut_bool Try.underlying4 _), (trodAll_cons_mk (shut_int Try.underlying3 w0) (trodAll_cons_mk (shut_int Try.underlying3 w1) (trodAll_cons_mk (shut_int Try.underlying3 w2) trodAll_mk0))), rfl, bel.frame _, fun h => by cases h⟩

theorem over : Rows.paceTicksRow.holds Try.pinned (OpenSpec.ofChange Rows.paceTicksSpec) :=
  OpenClaim.holds_of_wide 4 Try.f4 rfl rfl rfl rfl rfl rfl rfl ⟨rfl, rfl, rfl, rfl, rfl⟩ rfl rfl rfl rfl rfl (by kernel_rfl) Try.func4 (by kernel_rfl)
    (of_decide_eq_true (by kernel_rfl)) (by unfold Func.isWrapper; first | (rw [if_pos (by decide +kernel)]; kernel_rfl) | (rw [if_neg (by decide +kernel)]; exact ⟨rfl, rfl⟩))
    (fun os started H enc _ => lifted os started H enc)

theorem proved : Rows.PaceTicksSaid := over
#print axioms proved
end Go.Proofs.Ytjllejlgclfahaa.paceTicks
