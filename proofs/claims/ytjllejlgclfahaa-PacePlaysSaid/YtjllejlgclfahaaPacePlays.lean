/-
  PacePlays: views are entered, the clock runs, and tells, as the document says. No condition.
-/
import Derived.Test.YtjllejlgclfahaaPace
import Derived.ProofKit
import Derived.OpenShut
import Derived.ChangeOld
namespace Go.Proofs.Ytjllejlgclfahaa.pacePlays
open Go.RowKit
attribute [local go_sem high] run_imin run_imax

theorem succ_mod0 (s L : Int) : ((s % L + 1) % L == 0) = ((s + 1) % L == 0) := by rw [Int.emod_add_emod]
theorem succ_mod1 (s L : Int) : (s % L + 1) % L = (s + 1) % L := by rw [Int.emod_add_emod]
theorem most_eq (base most : Int) : pMost base most = max (min (max most 1) 1000) (pBase base) := by unfold pMost pBase; omega
theorem base_bd (base : Int) : 1 ≤ pBase base ∧ pBase base ≤ 1000 := by unfold pBase; omega
theorem mod_bd (a L : Int) (h : 1 ≤ L) (h2 : L ≤ 1000) : 0 ≤ a % L ∧ a % L ≤ 1000 := by
  have := Int.emod_nonneg a (show L ≠ 0 by omega)
  have := Int.emod_lt_of_pos a (show 0 < L by omega)
  omega

set_option maxRecDepth 100000 in
set_option maxHeartbeats 8000000 in
theorem walk_false (a0 a1 : Int) (a2 : Option Addr) (len2 cap2 : Nat) (z2 : List Int) (w : World) (w2 : IsRow .i64 w a2 len2 cap2 z2) :
    Calls Try.prog 6 #[.int .i64 a0, .int .i64 a1, .slice a2 len2 cap2, .bool false] w fun e w' => e = .returned (.bool true) ∧ Below w.heap.size w w' := by
  have hm7 := i64_and7
  have hm31 := i64_and31
  have hm15 := i64_and15
  have hm1 := i64_and1
  have hlen := w2.len_le
  obtain ⟨B, hBdef⟩ : ∃ x, x = pBase (a0) := ⟨_, rfl⟩
  obtain ⟨M, hMdef⟩ : ∃ x, x = pMost (a0) (a1) := ⟨_, rfl⟩
  have hbd := base_bd (a0)
  rw [← hBdef] at hbd
  have hme := most_eq (a0) (a1)
  rw [← hMdef, ← hBdef] at hme
  have hMB : B ≤ M ∧ M ≤ 1000 := by omega
  have hBz : (B == 0) = false := by simp; omega
  have hBe : imin (imax (a0) 1) 1000 = B := by rw [hBdef, imin_eq, imax_eq]; rfl
  have hMe : imax (imin (imax (a1) 1) 1000) B = M := by rw [hme, imax_eq, imin_eq, imax_eq]
  have HB := Lib.hid hBdef
  have HM := Lib.hid hMdef
  have HR := Lib.hid w2
  clear hBdef hMdef hme w2
  go_enter Try.func6, Try.ntmps6
  go_wp2_with fail
  refine (pace_new _ _ _ _ _ _ _ _ _).mono ?_
  rintro e w1 ⟨b, rfl, hb, hB1, h1⟩
  rw [← HB.out, ← HM.out] at h1
  clear HB HM
  go_wp2_with fail
  go_loopw [12, 13, 14, 15, 16] (fun view long at_ all i wr => ∃ (k : Nat) (v l t n : Int), k ≤ len2 ∧ k ≤ 200 ∧ i = .int .i64 k ∧ view = .int .i64 v ∧ long = .int .i64 l ∧ at_ = .int .i64 t ∧ all = .int .i64 n ∧ 1 ≤ l ∧ l ≤ 1000 ∧ 0 ≤ t ∧ t ≤ k ∧ 0 ≤ n ∧ n ≤ k ∧ PaceAt wr b B M v l t (n % B) ∧ Below w.heap.size w wr) (fun _ _ _ _ i _ => (200 - intOf i).toNat)
  case atStart => exact ⟨0, 1, B, 0, 0, by omega, by omega, rfl, rfl, rfl, rfl, rfl, by omega, by omega, by omega, by omega, by omega, by omega, by simpa using h1, hB1⟩
  case round =>
    obtain ⟨k, v, l, t, n, hk1, hk2, rfl, rfl, rfl, rfl, rfl, hl1, hl2, ht1, ht2, hn1, hn2, hp, hB⟩ := hrel
    clear hBe hMe h1 hB1
    by_cases hlt : k < len2 ∧ k < 200
    · obtain ⟨hlt1, hlt2⟩ := hlt
      obtain ⟨xb, xo, rfl, hlc, hxb, hcell⟩ := HR.out.at_ (by omega)
      have hc := (hB.cell (p := ⟨xb, xo + k, none⟩) hxb).trans (hcell k hlt1)
      clear hcell
      generalize z2.getD k 0 = z at hc
      have hd1 : decide (k < len2) = true := by simpa using hlt1
      have hd2 : decide ((k : Int) < 200) = true := by simp; omega
      obtain ⟨mb1, mb2⟩ := mod_bd n B hbd.1 hbd.2
      by_cases hz : z % 8 = 0
      · have hz1 : (z % 8 == 0) = true := by simpa using hz
        have HZ := Lib.hid hz
        clear hz
        have hst : (z / 256 % 2 == 1) = true ∨ (z / 256 % 2 == 1) = false := by cases (z / 256 % 2 == 1) <;> simp
        by_cases hv : v < z / 8 % 16
        · rcases hst with hst | hst
          · go_wp2_with fail
            go_quiet (fail)
            go_wp2_with fail
            refine (pace_enter_slow b B M v l t _ _ (wr.drewN nq) hp hv (by omega) (by omega)).mono ?_
            rintro e w2 ⟨rfl, h2, hc2⟩
            have hB2 : Below w.heap.size w w2 := (below_drewn hB nq).trans (hc2.below1 (below_drewn hB nq).size hb)
            have hi : imin (2 * l) M = min (2 * l) M := imin_eq _ _
            have hmn : 1 ≤ min (2 * l) M ∧ min (2 * l) M ≤ 1000 := by omega
            clear hc2 hp hB
            go_wp2_with fail
            refine (pace_view _ _ _ _ _ _ _ _ h2).mono ?_
            rintro e _ ⟨rfl, rfl⟩
            go_wp2_with fail
            refine (pace_long _ _ _ _ _ _ _ _ h2).mono ?_
            rintro e _ ⟨rfl, rfl⟩
            go_wp2_with fail
            go_roundw
            case rel => exact ⟨k + 1, _, _, _, _, by omega, by omega, by go_num, rfl, rfl, rfl, rfl, hmn.1, hmn.2, by omega, by omega, by omega, by omega, h2, hB2⟩
            case measure => simp [intOf]; omega
          · go_wp2_with fail
            go_quiet (fail)
            go_wp2_with fail
            refine (pace_enter_fast b B M v l t _ _ (wr.drewN nq) hp hv).mono ?_
            rintro e w2 ⟨rfl, h2, hc2⟩
            have hB2 : Below w.heap.size w w2 := (below_drewn hB nq).trans (hc2.below1 (below_drewn hB nq).size hb)
            clear hc2 hp hB
            go_wp2_with fail
            refine (pace_view _ _ _ _ _ _ _ _ h2).mono ?_
            rintro e _ ⟨rfl, rfl⟩
            go_wp2_with fail
            refine (pace_long _ _ _ _ _ _ _ _ h2).mono ?_
            rintro e _ ⟨rfl, rfl⟩
            go_wp2_with fail
            go_roundw
            case rel => exact ⟨k + 1, _, _, _, _, by omega, by omega, by go_num, rfl, rfl, rfl, rfl, by omega, by omega, by omega, by omega, by omega, by omega, h2, hB2⟩
            case measure => simp [intOf]; omega
        · rcases hst with hst | hst
          all_goals
            go_wp2_with fail
            go_quiet (fail)
            go_wp2_with fail
            refine (pace_enter_no b B M v l t _ _ _ (wr.drewN nq) hp (by omega)).mono ?_
            rintro e w2 ⟨rfl, rfl⟩
            have h2 : PaceAt (wr.drewN nq) b B M v l t (n % B) := hp
            have hB2 := below_drewn hB nq
            clear hp hB
            go_wp2_with fail
            refine (pace_view _ _ _ _ _ _ _ _ h2).mono ?_
            rintro e _ ⟨rfl, rfl⟩
            go_wp2_with fail
            refine (pace_long _ _ _ _ _ _ _ _ h2).mono ?_
            rintro e _ ⟨rfl, rfl⟩
            go_wp2_with fail
            go_roundw
            case rel => exact ⟨k + 1, _, _, _, _, by omega, by omega, by go_num, rfl, rfl, rfl, rfl, by omega, by omega, by omega, by omega, by omega, by omega, h2, hB2⟩
            case measure => simp [intOf]; omega
      · have hz1 : (z % 8 == 0) = false := by simpa using hz
        have HZ := Lib.hid hz
        clear hz
        by_cases hout : t + 1 = l
        · have ho1 : (t + 1 == l) = true := by simpa using hout
          have HO := Lib.hid hout
          have hl3 : l ≤ t + 1 := by omega
          clear hout
          go_wp2_with fail
          refine (pace_tick b B M v l t _ _ hp (by omega) (by omega) (by omega) (by omega) (by omega) (by omega)).mono ?_
          rintro e w2 ⟨rfl, h2, hc2⟩
          rw [if_pos HO.out, succ_mod1] at h2
          rw [succ_mod0, ho1]
          have hB2 : Below w.heap.size w w2 := hB.trans (hc2.below1 hB.size hb)
          clear hc2 hp hB
          go_wp2_with fail
          refine (pace_view _ _ _ _ _ _ _ _ h2).mono ?_
          rintro e _ ⟨rfl, rfl⟩
          go_wp2_with fail
          refine (pace_long _ _ _ _ _ _ _ _ h2).mono ?_
          rintro e _ ⟨rfl, rfl⟩
          go_wp2_with fail
          go_roundw
          case rel => exact ⟨k + 1, _, _, _, _, by omega, by omega, by go_num, rfl, rfl, rfl, rfl, by omega, by omega, by omega, by omega, by omega, by omega, h2, hB2⟩
          case measure => simp [intOf]; omega
        · have ho1 : (t + 1 == l) = false := by simpa using hout
          have HO := Lib.hid hout
          clear hout
          go_wp2_with fail
          refine (pace_tick b B M v l t _ _ hp (by omega) (by omega) (by omega) (by omega) (by omega) (by omega)).mono ?_
          rintro e w2 ⟨rfl, h2, hc2⟩
          rw [if_neg HO.out, succ_mod1] at h2
          rw [succ_mod0, ho1]
          have hB2 : Below w.heap.size w w2 := hB.trans (hc2.below1 hB.size hb)
          clear hc2 hp hB
          go_wp2_with fail
          refine (pace_view _ _ _ _ _ _ _ _ h2).mono ?_
          rintro e _ ⟨rfl, rfl⟩
          go_wp2_with fail
          refine (pace_long _ _ _ _ _ _ _ _ h2).mono ?_
          rintro e _ ⟨rfl, rfl⟩
          go_wp2_with fail
          go_roundw
          case rel => exact ⟨k + 1, _, _, _, _, by omega, by omega, by go_num, rfl, rfl, rfl, rfl, by omega, by omega, by omega, by omega, by omega, by omega, h2, hB2⟩
          case measure => simp [intOf]; omega
    · have hd : decide (k < len2) = false ∨ (decide (k < len2) = true ∧ decide ((k : Int) < 200) = false) := by
        by_cases h : k < len2
        · right; simp [h]; omega
        · left; simpa using h
      clear hlt
      rcases hd with hd | ⟨hd, hd2⟩
      all_goals
        go_wp2_with fail
        refine (pace_awake _).mono ?_
        rintro e w3 ⟨rfl, hB3⟩
        go_wp2_with fail
        go_ret
        exact ⟨rfl, hB.trans (hB3.mono hB.size)⟩

set_option maxRecDepth 100000 in
set_option maxHeartbeats 8000000 in
theorem walk_true (a0 a1 : Int) (a2 : Option Addr) (len2 cap2 : Nat) (z2 : List Int) (w : World) (w2 : IsRow .i64 w a2 len2 cap2 z2) :
    Calls Try.prog 6 #[.int .i64 a0, .int .i64 a1, .slice a2 len2 cap2, .bool true] w fun e w' => e = .returned (.bool true) ∧ Below w.heap.size w w' := by
  have hm7 := i64_and7
  have hm31 := i64_and31
  have hm15 := i64_and15
  have hm1 := i64_and1
  have hlen := w2.len_le
  obtain ⟨B, hBdef⟩ : ∃ x, x = pBase (a0 % 8) := ⟨_, rfl⟩
  obtain ⟨M, hMdef⟩ : ∃ x, x = pMost (a0 % 8) (a1 % 32) := ⟨_, rfl⟩
  have hbd := base_bd (a0 % 8)
  rw [← hBdef] at hbd
  have hme := most_eq (a0 % 8) (a1 % 32)
  rw [← hMdef, ← hBdef] at hme
  have hMB : B ≤ M ∧ M ≤ 1000 := by omega
  have hBz : (B == 0) = false := by simp; omega
  have hBe : imin (imax (a0 % 8) 1) 1000 = B := by rw [hBdef, imin_eq, imax_eq]; rfl
  have hMe : imax (imin (imax (a1 % 32) 1) 1000) B = M := by rw [hme, imax_eq, imin_eq, imax_eq]
  have HB := Lib.hid hBdef
  have HM := Lib.hid hMdef
  have HR := Lib.hid w2
  clear hBdef hMdef hme w2
  go_enter Try.func6, Try.ntmps6
  go_wp2_with fail
  refine (pace_new _ _ _ _ _ _ _ _ _).mono ?_
  rintro e w1 ⟨b, rfl, hb, hB1, h1⟩
  rw [← HB.out, ← HM.out] at h1
  clear HB HM
  go_wp2_with fail
  go_loopw [12, 13, 14, 15, 16] (fun view long at_ all i wr => ∃ (k : Nat) (v l t n : Int), k ≤ len2 ∧ k ≤ 200 ∧ i = .int .i64 k ∧ view = .int .i64 v ∧ long = .int .i64 l ∧ at_ = .int .i64 t ∧ all = .int .i64 n ∧ 1 ≤ l ∧ l ≤ 1000 ∧ 0 ≤ t ∧ t ≤ k ∧ 0 ≤ n ∧ n ≤ k ∧ PaceAt wr b B M v l t (n % B) ∧ Below w.heap.size w wr) (fun _ _ _ _ i _ => (200 - intOf i).toNat)
  case atStart => exact ⟨0, 1, B, 0, 0, by omega, by omega, rfl, rfl, rfl, rfl, rfl, by omega, by omega, by omega, by omega, by omega, by omega, by simpa using h1, hB1⟩
  case round =>
    obtain ⟨k, v, l, t, n, hk1, hk2, rfl, rfl, rfl, rfl, rfl, hl1, hl2, ht1, ht2, hn1, hn2, hp, hB⟩ := hrel
    clear hBe hMe h1 hB1
    by_cases hlt : k < len2 ∧ k < 200
    · obtain ⟨hlt1, hlt2⟩ := hlt
      obtain ⟨xb, xo, rfl, hlc, hxb, hcell⟩ := HR.out.at_ (by omega)
      have hc := (hB.cell (p := ⟨xb, xo + k, none⟩) hxb).trans (hcell k hlt1)
      clear hcell
      generalize z2.getD k 0 = z at hc
      have hd1 : decide (k < len2) = true := by simpa using hlt1
      have hd2 : decide ((k : Int) < 200) = true := by simp; omega
      obtain ⟨mb1, mb2⟩ := mod_bd n B hbd.1 hbd.2
      by_cases hz : z % 8 = 0
      · have hz1 : (z % 8 == 0) = true := by simpa using hz
        have HZ := Lib.hid hz
        clear hz
        have hst : (z / 256 % 2 == 1) = true ∨ (z / 256 % 2 == 1) = false := by cases (z / 256 % 2 == 1) <;> simp
        by_cases hv : v < z / 8 % 16
        · rcases hst with hst | hst
          · go_wp2_with fail
            go_quiet (fail)
            go_wp2_with fail
            refine (pace_enter_slow b B M v l t _ _ (wr.drewN nq) hp hv (by omega) (by omega)).mono ?_
            rintro e w2 ⟨rfl, h2, hc2⟩
            have hB2 : Below w.heap.size w w2 := (below_drewn hB nq).trans (hc2.below1 (below_drewn hB nq).size hb)
            have hi : imin (2 * l) M = min (2 * l) M := imin_eq _ _
            have hmn : 1 ≤ min (2 * l) M ∧ min (2 * l) M ≤ 1000 := by omega
            clear hc2 hp hB
            go_wp2_with fail
            refine (pace_view _ _ _ _ _ _ _ _ h2).mono ?_
            rintro e _ ⟨rfl, rfl⟩
            go_wp2_with fail
            refine (pace_long _ _ _ _ _ _ _ _ h2).mono ?_
            rintro e _ ⟨rfl, rfl⟩
            go_wp2_with fail
            go_roundw
            case rel => exact ⟨k + 1, _, _, _, _, by omega, by omega, by go_num, rfl, rfl, rfl, rfl, hmn.1, hmn.2, by omega, by omega, by omega, by omega, h2, hB2⟩
            case measure => simp [intOf]; omega
          · go_wp2_with fail
            go_quiet (fail)
            go_wp2_with fail
            refine (pace_enter_fast b B M v l t _ _ (wr.drewN nq) hp hv).mono ?_
            rintro e w2 ⟨rfl, h2, hc2⟩
            have hB2 : Below w.heap.size w w2 := (below_drewn hB nq).trans (hc2.below1 (below_drewn hB nq).size hb)
            clear hc2 hp hB
            go_wp2_with fail
            refine (pace_view _ _ _ _ _ _ _ _ h2).mono ?_
            rintro e _ ⟨rfl, rfl⟩
            go_wp2_with fail
            refine (pace_long _ _ _ _ _ _ _ _ h2).mono ?_
            rintro e _ ⟨rfl, rfl⟩
            go_wp2_with fail
            go_roundw
            case rel => exact ⟨k + 1, _, _, _, _, by omega, by omega, by go_num, rfl, rfl, rfl, rfl, by omega, by omega, by omega, by omega, by omega, by omega, h2, hB2⟩
            case measure => simp [intOf]; omega
        · rcases hst with hst | hst
          all_goals
            go_wp2_with fail
            go_quiet (fail)
            go_wp2_with fail
            refine (pace_enter_no b B M v l t _ _ _ (wr.drewN nq) hp (by omega)).mono ?_
            rintro e w2 ⟨rfl, rfl⟩
            have h2 : PaceAt (wr.drewN nq) b B M v l t (n % B) := hp
            have hB2 := below_drewn hB nq
            clear hp hB
            go_wp2_with fail
            refine (pace_view _ _ _ _ _ _ _ _ h2).mono ?_
            rintro e _ ⟨rfl, rfl⟩
            go_wp2_with fail
            refine (pace_long _ _ _ _ _ _ _ _ h2).mono ?_
            rintro e _ ⟨rfl, rfl⟩
            go_wp2_with fail
            go_roundw
            case rel => exact ⟨k + 1, _, _, _, _, by omega, by omega, by go_num, rfl, rfl, rfl, rfl, by omega, by omega, by omega, by omega, by omega, by omega, h2, hB2⟩
            case measure => simp [intOf]; omega
      · have hz1 : (z % 8 == 0) = false := by simpa using hz
        have HZ := Lib.hid hz
        clear hz
        by_cases hout : t + 1 = l
        · have ho1 : (t + 1 == l) = true := by simpa using hout
          have HO := Lib.hid hout
          have hl3 : l ≤ t + 1 := by omega
          clear hout
          go_wp2_with fail
          refine (pace_tick b B M v l t _ _ hp (by omega) (by omega) (by omega) (by omega) (by omega) (by omega)).mono ?_
          rintro e w2 ⟨rfl, h2, hc2⟩
          rw [if_pos HO.out, succ_mod1] at h2
          rw [succ_mod0, ho1]
          have hB2 : Below w.heap.size w w2 := hB.trans (hc2.below1 hB.size hb)
          clear hc2 hp hB
          go_wp2_with fail
          refine (pace_view _ _ _ _ _ _ _ _ h2).mono ?_
          rintro e _ ⟨rfl, rfl⟩
          go_wp2_with fail
          refine (pace_long _ _ _ _ _ _ _ _ h2).mono ?_
          rintro e _ ⟨rfl, rfl⟩
          go_wp2_with fail
          go_roundw
          case rel => exact ⟨k + 1, _, _, _, _, by omega, by omega, by go_num, rfl, rfl, rfl, rfl, by omega, by omega, by omega, by omega, by omega, by omega, h2, hB2⟩
          case measure => simp [intOf]; omega
        · have ho1 : (t + 1 == l) = false := by simpa using hout
          have HO := Lib.hid hout
          clear hout
          go_wp2_with fail
          refine (pace_tick b B M v l t _ _ hp (by omega) (by omega) (by omega) (by omega) (by omega) (by omega)).mono ?_
          rintro e w2 ⟨rfl, h2, hc2⟩
          rw [if_neg HO.out, succ_mod1] at h2
          rw [succ_mod0, ho1]
          have hB2 : Below w.heap.size w w2 := hB.trans (hc2.below1 hB.size hb)
          clear hc2 hp hB
          go_wp2_with fail
          refine (pace_view _ _ _ _ _ _ _ _ h2).mono ?_
          rintro e _ ⟨rfl, rfl⟩
          go_wp2_with fail
          refine (pace_long _ _ _ _ _ _ _ _ h2).mono ?_
          rintro e _ ⟨rfl, rfl⟩
          go_wp2_with fail
          go_roundw
          case rel => exact ⟨k + 1, _, _, _, _, by omega, by omega, by go_num, rfl, rfl, rfl, rfl, by omega, by omega, by omega, by omega, by omega, by omega, h2, hB2⟩
          case measure => simp [intOf]; omega
    · have hd : decide (k < len2) = false ∨ (decide (k < len2) = true ∧ decide ((k : Int) < 200) = false) := by
        by_cases h : k < len2
        · right; simp [h]; omega
        · left; simpa using h
      clear hlt
      rcases hd with hd | ⟨hd, hd2⟩
      all_goals
        go_wp2_with fail
        refine (pace_awake _).mono ?_
        rintro e w3 ⟨rfl, hB3⟩
        go_wp2_with fail
        go_ret
        exact ⟨rfl, hB.trans (hB3.mono hB.size)⟩

theorem walk (a0 : Int) (_ : (Lit.int .i64 a0).wf = true) (a1 : Int) (_ : (Lit.int .i64 a1).wf = true) (a2 : Option Addr) (len2 cap2 : Nat) (z2 : List Int) (few : Bool) (w : World) (w2 : IsRow .i64 w a2 len2 cap2 z2) :
    Calls Try.prog 6 #[.int .i64 a0, .int .i64 a1, .slice a2 len2 cap2, .bool few] w fun e w' => e = .returned (.bool true) ∧ Below w.heap.size w w' := by
  cases few
  · exact walk_false a0 a1 a2 len2 cap2 z2 w w2
  · exact walk_true a0 a1 a2 len2 cap2 z2 w w2

/-! ### the row's step -/
open Go.ChangeShapes Go.WideShapes Go.ChangeAt
set_option linter.unusedVariables false
theorem own : ownKnob Try.prog.godebug = none := by kernel_rfl
theorem laidOut : laidOutB Try.prog = true := by kernel_rfl
set_option maxRecDepth 100000 in
theorem lifted (os : Os) (started : os.Started) (H : Type) (enc : TypeId × Value → H) :
    ReturnsInHanded {} Try.checked os 6 .any (Rows.pacePlaysSpec.pre6 enc Try.prog Try.f6 Rows.pacePlaysRow.domain false) (Rows.pacePlaysSpec.post enc Try.prog Try.f6 false true false false) := by
  refine returnsInHanded_of_change (C := Try.checked) own started (by kernel_rfl) Try.func6
    (ChangeSpec.witness6 (enc := enc) (C := Try.checked) false ⟨#[], #[.int .i64 0, .int .i64 0, .slice none 0 0, .bool false], []⟩ 8 (by kernel_rfl) (by kernel_rfl) (by kernel_rfl) (by kernel_rfl)) ?_
  intro W base args ds gs before hval0 hW hcnd _
  have hval : ∀ (j : Nat) t v, Try.f6.params[j]? = some t → args[j]? = some v → Value.okWide Try.prog W .any base t v := hval0
  have hW' := hW
  obtain ⟨p, q, hA0, hV, rfl, hfz, hnd⟩ := hW
  have hA : DataW.TrodAll enc Try.prog W 0 (fun _ => true) true Try.f6.params.toList args.toList ds p := hA0
  rw [Try.params6] at hA hval
  obtain ⟨v0, vs0, d0, ds0, p0, q0, hargs, rfl, rfl, h0, r0⟩ := trodAll_cons hA
  obtain ⟨v1, vs1, d1, ds1, p1, q1, rfl, rfl, rfl, h1, r1⟩ := trodAll_cons r0
  obtain ⟨v2, vs2, d2, ds2, p2, q2, rfl, rfl, rfl, h2, r2⟩ := trodAll_cons r1
  obtain ⟨v3, vs3, d3, ds3, p3, q3, rfl, rfl, rfl, h3, r3⟩ := trodAll_cons r2
  obtain ⟨rfl, rfl, rfl⟩ := trodAll_nil r3
  obtain rfl : args = #[v0, v1, v2, v3] := by cases args; simp_all
  obtain ⟨rfl, rfl⟩ := trodVars_none hV
  obtain ⟨a0, rfl, rfl, rfl, w0⟩ := open_int Try.underlying3 (hval 0 3 v0 rfl rfl) h0
  obtain ⟨a1, rfl, rfl, rfl, w1⟩ := open_int Try.underlying3 (hval 1 3 v1 rfl rfl) h1
  obtain ⟨a2, len2, cap2, rfl⟩ := okWide_slice Try.underlying37 (hval 2 37 v2 rfl rfl)
  have k2 := h2
  have lt2 : ∀ x ∈ p2, x.block < W.heap.size := by obtain ⟨m, hm⟩ := k2; exact DataW.trod_lt m _ _ _ hm
  obtain ⟨z2, w2⟩ : ∃ zs, IsRow .i64 W a2 len2 cap2 zs := by
    obtain ⟨fuel, hf⟩ := h2
    rcases open_ints Try.underlying37 Try.underlying3 (by kernel_rfl) hf with ⟨hcs, _⟩ | ⟨x, l, c, zs, hcs, _, hl, hm, hz, _, hcell, hwz⟩
    · simp [Value.cells] at hcs
      obtain ⟨rfl, rfl, rfl⟩ := hcs
      exact ⟨[], .inl ⟨rfl, rfl, rfl, rfl⟩⟩
    · simp [Value.cells] at hcs
      obtain ⟨rfl, rfl, rfl⟩ := hcs
      exact ⟨zs, .inr ⟨_, rfl, hl, hm, by simpa using hz, hcell, hwz⟩⟩
  obtain ⟨a3, rfl, rfl, rfl⟩ := open_bool Try.underlying4 (hval 3 4 v3 rfl rfl) h3
  clear hA0 hval0
  refine (walk a0 w0 a1 w1 a2 len2 cap2 z2 a3 W w2).mono fun e W' ⟨he, bel⟩ => ?_
  subst he
  exact ⟨_, rfl, _, _, _, [], _, [], hW', trodAll_mk1 (shut_bool Try.underlying4 _), (trodAll_cons_mk (shut_int Try.underlying3 w0) (trodAll_cons_mk (shut_int Try.underlying3 w1) (trodAll_cons_mk (Below.trod laidOut (by kernel_rfl) (of_decide_eq_true (by kernel_rfl)) k2 bel lt2) (trodAll_cons_mk (shut_bool Try.underlying4 _) trodAll_mk0)))), rfl, bel.frame _, fun h => by cases h⟩

theorem over : Rows.pacePlaysRow.holds Try.pinned (OpenSpec.ofChange Rows.pacePlaysSpec) :=
  OpenClaim.holds_of_wide 6 Try.f6 rfl rfl rfl rfl rfl rfl rfl ⟨rfl, rfl, rfl, rfl, rfl⟩ rfl rfl rfl rfl rfl (by kernel_rfl) Try.func6 (by kernel_rfl)
    (of_decide_eq_true (by kernel_rfl)) (by unfold Func.isWrapper; first | (rw [if_pos (by decide +kernel)]; kernel_rfl) | (rw [if_neg (by decide +kernel)]; exact ⟨rfl, rfl⟩))
    (fun os started H enc _ => lifted os started H enc)

theorem proved : Rows.PacePlaysSaid := over
#print axioms proved
end Go.Proofs.Ytjllejlgclfahaa.pacePlays
