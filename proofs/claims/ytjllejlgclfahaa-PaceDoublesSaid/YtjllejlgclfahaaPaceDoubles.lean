/-
  PaceDoubles: each view that is entered slowly has a clock twice as long as the one ahead, up to the most. No condition.
-/
import Derived.Test.YtjllejlgclfahaaPace
import Derived.ProofKit
import Derived.OpenShut
import Derived.ChangeOld
namespace Go.Proofs.Ytjllejlgclfahaa.paceDoubles
open Go.RowKit

set_option maxHeartbeats 4000000 in
theorem walk (a0 : Int) (_ : (Lit.int .i64 a0).wf = true) (a1 : Int) (_ : (Lit.int .i64 a1).wf = true) (a2 : Int) (_ : (Lit.int .i64 a2).wf = true) (a3 : Int) (_ : (Lit.int .i64 a3).wf = true) (w : World) :
    Calls Try.prog 3 #[.int .i64 a0, .int .i64 a1, .int .i64 a2, .int .i64 a3] w fun e w' => e = .returned (.bool true) ∧ Below w.heap.size w w' := by
  have hm31 := i64_and31
  have hm3 := i64_and3
  have hm255 := i64_and255
  have hm15 := i64_and15
  obtain ⟨base, hbase⟩ : ∃ x, x = a0 % 32 := ⟨_, rfl⟩
  obtain ⟨most, hmost⟩ : ∃ x, x = a1 % 256 := ⟨_, rfl⟩
  obtain ⟨n, hn⟩ : ∃ x, x = a2 % 16 := ⟨_, rfl⟩
  have hb0 : 0 ≤ base ∧ base < 32 := by omega
  have hm0 : 0 ≤ most ∧ most < 256 := by omega
  have hn0 : 0 ≤ n ∧ n < 16 := by omega
  have e0 := hbase.symm
  have e1 := hmost.symm
  have e2 := hn.symm
  clear hbase hmost hn
  go_enter Try.func3, Try.ntmps3
  go_wp2_with fail
  refine (pace_new _ _ _ _ _ _ _ _ _).mono ?_
  rintro e w1 ⟨b, rfl, hb, hB1, h1⟩
  replace h1 : PaceAt w1 b (base + 1) (max (most + 1) (base + 1)) 1 (base + 1) 0 0 := by
    have x1 : pBase (base + 1) = base + 1 := by unfold pBase; omega
    have x2 : pMost (base + 1) (most + 1) = max (most + 1) (base + 1) := by unfold pMost; rw [x1]; omega
    rw [x1, x2] at h1; exact h1
  go_wp2_with fail
  go_loopw [10, 11, 12] (fun view long i wr => ∃ (k : Nat) (v l : Int), (k : Int) ≤ n ∧ i = .int .i64 k ∧ view = .int .i64 v ∧ long = .int .i64 l ∧ 1 ≤ v ∧ v ≤ 1 + 4 * k ∧ 1 ≤ l ∧ l ≤ 256 ∧ PaceAt wr b (base + 1) (max (most + 1) (base + 1)) v l 0 0 ∧ Below w.heap.size w wr) (fun _ _ i _ => (n - intOf i).toNat)
  case atStart => exact ⟨0, 1, base + 1, by omega, rfl, rfl, rfl, by omega, by omega, by omega, by omega, h1, hB1⟩
  case round =>
    obtain ⟨k, v, l, hk, rfl, rfl, rfl, hv1, hv2, hl1, hl2, hp, hB⟩ := hrel
    by_cases hlt : (k : Int) < n
    · go_wp2_with fail
      all_goals
        refine (pace_enter_slow b _ _ v l 0 0 _ wr hp (by omega) (by omega) (by omega)).mono ?_
        rintro e w2 ⟨rfl, h2, hc2⟩
        first
          | rw [show min (2 * l) (max (most + 1) (base + 1)) = 2 * l from by omega] at h2
          | rw [show min (2 * l) (max (most + 1) (base + 1)) = most + 1 from by omega] at h2
          | rw [show min (2 * l) (max (most + 1) (base + 1)) = base + 1 from by omega] at h2
        have hB2 : Below w.heap.size w w2 := hB.trans (hc2.below1 hB.size hb)
        clear hB hc2 hp
        go_wp2_with fail
        refine (pace_long _ _ _ _ _ _ _ _ h2).mono ?_
        rintro e _ ⟨rfl, rfl⟩
        go_wp2_with fail
        refine (pace_view _ _ _ _ _ _ _ _ h2).mono ?_
        rintro e _ ⟨rfl, rfl⟩
        go_wp2_with fail
        refine (pace_enter_no _ _ _ _ _ _ _ _ _ _ h2 (by omega)).mono ?_
        rintro e _ ⟨rfl, rfl⟩
        go_wp2_with fail
        refine (pace_enter_no _ _ _ _ _ _ _ _ _ _ h2 (by omega)).mono ?_
        rintro e _ ⟨rfl, rfl⟩
        go_wp2_with fail
        go_roundw
        case rel => exact ⟨k + 1, _, _, by omega, by go_num, rfl, rfl, by omega, by omega, by omega, by omega, h2, hB2⟩
        case measure => simp [intOf]; omega
    · go_wp2_with fail
      refine (pace_enter_fast _ _ _ _ _ _ _ _ _ hp (by omega)).mono ?_
      rintro e w2 ⟨rfl, h2, hc2⟩
      have hB2 : Below w.heap.size w w2 := hB.trans (hc2.below1 hB.size hb)
      clear hB hc2 hp
      go_wp2_with fail
      refine (pace_long _ _ _ _ _ _ _ _ h2).mono ?_
      rintro e _ ⟨rfl, rfl⟩
      go_wp2_with fail
      refine (pace_awake _).mono ?_
      rintro e w3 ⟨rfl, hB3⟩
      go_wp2_with fail
      go_ret
      exact ⟨rfl, hB2.trans (hB3.mono hB2.size)⟩

/-! ### the row's step -/
open Go.ChangeShapes Go.WideShapes Go.ChangeAt
set_option linter.unusedVariables false
theorem own : ownKnob Try.prog.godebug = none := by kernel_rfl
theorem laidOut : laidOutB Try.prog = true := by kernel_rfl
set_option maxRecDepth 100000 in
theorem lifted (os : Os) (started : os.Started) (H : Type) (enc : TypeId × Value → H) :
    ReturnsInHanded {} Try.checked os 3 .any (Rows.paceDoublesSpec.pre6 enc Try.prog Try.f3 Rows.paceDoublesRow.domain false) (Rows.paceDoublesSpec.post enc Try.prog Try.f3 false true false false) := by
  refine returnsInHanded_of_change (C := Try.checked) own started (by kernel_rfl) Try.func3
    (ChangeSpec.witness6 (enc := enc) (C := Try.checked) false ⟨#[], #[.int .i64 0, .int .i64 0, .int .i64 0, .int .i64 0], []⟩ 8 (by kernel_rfl) (by kernel_rfl) (by kernel_rfl) (by kernel_rfl)) ?_
  intro W base args ds gs before hval0 hW hcnd _
  have hval : ∀ (j : Nat) t v, Try.f3.params[j]? = some t → args[j]? = some v → Value.okWide Try.prog W .any base t v := hval0
  have hW' := hW
  obtain ⟨p, q, hA0, hV, rfl, hfz, hnd⟩ := hW
  have hA : DataW.TrodAll enc Try.prog W 0 (fun _ => true) true Try.f3.params.toList args.toList ds p := hA0
  rw [Try.params3] at hA hval
  obtain ⟨v0, vs0, d0, ds0, p0, q0, hargs, rfl, rfl, h0, r0⟩ := trodAll_cons hA
  obtain ⟨v1, vs1, d1, ds1, p1, q1, rfl, rfl, rfl, h1, r1⟩ := trodAll_cons r0
  obtain ⟨v2, vs2, d2, ds2, p2, q2, rfl, rfl, rfl, h2, r2⟩ := trodAll_cons r1
  obtain ⟨v3, vs3, d3, ds3, p3, q3, rfl, rfl, rfl, h3, r3⟩ := trodAll_cons r2
  obtain ⟨rfl, rfl, rfl⟩ := trodAll_nil r3
  obtain rfl : args = #[v0, v1, v2, v3] := by cases args; simp_all
  obtain ⟨rfl, rfl⟩ := trodVars_none hV
  obtain ⟨a0, rfl, rfl, rfl, w0⟩ := open_int Try.underlying3 (hval 0 3 v0 rfl rfl) h0
  obtain ⟨a1, rfl, rfl, rfl, w1⟩ := open_int Try.underlying3 (hval 1 3 v1 rfl rfl) h1
  obtain ⟨a2, rfl, rfl, rfl, w2⟩ := open_int Try.underlying3 (hval 2 3 v2 rfl rfl) h2
  obtain ⟨a3, rfl, rfl, rfl, w3⟩ := open_int Try.underlying3 (hval 3 3 v3 rfl rfl) h3
  clear hA0 hval0
  refine (walk a0 w0 a1 w1 a2 w2 a3 w3 W).mono fun e W' ⟨he, bel⟩ => ?_
  subst he
  exact ⟨_, rfl, _, _, _, [], _, [], hW', trodAll_mk1 (shut_bool Try.underlying4 _), (trodAll_cons_mk (shut_int Try.underlying3 w0) (trodAll_cons_mk (shut_int Try.underlying3 w1) (trodAll_cons_mk (shut_int Try.underlying3 w2) (trodAll_cons_mk (shut_int Try.underlying3 w3) trodAll_mk0)))), rfl, bel.frame _, fun h => by cases h⟩

theorem over : Rows.paceDoublesRow.holds Try.pinned (OpenSpec.ofChange Rows.paceDoublesSpec) :=
  OpenClaim.holds_of_wide 3 Try.f3 rfl rfl rfl rfl rfl rfl rfl ⟨rfl, rfl, rfl, rfl, rfl⟩ rfl rfl rfl rfl rfl (by kernel_rfl) Try.func3 (by kernel_rfl)
    (of_decide_eq_true (by kernel_rfl)) (by unfold Func.isWrapper; first | (rw [if_pos (by decide +kernel)]; kernel_rfl) | (rw [if_neg (by decide +kernel)]; exact ⟨rfl, rfl⟩))
    (fun os started H enc _ => lifted os started H enc)

theorem proved : Rows.PaceDoublesSaid := over
#print axioms proved
end Go.Proofs.Ytjllejlgclfahaa.paceDoubles
