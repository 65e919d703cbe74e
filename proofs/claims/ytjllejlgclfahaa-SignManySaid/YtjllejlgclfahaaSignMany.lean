/-
  SignMany: who signed several things is told of each of them; what is told may be turned. No condition.
-/
import Derived.Test.YtjllejlgclfahaaSign
import Derived.ProofKit
import Derived.OpenShut
import Derived.ChangeOld
namespace Go.Proofs.Ytjllejlgclfahaa.signMany
open Go.RowKit

/-- Who signed what behind k rounds. -/
def fM (who : Int) (k : Nat) (d : Int) : List Int := if 0 ≤ d ∧ d < k then [who] else if 1000 ≤ d ∧ d < 1000 + k then [d - 1000] else []
theorem fM_zero (who : Int) (d : Int) : fM who 0 d = [] := by unfold fM; rw [if_neg (by omega), if_neg (by omega)]
theorem fM_succ (who : Int) (k : Nat) (hk : k < 100) (d : Int) : fM who (k + 1) d = addAt (addAt (fM who k) k who) (1000 + k) k d := by
  unfold addAt
  by_cases h1 : d = 1000 + k
  · rw [if_pos h1, if_neg (by omega)]
    unfold fM addTo
    rw [if_neg (by omega), if_pos (by omega), if_neg (show ¬ ((0 : Int) ≤ 1000 + (k : Int) ∧ (1000 : Int) + k < k) by omega), if_neg (show ¬ ((1000 : Int) ≤ 1000 + (k : Int) ∧ (1000 : Int) + k < 1000 + k) by omega)]
    simp; omega
  · rw [if_neg h1]
    by_cases h2 : d = k
    · rw [if_pos h2]
      unfold fM addTo
      rw [if_pos (by omega), if_neg (show ¬ ((0 : Int) ≤ (k : Int) ∧ (k : Int) < k) by omega), if_neg (show ¬ ((1000 : Int) ≤ (k : Int) ∧ (k : Int) < 1000 + k) by omega)]
      simp
    · rw [if_neg h2]
      unfold fM
      by_cases h3 : 0 ≤ d ∧ d < k
      · rw [if_pos h3, if_pos (by omega)]
      · rw [if_neg h3, if_neg (by omega)]
        by_cases h4 : 1000 ≤ d ∧ d < 1000 + k
        · rw [if_pos h4, if_pos (by omega)]
        · rw [if_neg h4, if_neg (by omega)]
theorem fM_low (who : Int) (k : Nat) (d : Int) (h : 0 ≤ d ∧ d < k) : fM who k d = [who] := by unfold fM; rw [if_pos h]
theorem fM_has (who : Int) (k : Nat) (i : Int) (h : 0 ≤ i ∧ i < k) (hk : k ≤ 100) : i ∈ fM who k (1000 + i) := by unfold fM; rw [if_neg (by omega), if_pos (by omega)]; simp; omega
theorem fM_not (who : Int) (k : Nat) (i : Int) (h : 0 ≤ i ∧ i < k) (hk : k ≤ 100) : i ∉ fM who k (1001 + i) := by
  unfold fM; rw [if_neg (by omega)]
  by_cases h2 : 1000 ≤ 1001 + i ∧ 1001 + i < 1000 + k
  · rw [if_pos h2]; simp; omega
  · rw [if_neg h2]; simp
theorem fM_none (who : Int) (k : Nat) (d x : Int) (h : k ≤ d ∧ d < 1000) : x ∉ fM who k d := by unfold fM; rw [if_neg (by omega), if_neg (by omega)]; simp

set_option maxRecDepth 100000 in
set_option maxHeartbeats 4000000 in
theorem walk (a0 : Int) (w0 : (Lit.int .i64 a0).wf = true) (a1 : Int) (_ : (Lit.int .i64 a1).wf = true) (a2 : Int) (_ : (Lit.int .i64 a2).wf = true) (w : World) :
    Calls Try.prog 11 #[.int .i64 a0, .int .i64 a1, .int .i64 a2] w fun e w' => e = .returned (.bool true) ∧ Below w.heap.size w w' := by
  have hm15 := i64_and15
  obtain ⟨n, hn⟩ : ∃ n : Nat, (n : Int) = a1 % 16 + 1 := ⟨(a1 % 16 + 1).toNat, by omega⟩
  have hn0 : 1 ≤ n ∧ n ≤ 16 := by omega
  obtain ⟨t, ht⟩ : ∃ t : Int, t = a2 % 16 := ⟨_, rfl⟩
  have ht0 : 0 ≤ t ∧ t < 16 := by omega
  have e1 := hn.symm
  have e2 := ht.symm
  have HW := Lib.hid w0
  clear hn ht w0
  go_enter Try.func11, Try.ntmps11
  go_wp2_with fail
  refine (sign_new w).mono ?_
  rintro e w1 ⟨p, F1, rfl, h1, hF1, hB1⟩
  go_wp2_with fail
  go_loopw [8] (fun i wr => ∃ (k : Nat) (F : Nat → Prop), k ≤ n ∧ i = .int .i64 k ∧ Book wr p F (fM a0 k) ∧ (∀ j, F j → w.heap.size ≤ j) ∧ Below w.heap.size w wr) (fun i _ => n - (intOf i).toNat)
  case atStart => exact ⟨0, F1, by omega, rfl, h1.congr (fM_zero a0), hF1, hB1⟩
  case round =>
    obtain ⟨k, F, hk, rfl, hbk, hF, hB⟩ := hrel
    clear h1 hF1 hB1
    by_cases hlt : k < n
    · go_wp2_with fail
      refine (sign_sign p F _ a0 k wr hbk HW.out).mono ?_
      rintro e w2 ⟨rfl, F2, h2, hn2, _, hc2⟩
      have hB2 : Below w.heap.size w w2 := hB.trans (hc2.below hB.size hF)
      have hF2 : ∀ k, F2 k → w.heap.size ≤ k := fun k hk => by rcases hn2 k hk with h | h; exact hF k h; have := hB.size; omega
      clear hbk hB hc2 hF hn2
      go_wp2_with fail
      refine (sign_sign p F2 _ k (1000 + k) w2 h2 (WalkArith.wf_i64 (by omega))).mono ?_
      rintro e w3 ⟨rfl, F3, h3, hn3, _, hc3⟩
      have hB3 : Below w.heap.size w w3 := hB2.trans (hc3.below hB2.size hF2)
      have hF3 : ∀ k, F3 k → w.heap.size ≤ k := fun k hk => by rcases hn3 k hk with h | h; exact hF2 k h; have := hB2.size; omega
      clear h2 hB2 hc3 hF2 hn3
      go_wp2_with fail
      go_roundw
      case rel => exact ⟨k + 1, F3, by omega, by go_num, h3.congr (fM_succ a0 k (by omega)), hF3, hB3⟩
      case measure => simp [intOf]; omega
    · have hkn : k = n := by omega
      subst hkn
      go_wp2_with fail
      obtain ⟨wo, hwo⟩ : ∃ wo : World, wo = wr := ⟨_, rfl⟩
      subst hwo
      go_loopw [9] (fun i wr => ∃ (j : Nat) (F : Nat → Prop), j ≤ k ∧ i = .int .i64 j ∧ Book wr p F (fM a0 k) ∧ (∀ j, F j → w.heap.size ≤ j) ∧ Below w.heap.size w wr) (fun i _ => k - (intOf i).toNat)
      case atStart => exact ⟨0, F, by omega, rfl, hbk, hF, hB⟩
      case round =>
        obtain ⟨j, F', hj, rfl, hbk', hF', hB'⟩ := hrel
        clear hbk hF hB
        by_cases hlt2 : j < k
        · have hs : (fM a0 k j).length * 8 ≤ 140737488355328 := by rw [fM_low a0 k j (by omega), List.length_singleton]; omega
          go_wp2_with fail
          refine (sign_all p F' _ j wr hbk' hs).mono ?_
          intro e w2 h2
          rw [fM_low a0 k j (by omega)] at h2
          obtain ⟨b, cap, cs, rfl, hb, hbl, hcl, hfr, hB2⟩ := h2.one
          have h2' := hbk'.below hB2
          go_wp2_with fail
          refine (sign_has_yes p F' _ j (1000 + j) w2 h2' (fM_has a0 k j (by omega) (by omega))).mono ?_
          rintro e _ ⟨rfl, rfl⟩
          go_wp2_with fail
          refine (sign_has_no p F' _ j (1001 + j) w2 h2' (fM_not a0 k j (by omega) (by omega))).mono ?_
          rintro e _ ⟨rfl, rfl⟩
          go_wp2_with fail
          have hlt3 := hbk'.lt
          have hsz := hB2.size
          refine (sign_all p F' _ j _ (h2'.chg ((Chg.refl (· = b) _).put 0 _) (fun q hq e => by have := hlt3 q hq; omega)) hs).mono ?_
          intro e w3 h3
          rw [fM_low a0 k j (by omega)] at h3
          obtain ⟨b', cap', cs', rfl, hb', hbl', hcl', hfr', hB3⟩ := h3.one
          have h3' := (h2'.chg ((Chg.refl (· = b) _).put 0 (.int .i64 (wrap64 (a0 + 1)))) (fun q hq e => by have := hlt3 q hq; omega)).below hB3
          have hB4 : Below w.heap.size w w3 := hB'.trans ((hB2.mono hB'.size).trans (Below.trans (Below.setCell (Below.refl _ _) (by show w.heap.size ≤ b; have := hB'.size; omega) _) (hB3.mono (by have := hB'.size; simp; omega))))
          clear hbk' h2' hB2 hB3 hbl hcl hfr hbl' hlt3 hfr' hB' h2 h3
          go_wp2_with fail
          go_roundw
          case rel => exact ⟨j + 1, F', by omega, by go_num, h3', hF', hB4⟩
          case measure => simp [intOf]; omega
        · by_cases htk : t < k
          · go_wp2_with fail
            refine (sign_has_yes p F' _ a0 t wr hbk' (by rw [fM_low a0 k t (by omega)]; simp)).mono ?_
            rintro e _ ⟨rfl, rfl⟩
            go_wp2_with fail
            refine (sign_awake wr).mono ?_
            rintro e w3 ⟨rfl, hB3⟩
            go_wp2_with fail
            go_ret
            exact ⟨rfl, hB'.trans (hB3.mono hB'.size)⟩
          · have hdt : decide (t < (k : Int)) = false := by simpa using htk
            have hge : decide (1000 ≤ t) = false := by simp; omega
            by_cases hat : a0 = t - 1000
            · have hb1 : (a0 == t - 1000) = true := by simpa using hat
              have HA := Lib.hid hat
              clear hat
              go_wp2_with fail
              refine (sign_has_no p F' _ a0 t wr hbk' (fM_none a0 k t a0 (by omega))).mono ?_
              rintro e _ ⟨rfl, rfl⟩
              go_wp2_with fail
              refine (sign_awake wr).mono ?_
              rintro e w3 ⟨rfl, hB3⟩
              go_wp2_with fail
              go_ret
              exact ⟨rfl, hB'.trans (hB3.mono hB'.size)⟩
            · have hb1 : (a0 == t - 1000) = false := by simpa using hat
              have HA := Lib.hid hat
              clear hat
              go_wp2_with fail
              refine (sign_has_no p F' _ a0 t wr hbk' (fM_none a0 k t a0 (by omega))).mono ?_
              rintro e _ ⟨rfl, rfl⟩
              go_wp2_with fail
              refine (sign_awake wr).mono ?_
              rintro e w3 ⟨rfl, hB3⟩
              go_wp2_with fail
              go_ret
              exact ⟨rfl, hB'.trans (hB3.mono hB'.size)⟩

/-! ### the row's step -/
open Go.ChangeShapes Go.WideShapes Go.ChangeAt
set_option linter.unusedVariables false
theorem own : ownKnob Try.prog.godebug = none := by kernel_rfl
theorem laidOut : laidOutB Try.prog = true := by kernel_rfl
set_option maxRecDepth 100000 in
theorem lifted (os : Os) (started : os.Started) (H : Type) (enc : TypeId × Value → H) :
    ReturnsInHanded {} Try.checked os 11 .any (Rows.signManySpec.pre6 enc Try.prog Try.f11 Rows.signManyRow.domain false) (Rows.signManySpec.post enc Try.prog Try.f11 false true false false) := by
  refine returnsInHanded_of_change (C := Try.checked) own started (by kernel_rfl) Try.func11
    (ChangeSpec.witness6 (enc := enc) (C := Try.checked) false ⟨#[], #[.int .i64 0, .int .i64 0, .int .i64 0], []⟩ 8 (by kernel_rfl) (by kernel_rfl) (by kernel_rfl) (by kernel_rfl)) ?_
  intro W base args ds gs before hval0 hW hcnd _
  have hval : ∀ (j : Nat) t v, Try.f11.params[j]? = some t → args[j]? = some v → Value.okWide Try.prog W .any base t v := hval0
  have hW' := hW
  obtain ⟨p, q, hA0, hV, rfl, hfz, hnd⟩ := hW
  have hA : DataW.TrodAll enc Try.prog W 0 (fun _ => true) true Try.f11.params.toList args.toList ds p := hA0
  rw [Try.params11] at hA hval
  obtain ⟨v0, vs0, d0, ds0, p0, q0, hargs, rfl, rfl, h0, r0⟩ := trodAll_cons hA
  obtain ⟨v1, vs1, d1, ds1, p1, q1, rfl, rfl, rfl, h1, r1⟩ := trodAll_cons r0
  obtain ⟨v2, vs2, d2, ds2, p2, q2, rfl, rfl, rfl, h2, r2⟩ := trodAll_cons r1
  obtain ⟨rfl, rfl, rfl⟩ := trodAll_nil r2
  obtain rfl : args = #[v0, v1, v2] := by cases args; simp_all
  obtain ⟨rfl, rfl⟩ := trodVars_none hV
  obtain ⟨a0, rfl, rfl, rfl, w0⟩ := open_int Try.underlying3 (hval 0 3 v0 rfl rfl) h0
  obtain ⟨a1, rfl, rfl, rfl, w1⟩ := open_int Try.underlying3 (hval 1 3 v1 rfl rfl) h1
  obtain ⟨a2, rfl, rfl, rfl, w2⟩ := open_int Try.underlying3 (hval 2 3 v2 rfl rfl) h2
  clear hA0 hval0
  refine (walk a0 w0 a1 w1 a2 w2 W).mono fun e W' ⟨he, bel⟩ => ?_
  subst he
  exact ⟨_, rfl, _, _, _, [], _, [], hW', trodAll_mk1 (shut_bool Try.underlying4 _), (trodAll_cons_mk (shut_int Try.underlying3 w0) (trodAll_cons_mk (shut_int Try.underlying3 w1) (trodAll_cons_mk (shut_int Try.underlying3 w2) trodAll_mk0))), rfl, bel.frame _, fun h => by cases h⟩

theorem over : Rows.signManyRow.holds Try.pinned (OpenSpec.ofChange Rows.signManySpec) :=
  OpenClaim.holds_of_wide 11 Try.f11 rfl rfl rfl rfl rfl rfl rfl ⟨rfl, rfl, rfl, rfl, rfl⟩ rfl rfl rfl rfl rfl (by kernel_rfl) Try.func11 (by kernel_rfl)
    (of_decide_eq_true (by kernel_rfl)) (by unfold Func.isWrapper; first | (rw [if_pos (by decide +kernel)]; kernel_rfl) | (rw [if_neg (by decide +kernel)]; exact ⟨rfl, rfl⟩))
    (fun os started H enc _ => lifted os started H enc)

theorem proved : Rows.SignManySaid := over
#print axioms proved
end Go.Proofs.Ytjllejlgclfahaa.signMany
