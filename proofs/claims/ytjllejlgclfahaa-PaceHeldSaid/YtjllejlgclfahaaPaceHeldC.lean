/-
  PaceHeld: clocks below 1, or too long, are held: the row of nine clocks, one walk each. No condition.
-/
import Derived.Test.YtjllejlgclfahaaPace
import Derived.ProofKit
import Derived.OpenShut
import Derived.ChangeOld
namespace Go.Proofs.Ytjllejlgclfahaa.paceHeld
open Go.RowKit

set_option maxRecDepth 100000 in
set_option maxHeartbeats 4000000 in
theorem walk6 (a0 : Int) (w : World) (h9 : a0 % 256 % 9 = 6) :
    Calls Try.prog 5 #[.int .i64 a0] w fun e w' => e = .returned (.bool true) ∧ Below w.heap.size w w' := by
  have hm := i64_and255 a0
  have hk0 := Int.emod_nonneg a0 (show (256 : Int) ≠ 0 by omega)
  go_enter Try.func5, Try.ntmps5
  go_wp2_with fail
  refine (pace_new _ _ _ _ _ _ _ _ _).mono ?_
  rintro e w1 ⟨b, rfl, hb, hB1, h1⟩
  have h1 : PaceAt w1 b 300 1000 1 300 0 0 := h1
  have hbel : Below w.heap.size w w1 := (Below.trans (by repeat (first | exact Below.refl _ _ | refine Below.alloc ?_ (by simp) _ | refine Below.setCell ?_ (by simp) _)) (hB1.mono (by simp; omega)))
  have q2 : w1.cell? ⟨w.heap.size + 1, 2, none⟩ = some (.int .i64 300) := (hB1.cell (p := ⟨w.heap.size + 1, 2, none⟩) (by simp)).trans (by go_simp)
  have q3 : w1.cell? ⟨w.heap.size + 1, 3, none⟩ = some (.int .i64 600) := (hB1.cell (p := ⟨w.heap.size + 1, 3, none⟩) (by simp)).trans (by go_simp)
  have q4 : w1.cell? ⟨w.heap.size + 1, 4, none⟩ = some (.int .i64 1000) := (hB1.cell (p := ⟨w.heap.size + 1, 4, none⟩) (by simp)).trans (by go_simp)
  have hb2 : w.heap.size + 1 < b := by simp at hb; omega
  clear hB1 hb
  go_wp2_with fail
  refine (pace_long _ _ _ _ _ _ _ _ h1).mono ?_
  rintro e _ ⟨rfl, rfl⟩
  go_wp2_with fail
  refine (pace_enter_slow _ _ _ _ _ _ _ _ _ h1 (by omega) (by omega) (by omega)).mono ?_
  rintro e w2 ⟨rfl, h2, hc2⟩
  have h2 : PaceAt w2 b 300 1000 2 600 0 0 := h2
  have q2 := hc2.cell q2 (by simp; omega)
  have q3 := hc2.cell q3 (by simp; omega)
  have q4 := hc2.cell q4 (by simp; omega)
  go_wp2_with fail
  refine (pace_long _ _ _ _ _ _ _ _ h2).mono ?_
  rintro e _ ⟨rfl, rfl⟩
  go_wp2_with fail
  refine (pace_enter_slow _ _ _ _ _ _ _ _ _ h2 (by omega) (by omega) (by omega)).mono ?_
  rintro e w3 ⟨rfl, h3, hc3⟩
  have h3 : PaceAt w3 b 300 1000 3 1000 0 0 := h3
  have q2 := hc3.cell q2 (by simp; omega)
  have q3 := hc3.cell q3 (by simp; omega)
  have q4 := hc3.cell q4 (by simp; omega)
  have hbel3 : Below w.heap.size w w3 := hbel.trans ((hc2.below1 hbel.size (by omega)).trans (hc3.below1 (by have := hbel.size; have := hc2.size; omega) (by omega)))
  go_wp2_with fail
  have r2 := At.cell (S := none_) q2 id
  have r3 := At.cell (S := none_) q3 id
  have r4 := At.cell (S := none_) q4 id
  have h3 : ∀ x : At none_ w3, PaceAt x.now b 300 1000 3 1000 0 0 := fun x => x.chg.blk h3 id
  refine wp_region_at none_ (by kernel_rfl) (by kernel_rfl) ?_
  repeat (go_big_quiet_step (first | (go_at_call 20; exact At.call_same _ (pace_long _ _ _ _ _ _ _ _ (h3 _))) | (go_at_call 22; exact At.call_below _ (pace_awake _))))
  refine wpQuiet_nil ?_
  rintro _ ⟨x, rfl⟩
  go_wp2
  go_ret
  exact ⟨rfl, hbel3.trans (x.chg.below hbel3.size (fun _ h => h.elim))⟩

set_option maxRecDepth 100000 in
set_option maxHeartbeats 4000000 in
theorem walk7 (a0 : Int) (w : World) (h9 : a0 % 256 % 9 = 7) :
    Calls Try.prog 5 #[.int .i64 a0] w fun e w' => e = .returned (.bool true) ∧ Below w.heap.size w w' := by
  have hm := i64_and255 a0
  have hk0 := Int.emod_nonneg a0 (show (256 : Int) ≠ 0 by omega)
  go_enter Try.func5, Try.ntmps5
  go_wp2_with fail
  refine (pace_new _ _ _ _ _ _ _ _ _).mono ?_
  rintro e w1 ⟨b, rfl, hb, hB1, h1⟩
  have h1 : PaceAt w1 b 1 1 1 1 0 0 := h1
  have hbel : Below w.heap.size w w1 := (Below.trans (by repeat (first | exact Below.refl _ _ | refine Below.alloc ?_ (by simp) _ | refine Below.setCell ?_ (by simp) _)) (hB1.mono (by simp; omega)))
  have q2 : w1.cell? ⟨w.heap.size + 1, 2, none⟩ = some (.int .i64 1) := (hB1.cell (p := ⟨w.heap.size + 1, 2, none⟩) (by simp)).trans (by go_simp)
  have q3 : w1.cell? ⟨w.heap.size + 1, 3, none⟩ = some (.int .i64 1) := (hB1.cell (p := ⟨w.heap.size + 1, 3, none⟩) (by simp)).trans (by go_simp)
  have q4 : w1.cell? ⟨w.heap.size + 1, 4, none⟩ = some (.int .i64 1) := (hB1.cell (p := ⟨w.heap.size + 1, 4, none⟩) (by simp)).trans (by go_simp)
  have hb2 : w.heap.size + 1 < b := by simp at hb; omega
  clear hB1 hb
  go_wp2_with fail
  refine (pace_long _ _ _ _ _ _ _ _ h1).mono ?_
  rintro e _ ⟨rfl, rfl⟩
  go_wp2_with fail
  refine (pace_enter_slow _ _ _ _ _ _ _ _ _ h1 (by omega) (by omega) (by omega)).mono ?_
  rintro e w2 ⟨rfl, h2, hc2⟩
  have h2 : PaceAt w2 b 1 1 2 1 0 0 := h2
  have q2 := hc2.cell q2 (by simp; omega)
  have q3 := hc2.cell q3 (by simp; omega)
  have q4 := hc2.cell q4 (by simp; omega)
  go_wp2_with fail
  refine (pace_long _ _ _ _ _ _ _ _ h2).mono ?_
  rintro e _ ⟨rfl, rfl⟩
  go_wp2_with fail
  refine (pace_enter_slow _ _ _ _ _ _ _ _ _ h2 (by omega) (by omega) (by omega)).mono ?_
  rintro e w3 ⟨rfl, h3, hc3⟩
  have h3 : PaceAt w3 b 1 1 3 1 0 0 := h3
  have q2 := hc3.cell q2 (by simp; omega)
  have q3 := hc3.cell q3 (by simp; omega)
  have q4 := hc3.cell q4 (by simp; omega)
  have hbel3 : Below w.heap.size w w3 := hbel.trans ((hc2.below1 hbel.size (by omega)).trans (hc3.below1 (by have := hbel.size; have := hc2.size; omega) (by omega)))
  go_wp2_with fail
  have r2 := At.cell (S := none_) q2 id
  have r3 := At.cell (S := none_) q3 id
  have r4 := At.cell (S := none_) q4 id
  have h3 : ∀ x : At none_ w3, PaceAt x.now b 1 1 3 1 0 0 := fun x => x.chg.blk h3 id
  refine wp_region_at none_ (by kernel_rfl) (by kernel_rfl) ?_
  repeat (go_big_quiet_step (first | (go_at_call 20; exact At.call_same _ (pace_long _ _ _ _ _ _ _ _ (h3 _))) | (go_at_call 22; exact At.call_below _ (pace_awake _))))
  refine wpQuiet_nil ?_
  rintro _ ⟨x, rfl⟩
  go_wp2
  go_ret
  exact ⟨rfl, hbel3.trans (x.chg.below hbel3.size (fun _ h => h.elim))⟩

set_option maxRecDepth 100000 in
set_option maxHeartbeats 4000000 in
theorem walk8 (a0 : Int) (w : World) (h9 : a0 % 256 % 9 = 8) :
    Calls Try.prog 5 #[.int .i64 a0] w fun e w' => e = .returned (.bool true) ∧ Below w.heap.size w w' := by
  have hm := i64_and255 a0
  have hk0 := Int.emod_nonneg a0 (show (256 : Int) ≠ 0 by omega)
  go_enter Try.func5, Try.ntmps5
  go_wp2_with fail
  refine (pace_new _ _ _ _ _ _ _ _ _).mono ?_
  rintro e w1 ⟨b, rfl, hb, hB1, h1⟩
  have h1 : PaceAt w1 b 10 25 1 10 0 0 := h1
  have hbel : Below w.heap.size w w1 := (Below.trans (by repeat (first | exact Below.refl _ _ | refine Below.alloc ?_ (by simp) _ | refine Below.setCell ?_ (by simp) _)) (hB1.mono (by simp; omega)))
  have q2 : w1.cell? ⟨w.heap.size + 1, 2, none⟩ = some (.int .i64 10) := (hB1.cell (p := ⟨w.heap.size + 1, 2, none⟩) (by simp)).trans (by go_simp)
  have q3 : w1.cell? ⟨w.heap.size + 1, 3, none⟩ = some (.int .i64 20) := (hB1.cell (p := ⟨w.heap.size + 1, 3, none⟩) (by simp)).trans (by go_simp)
  have q4 : w1.cell? ⟨w.heap.size + 1, 4, none⟩ = some (.int .i64 25) := (hB1.cell (p := ⟨w.heap.size + 1, 4, none⟩) (by simp)).trans (by go_simp)
  have hb2 : w.heap.size + 1 < b := by simp at hb; omega
  clear hB1 hb
  go_wp2_with fail
  refine (pace_long _ _ _ _ _ _ _ _ h1).mono ?_
  rintro e _ ⟨rfl, rfl⟩
  go_wp2_with fail
  refine (pace_enter_slow _ _ _ _ _ _ _ _ _ h1 (by omega) (by omega) (by omega)).mono ?_
  rintro e w2 ⟨rfl, h2, hc2⟩
  have h2 : PaceAt w2 b 10 25 2 20 0 0 := h2
  have q2 := hc2.cell q2 (by simp; omega)
  have q3 := hc2.cell q3 (by simp; omega)
  have q4 := hc2.cell q4 (by simp; omega)
  go_wp2_with fail
  refine (pace_long _ _ _ _ _ _ _ _ h2).mono ?_
  rintro e _ ⟨rfl, rfl⟩
  go_wp2_with fail
  refine (pace_enter_slow _ _ _ _ _ _ _ _ _ h2 (by omega) (by omega) (by omega)).mono ?_
  rintro e w3 ⟨rfl, h3, hc3⟩
  have h3 : PaceAt w3 b 10 25 3 25 0 0 := h3
  have q2 := hc3.cell q2 (by simp; omega)
  have q3 := hc3.cell q3 (by simp; omega)
  have q4 := hc3.cell q4 (by simp; omega)
  have hbel3 : Below w.heap.size w w3 := hbel.trans ((hc2.below1 hbel.size (by omega)).trans (hc3.below1 (by have := hbel.size; have := hc2.size; omega) (by omega)))
  go_wp2_with fail
  have r2 := At.cell (S := none_) q2 id
  have r3 := At.cell (S := none_) q3 id
  have r4 := At.cell (S := none_) q4 id
  have h3 : ∀ x : At none_ w3, PaceAt x.now b 10 25 3 25 0 0 := fun x => x.chg.blk h3 id
  refine wp_region_at none_ (by kernel_rfl) (by kernel_rfl) ?_
  repeat (go_big_quiet_step (first | (go_at_call 20; exact At.call_same _ (pace_long _ _ _ _ _ _ _ _ (h3 _))) | (go_at_call 22; exact At.call_below _ (pace_awake _))))
  refine wpQuiet_nil ?_
  rintro _ ⟨x, rfl⟩
  go_wp2
  go_ret
  exact ⟨rfl, hbel3.trans (x.chg.below hbel3.size (fun _ h => h.elim))⟩

end Go.Proofs.Ytjllejlgclfahaa.paceHeld
