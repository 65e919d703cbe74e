/-
  slices.IndexFunc, ContainsFunc of envelopes, over any closure.
-/
import Derived.Test.YtcfhkpjheemkgaaGreatDelEnv
namespace Go.Proofs.YtcfhkpjheemkgaaGreat
set_option linter.unusedSectionVars false
set_option linter.unnecessarySimpa false
set_option linter.unusedSimpArgs false
set_option linter.unusedVariables false
open Go.RowKit Go.MapKept

def idxI (q : EnvX → Bool) (E : List EnvX) : Int := match E.findIdx? q with | some i => (i : Int) | none => -1
theorem idx_found {q : EnvX → Bool} {E : List EnvX} {j : Nat} (hj : j < E.length) (hq : q (E.getD j default) = true) (hb : ∀ i, i < j → q (E.getD i default) = false) : idxI q E = (j : Int) := by
  have h : E.findIdx? q = some j := by
    rw [List.findIdx?_eq_some_iff_getElem]
    refine ⟨hj, by simpa [List.getD_eq_getElem?_getD, hj] using hq, fun i hi => ?_⟩
    have := hb i hi
    rw [List.getD_eq_getElem?_getD, List.getElem?_eq_getElem (by omega)] at this
    simpa using this
  unfold idxI; rw [h]
theorem idx_none {q : EnvX → Bool} {E : List EnvX} (hb : ∀ i, i < E.length → q (E.getD i default) = false) : idxI q E = -1 := by
  have h : E.findIdx? q = none := by
    rw [List.findIdx?_eq_none_iff]
    intro x hx
    obtain ⟨i, hi, rfl⟩ := List.getElem_of_mem hx
    have := hb i hi
    rwa [List.getD_eq_getElem?_getD, List.getElem?_eq_getElem hi] at this
  unfold idxI; rw [h]
theorem idx_any {q : EnvX → Bool} {E : List EnvX} : decide (0 ≤ idxI q E) = true ↔ E.any q = true := by
  unfold idxI
  cases h : E.findIdx? q with
  | none =>
    rw [List.findIdx?_eq_none_iff] at h
    simp only [decide_eq_true_eq]
    refine ⟨fun h => by omega, fun ha => ?_⟩
    obtain ⟨x, hx, hq⟩ := List.any_eq_true.1 ha
    rw [h x hx] at hq; cases hq
  | some i =>
    rw [List.findIdx?_eq_some_iff_getElem] at h
    obtain ⟨hi, hq, _⟩ := h
    simp only [decide_eq_true_eq]
    exact ⟨fun _ => List.any_eq_true.2 ⟨_, List.getElem_mem hi, hq⟩, fun _ => by omega⟩
def IdxRes (q : EnvX → Bool) (E : List EnvX) (Z : Nat → World → Prop) (k0 : Nat) (e : Ending) (w' : World) : Prop := e = .returned (.int .i64 (idxI q E)) ∧ ∃ j, j ≤ E.length ∧ Z (k0 + j) w'
section
variable {w : World}

set_option maxRecDepth 100000 in
set_option maxHeartbeats 1000000 in
theorem env_index1 (fn : Nat) (hfn : ∀ (zs : Array Value) (x : World), (callFunc fn zs).run Tryz.prog x = .ok (.enter fn zs) x) (c1 : Value) (q : EnvX → Bool) (E : List EnvX) (ia : Option Addr) (ic n : Nat) (HN : Hid (E.length = n)) (hn : n ≤ 1000000) (Z : Nat → World → Prop) (k0 : Nat) (hI : ∀ j w, Z j w → EnvsAt w ia E)
    (HF : ∀ e ∈ E, ∀ j w, j < k0 + n → Z j w → Calls Tryz.prog fn #[.agg #[.int .i64 e.client, .int .u64 e.nonce, .int .u64 e.fee, .int .i64 e.cipher], c1] w fun r w' => r = .returned (.bool (q e)) ∧ Z (j + 1) w') (h : Z k0 w) :
    Calls Tryz.prog 93 #[.slice ia n ic, .func (.func fn) #[] #[c1]] w (IdxRes q E Z k0) := by
  have H := Lib.hid h
  have HI := Lib.hid hI
  have HF := Lib.hid HF
  clear h hI
  go_enter Tryz.func93, Tryz.ntmps93
  go_wp2_with fail
  go_loopw [8] (fun i wr => ∃ j : Nat, j ≤ n ∧ i = .int .i64 j ∧ Z (k0 + j) wr ∧ Hid (∀ i, i < j → q (E.getD i default) = false)) (fun i _ => n - (intOf i).toNat)
  case atStart => exact ⟨0, by omega, rfl, H.out, (by intro i hi; omega)⟩
  case round =>
    obtain ⟨j, hj, rfl, hR, HB⟩ := hrel
    by_cases hlt : j < n
    · have hjl : (j : Int) < (n : Int) := by omega
      have hjL : j < E.length := by rw [HN.out]; exact hlt
      have hat := HI.out _ wr hR
      obtain ⟨xb, xo, rfl⟩ := hat.some_ hjL
      have hce := hat.get hjL
      have hwj : IntKind.i64.wrap ((j : Int) + 1) = (j : Int) + 1 := by rw [IntKind.wrap_i64]; omega
      have HR := Lib.hid hR
      obtain ⟨x, hx⟩ : ∃ x, x = E.getD j default := ⟨_, rfl⟩
      have HX : Hid (x ∈ E) := by show _ ∈ _; rw [hx, List.getD_eq_getElem?_getD, List.getElem?_eq_getElem hjL]; exact List.getElem_mem hjL
      rw [← hx] at hce
      have HCE : Hid (∀ (k : Nat) (u : Value), ([.int .i64 x.client, .int .u64 x.nonce, .int .u64 x.fee, .int .i64 x.cipher] : List Value)[k]? = some u → wr.cell? ⟨xb, xo + j * 4 + k, none⟩ = some u) := hce
      have HXE := Lib.hid hx
      have HJ : Hid (k0 + j < k0 + n) := by show _ < _; omega
      clear hR hx hat hce
      go_wp2_with (refine wpList_load_at rfl 55 _ rfl xb (xo + j * 4) rfl [.int .i64 x.client, .int .u64 x.nonce, .int .u64 x.fee, .int .i64 x.cipher] _ HCE.out Tryz.underlying55 rfl size4 ?_)
      refine (HF.out x HX.out _ _ HJ.out HR.out).mono ?_
      rintro e w2 ⟨rfl, h2⟩
      have HR2 := Lib.hid h2
      clear h2 HR
      cases hq : q x with
      | false =>
        have HQ := Lib.hid hq
        clear hq
        go_wp2_with fail
        go_roundw
        case rel => exact ⟨j + 1, by omega, by go_num, HR2.out, fun i hi => by
          by_cases e : i = j
          · rw [e, ← HXE.out]; exact HQ.out
          · exact HB.out i (by omega)⟩
        case measure => simp [intOf]; omega
      | true =>
        have HQ : Hid (idxI q E = (j : Int)) := idx_found hjL (by rw [← HXE.out]; exact hq) HB.out
        clear hq hjL
        go_wp2_with fail
        go_ret
        exact ⟨by rw [HQ.out]; rfl, j + 1, by rw [HN.out]; omega, HR2.out⟩
    · obtain rfl : j = n := by omega
      have HR := Lib.hid hR
      have HQ : Hid (idxI q E = -1) := idx_none (by rw [HN.out]; exact HB.out)
      clear hR
      go_wp2_with fail
      go_ret
      exact ⟨by rw [HQ.out]; rfl, j, by rw [HN.out]; omega, HR.out⟩
set_option maxHeartbeats 1000000 in
theorem env_contains1 (fn : Nat) (hfn : ∀ (zs : Array Value) (x : World), (callFunc fn zs).run Tryz.prog x = .ok (.enter fn zs) x) (c1 : Value) (q : EnvX → Bool) (E : List EnvX) (ia : Option Addr) (ic n : Nat) (HN : Hid (E.length = n)) (hn : n ≤ 1000000) (Z : Nat → World → Prop) (k0 : Nat) (hI : ∀ j w, Z j w → EnvsAt w ia E)
    (HF : ∀ e ∈ E, ∀ j w, j < k0 + n → Z j w → Calls Tryz.prog fn #[.agg #[.int .i64 e.client, .int .u64 e.nonce, .int .u64 e.fee, .int .i64 e.cipher], c1] w fun r w' => r = .returned (.bool (q e)) ∧ Z (j + 1) w') (h : Z k0 w) :
    Calls Tryz.prog 87 #[.slice ia n ic, .func (.func fn) #[] #[c1]] w fun e w' => e = .returned (.bool (E.any q)) ∧ ∃ j, j ≤ E.length ∧ Z (k0 + j) w' := by
  have H := Lib.hid (env_index1 fn hfn c1 q E ia ic n HN hn Z k0 hI HF h)
  clear h hI HF hfn
  go_enter Tryz.func87, Tryz.ntmps87
  go_wp2_with fail
  refine H.out.mono ?_
  rintro e w1 ⟨rfl, h1⟩
  have H1 := Lib.hid h1
  clear h1 H
  cases ha : E.any q with
  | true =>
    have hd := idx_any.2 ha
    have HA := Lib.hid ha
    clear ha
    go_wp2_with fail
    go_ret
    exact ⟨by rw [HA.out]; rfl, H1.out⟩
  | false =>
    have hd : decide (0 ≤ idxI q E) = false := by
      have := mt idx_any.1 (by rw [ha]; decide)
      simpa using this
    have HA := Lib.hid ha
    clear ha
    go_wp2_with fail
    go_ret
    exact ⟨by rw [HA.out]; rfl, H1.out⟩

set_option maxRecDepth 100000 in
set_option maxHeartbeats 1000000 in
theorem env_index2 (fn : Nat) (hfn : ∀ (zs : Array Value) (x : World), (callFunc fn zs).run Tryz.prog x = .ok (.enter fn zs) x) (c1 c2 : Value) (q : EnvX → Bool) (E : List EnvX) (ia : Option Addr) (ic n : Nat) (HN : Hid (E.length = n)) (hn : n ≤ 1000000) (Z : Nat → World → Prop) (k0 : Nat) (hI : ∀ j w, Z j w → EnvsAt w ia E)
    (HF : ∀ e ∈ E, ∀ j w, j < k0 + n → Z j w → Calls Tryz.prog fn #[.agg #[.int .i64 e.client, .int .u64 e.nonce, .int .u64 e.fee, .int .i64 e.cipher], c1, c2] w fun r w' => r = .returned (.bool (q e)) ∧ Z (j + 1) w') (h : Z k0 w) :
    Calls Tryz.prog 93 #[.slice ia n ic, .func (.func fn) #[] #[c1, c2]] w (IdxRes q E Z k0) := by
  have H := Lib.hid h
  have HI := Lib.hid hI
  have HF := Lib.hid HF
  clear h hI
  go_enter Tryz.func93, Tryz.ntmps93
  go_wp2_with fail
  go_loopw [8] (fun i wr => ∃ j : Nat, j ≤ n ∧ i = .int .i64 j ∧ Z (k0 + j) wr ∧ Hid (∀ i, i < j → q (E.getD i default) = false)) (fun i _ => n - (intOf i).toNat)
  case atStart => exact ⟨0, by omega, rfl, H.out, (by intro i hi; omega)⟩
  case round =>
    obtain ⟨j, hj, rfl, hR, HB⟩ := hrel
    by_cases hlt : j < n
    · have hjl : (j : Int) < (n : Int) := by omega
      have hjL : j < E.length := by rw [HN.out]; exact hlt
      have hat := HI.out _ wr hR
      obtain ⟨xb, xo, rfl⟩ := hat.some_ hjL
      have hce := hat.get hjL
      have hwj : IntKind.i64.wrap ((j : Int) + 1) = (j : Int) + 1 := by rw [IntKind.wrap_i64]; omega
      have HR := Lib.hid hR
      obtain ⟨x, hx⟩ : ∃ x, x = E.getD j default := ⟨_, rfl⟩
      have HX : Hid (x ∈ E) := by show _ ∈ _; rw [hx, List.getD_eq_getElem?_getD, List.getElem?_eq_getElem hjL]; exact List.getElem_mem hjL
      rw [← hx] at hce
      have HCE : Hid (∀ (k : Nat) (u : Value), ([.int .i64 x.client, .int .u64 x.nonce, .int .u64 x.fee, .int .i64 x.cipher] : List Value)[k]? = some u → wr.cell? ⟨xb, xo + j * 4 + k, none⟩ = some u) := hce
      have HXE := Lib.hid hx
      have HJ : Hid (k0 + j < k0 + n) := by show _ < _; omega
      clear hR hx hat hce
      go_wp2_with (refine wpList_load_at rfl 55 _ rfl xb (xo + j * 4) rfl [.int .i64 x.client, .int .u64 x.nonce, .int .u64 x.fee, .int .i64 x.cipher] _ HCE.out Tryz.underlying55 rfl size4 ?_)
      refine (HF.out x HX.out _ _ HJ.out HR.out).mono ?_
      rintro e w2 ⟨rfl, h2⟩
      have HR2 := Lib.hid h2
      clear h2 HR
      cases hq : q x with
      | false =>
        have HQ := Lib.hid hq
        clear hq
        go_wp2_with fail
        go_roundw
        case rel => exact ⟨j + 1, by omega, by go_num, HR2.out, fun i hi => by
          by_cases e : i = j
          · rw [e, ← HXE.out]; exact HQ.out
          · exact HB.out i (by omega)⟩
        case measure => simp [intOf]; omega
      | true =>
        have HQ : Hid (idxI q E = (j : Int)) := idx_found hjL (by rw [← HXE.out]; exact hq) HB.out
        clear hq hjL
        go_wp2_with fail
        go_ret
        exact ⟨by rw [HQ.out]; rfl, j + 1, by rw [HN.out]; omega, HR2.out⟩
    · obtain rfl : j = n := by omega
      have HR := Lib.hid hR
      have HQ : Hid (idxI q E = -1) := idx_none (by rw [HN.out]; exact HB.out)
      clear hR
      go_wp2_with fail
      go_ret
      exact ⟨by rw [HQ.out]; rfl, j, by rw [HN.out]; omega, HR.out⟩
set_option maxHeartbeats 1000000 in
theorem env_contains2 (fn : Nat) (hfn : ∀ (zs : Array Value) (x : World), (callFunc fn zs).run Tryz.prog x = .ok (.enter fn zs) x) (c1 c2 : Value) (q : EnvX → Bool) (E : List EnvX) (ia : Option Addr) (ic n : Nat) (HN : Hid (E.length = n)) (hn : n ≤ 1000000) (Z : Nat → World → Prop) (k0 : Nat) (hI : ∀ j w, Z j w → EnvsAt w ia E)
    (HF : ∀ e ∈ E, ∀ j w, j < k0 + n → Z j w → Calls Tryz.prog fn #[.agg #[.int .i64 e.client, .int .u64 e.nonce, .int .u64 e.fee, .int .i64 e.cipher], c1, c2] w fun r w' => r = .returned (.bool (q e)) ∧ Z (j + 1) w') (h : Z k0 w) :
    Calls Tryz.prog 87 #[.slice ia n ic, .func (.func fn) #[] #[c1, c2]] w fun e w' => e = .returned (.bool (E.any q)) ∧ ∃ j, j ≤ E.length ∧ Z (k0 + j) w' := by
  have H := Lib.hid (env_index2 fn hfn c1 c2 q E ia ic n HN hn Z k0 hI HF h)
  clear h hI HF hfn
  go_enter Tryz.func87, Tryz.ntmps87
  go_wp2_with fail
  refine H.out.mono ?_
  rintro e w1 ⟨rfl, h1⟩
  have H1 := Lib.hid h1
  clear h1 H
  cases ha : E.any q with
  | true =>
    have hd := idx_any.2 ha
    have HA := Lib.hid ha
    clear ha
    go_wp2_with fail
    go_ret
    exact ⟨by rw [HA.out]; rfl, H1.out⟩
  | false =>
    have hd : decide (0 ≤ idxI q E) = false := by
      have := mt idx_any.1 (by rw [ha]; decide)
      simpa using this
    have HA := Lib.hid ha
    clear ha
    go_wp2_with fail
    go_ret
    exact ⟨by rw [HA.out]; rfl, H1.out⟩
end
end Go.Proofs.YtcfhkpjheemkgaaGreat
