/-
  A world that knows more digests than another, and is alike else; who signed a row of bytes.
-/
import Derived.Test.YtcfhkpjheemkgaaQcOk
namespace Go.Proofs.Ytcfhkpjheemkgaa
set_option linter.unusedSectionVars false
set_option linter.unusedSimpArgs false
set_option linter.unusedVariables false
open Go.RowKit Go.MapKept

/-- Nobody signed a digest that is none. -/
def WX.Ok (X : WX) : Prop := ∀ d, (X.T.length : Int) < d → X.f d = []
/-- Who signed a row of bytes. -/
def sg (X : WX) (x : List UInt8) : List Int := X.f (dg X.T x)
/-- At most n digests more. -/
def WX.Ext (n : Nat) (X X' : WX) : Prop := ∃ ext, X' = { X with T := X.T ++ ext } ∧ ext.length ≤ n
section
variable {X Y Z : WX} {n k : Nat} {x y : List UInt8}
theorem WX.Ext.refl (X : WX) : X.Ext 0 X := ⟨[], by simp, Nat.le_refl _⟩
theorem WX.Ext.trans (h : X.Ext n Y) (g : Y.Ext k Z) : X.Ext (n + k) Z := by
  obtain ⟨a, rfl, ha⟩ := h
  obtain ⟨b, rfl, hb⟩ := g
  exact ⟨a ++ b, by simp, by rw [List.length_append]; omega⟩
theorem WX.Ext.mono (h : X.Ext n Y) (hk : n ≤ k) : X.Ext k Y := by
  obtain ⟨a, rfl, ha⟩ := h; exact ⟨a, rfl, Nat.le_trans ha hk⟩
theorem WX.ext_digest (X : WX) (x : List UInt8) : X.Ext 1 (X.digest x) := by
  unfold WX.digest addT; split
  · exact ⟨[], by simp, by simp⟩
  · exact ⟨[x], rfl, by simp⟩
theorem WX.Ext.len (h : X.Ext n Y) : X.T.length ≤ Y.T.length ∧ Y.T.length ≤ X.T.length + n := by
  obtain ⟨a, rfl, ha⟩ := h; simp only [List.length_append]; omega
theorem WX.Ext.mem (h : X.Ext n Y) (hx : x ∈ X.T) : x ∈ Y.T := by
  obtain ⟨a, rfl, ha⟩ := h; exact List.mem_append_left _ hx
theorem WX.Ext.dg (h : X.Ext n Y) (hx : x ∈ X.T) : dg Y.T x = dg X.T x := by
  obtain ⟨a, rfl, ha⟩ := h
  unfold Go.Proofs.Ytcfhkpjheemkgaa.dg
  rw [List.idxOf_append, if_pos hx]
theorem WX.Ext.f (h : X.Ext n Y) : Y.f = X.f := by obtain ⟨a, rfl, _⟩ := h; rfl
theorem WX.Ext.C (h : X.Ext n Y) : Y.C = X.C := by obtain ⟨a, rfl, _⟩ := h; rfl
theorem WX.Ext.need (h : X.Ext n Y) : Y.need = X.need := by obtain ⟨a, rfl, _⟩ := h; rfl
theorem WX.Ext.ok (h : X.Ext n Y) (hX : X.Ok) : Y.Ok := fun d hd => by
  rw [h.f]; exact hX d (by have := h.len.1; omega)
theorem dg_out {T : List (List UInt8)} (h : x ∉ T) : dg T x = (T.length : Int) + 1 := by unfold dg; rw [List.idxOf_eq_length h]
theorem dg_in {T : List (List UInt8)} (h : x ∈ T) : dg T x ≤ (T.length : Int) := by
  have := List.idxOf_lt_length_iff.2 h
  unfold dg; omega
theorem sg_out (hX : X.Ok) (h : x ∉ X.T) : sg X x = [] := by unfold sg; rw [dg_out h]; exact hX _ (by omega)
theorem sg_ext (hX : X.Ok) (h : X.Ext n Y) (x : List UInt8) : sg Y x = sg X x := by
  by_cases hx : x ∈ X.T
  · unfold sg; rw [h.f, h.dg hx]
  · rw [sg_out hX hx]
    unfold sg
    rw [h.f]
    refine hX _ ?_
    obtain ⟨a, rfl, _⟩ := h
    unfold dg
    rw [List.idxOf_append, if_neg hx]
    have := Nat.zero_le (a.idxOf x)
    omega
theorem mem_digest (X : WX) (x : List UInt8) : x ∈ (X.digest x).T := mem_addT.2 (.inr rfl)
theorem dg_digest (X : WX) (x : List UInt8) : dg (X.digest x).T x = dg X.T x := dg_addT (.inr rfl)
/-- One signs a row of bytes. -/
def WX.signB (X : WX) (who : Int) (x : List UInt8) : WX := { X.digest x with f := addAt X.f (dg X.T x) who }
theorem signB_ok (hX : X.Ok) (who : Int) (x : List UInt8) : (X.signB who x).Ok := fun d hd => by
  have h1 : (X.signB who x).T = (X.digest x).T := rfl
  rw [h1] at hd
  have h2 := dg_in (mem_digest X x)
  rw [dg_digest] at h2
  show addAt X.f (dg X.T x) who d = []
  unfold addAt
  rw [if_neg (by omega)]
  exact ((X.ext_digest x).ok hX) d hd
theorem sg_signB (hX : X.Ok) (who : Int) (x y : List UInt8) : sg (X.signB who x) y = if y = x then addTo (sg X x) who else sg X y := by
  show addAt X.f (dg X.T x) who (dg (X.digest x).T y) = _
  unfold addAt
  by_cases e : y = x
  · subst e
    rw [if_pos rfl, dg_digest, if_pos rfl]
    rfl
  · rw [if_neg e]
    have hne : dg (X.digest x).T y ≠ dg X.T x := fun h =>
      e (dg_inj (mem_digest X x) ((dg_digest X x).trans h.symm)).symm
    rw [if_neg hne]
    exact sg_ext hX (X.ext_digest x) y
theorem signB_len (X : WX) (who : Int) (x : List UInt8) : (X.signB who x).T.length ≤ X.T.length + 1 ∧ X.T.length ≤ (X.signB who x).T.length := ⟨(X.ext_digest x).len.2, (X.ext_digest x).len.1⟩
theorem mem_signB {who : Int} (h : y ∈ X.T ∨ y = x) : y ∈ (X.signB who x).T := mem_addT.2 h
theorem dg_signB {who : Int} (h : y ∈ X.T ∨ y = x) : dg (X.signB who x).T y = dg X.T y := dg_addT h
theorem qcB_ext (hX : X.Ok) (h : X.Ext n Y) (hr : rootB ∈ X.T) (c : CfgX) (v b : Int) (L : List Int) : qcB Y c v b L = qcB X c v b L := by
  unfold qcB
  rw [h.dg hr]
  have : ∀ who, decide (who ∈ Y.f (dg Y.T (voteB v b))) = decide (who ∈ X.f (dg X.T (voteB v b))) := fun who => by
    have := sg_ext hX h (voteB v b)
    unfold sg at this
    rw [this]
  simp only [this]
theorem qcX_ext (X : WX) (v b : Int) : X.Ext 1 (qcX X v b) := by
  unfold qcX
  split
  · split
    · exact X.ext_digest _
    · exact (WX.Ext.refl X).mono (by omega)
  · exact X.ext_digest _
end
end Go.Proofs.Ytcfhkpjheemkgaa
