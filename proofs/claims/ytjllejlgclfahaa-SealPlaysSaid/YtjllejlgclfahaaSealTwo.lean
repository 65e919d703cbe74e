/-
  Two vaults that the law itself made, side by side.
-/
import Derived.Test.YtjllejlgclfahaaSealAwake
namespace Go.Proofs.Ytjllejlgclfahaa
open Go.RowKit Go.MapKept

/-- Two vaults made since w, in the world x. -/
def Two (w x : World) (p q : Nat) (np nq : Int) (C D : List Ciph) : Prop :=
  ∃ F G, Vault x p F np C ∧ Vault x q G nq D ∧ (∀ k, F k → ¬ G k) ∧ (∀ k, F k → w.heap.size ≤ k) ∧ (∀ k, G k → w.heap.size ≤ k) ∧ Below w.heap.size w x
section
variable {w x y : World} {p q : Nat} {np nq : Int} {C D : List Ciph}
theorem Two.swap (h : Two w x p q np nq C D) : Two w x q p nq np D C := by
  obtain ⟨F, G, h1, h2, h3, h4, h5, h6⟩ := h
  exact ⟨G, F, h2, h1, fun k hg hf => h3 k hf hg, h5, h4, h6⟩
theorem Two.mine (h : Two w x p q np nq C D) : Mine w x p np C := by
  obtain ⟨F, G, h1, h2, h3, h4, h5, h6⟩ := h
  exact ⟨F, h1, h4, h6⟩
theorem Two.mine2 (h : Two w x p q np nq C D) : Mine w x q nq D := h.swap.mine
theorem Two.below (h : Two w x p q np nq C D) : Below w.heap.size w x := h.mine.below
theorem Two.chg0 (h : Two w x p q np nq C D) (hc : Chg none_ x y) : Two w y p q np nq C D := by
  obtain ⟨F, G, h1, h2, h3, h4, h5, h6⟩ := h
  exact ⟨F, G, h1.chg hc (fun _ _ h => h), h2.chg hc (fun _ _ h => h), h3, h4, h5, h6.trans (hc.below h6.size (fun _ h => h.elim))⟩
/-- A step of the first. -/
theorem two_step {F G F' : Nat → Prop} {C' : List Ciph} (h2 : Vault x q G nq D) (h3 : ∀ k, F k → ¬ G k) (h4 : ∀ k, F k → w.heap.size ≤ k) (h5 : ∀ k, G k → w.heap.size ≤ k) (h6 : Below w.heap.size w x)
    (hv : Vault y p F' np C') (hF : ∀ k, F' k → F k ∨ x.heap.size ≤ k) (hc : Chg F x y) : Two w y p q np nq C' D := by
  have := h6.size
  refine ⟨F', G, hv, h2.chg hc (fun k hg hf => h3 k hf hg), fun k hk hg => ?_, fun k hk => ?_, h5, h6.trans (hc.below h6.size h4)⟩
  · rcases hF k hk with h | h
    · exact h3 k h hg
    · have := h2.lt k hg; omega
  · rcases hF k hk with h | h
    · exact h4 k h
    · omega
end
theorem two_new (n : Int) (w x : World) (p : Nat) (np : Int) (C : List Ciph) (h : Mine w x p np C) : Calls Try.prog 43 #[.int .i64 n] x fun e y => ∃ q, e = .returned (.pointer (some ⟨q, 0, none⟩)) ∧ Two w y p q np (max n 1) C [] := by
  obtain ⟨F, h1, h2, h3⟩ := h
  refine (seal_new n x).mono ?_
  rintro e y ⟨q, G, he, hv, hG, hB⟩
  exact ⟨q, he, F, G, h1.below hB, hv, fun k hf hg => by have := h1.lt k hf; have := hG k hg; omega, h2, fun k hk => Nat.le_trans h3.size (hG k hk), h3.trans (hB.mono h3.size)⟩
theorem two_seal (p q : Nat) (np nq : Int) (C D : List Ciph) (label : Int) (a : Option Addr) (l : List UInt8) (cap : Nat) (w x : World) (h : Two w x p q np nq C D) (hn : C.length ≤ 1000000000) (ha : BytesAt x a l) (han : a = none → l = []) (hl : l.length ≤ 1000000000) :
    Calls Try.prog 44 #[.pointer (some ⟨p, 0, none⟩), .int .i64 label, .slice a l.length cap] x fun e y => e = .returned (.int .i64 ((C.length : Int) + 1)) ∧ Two w y p q np nq (C ++ [⟨label, l, []⟩]) D := by
  obtain ⟨F, G, h1, h2, h3, h4, h5, h6⟩ := h
  exact (seal_seal p F np C label a l cap x h1 hn ha han hl).mono fun _ _ ⟨e, ⟨F', hv, hF⟩, hc⟩ => ⟨e, two_step h2 h3 h4 h5 h6 hv hF hc⟩
theorem two_share (p q : Nat) (np nq : Int) (C D : List Ciph) (who c : Int) (j : Nat) (r : Ciph) (w x : World) (h : Two w x p q np nq C D) (hc : c = (j : Int) + 1) (hx : C[j]? = some r) (hwho : (Lit.int .i64 who).wf = true) :
    Calls Try.prog 48 #[.pointer (some ⟨p, 0, none⟩), .int .i64 who, .int .i64 c] x fun e y => e = .returned (.bool true) ∧ Two w y p q np nq (C.set j { r with shares := addTo r.shares who }) D := by
  obtain ⟨F, G, h1, h2, h3, h4, h5, h6⟩ := h
  exact (seal_share_yes p F np C who c j r x h1 hc hx hwho).mono fun _ _ ⟨e, hv, hcc⟩ => ⟨e, two_step h2 h3 h4 h5 h6 hv (fun k hk => .inl hk) hcc⟩
end Go.Proofs.Ytjllejlgclfahaa
