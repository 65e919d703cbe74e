/-
  The vault's methods at any number as a cipher.
-/
import Derived.Test.YtjllejlgclfahaaSealTwo
namespace Go.Proofs.Ytjllejlgclfahaa
open Go.RowKit Go.MapKept

/-- The cipher of a number. -/
def cAt (C : List Ciph) (c : Int) : Option Ciph := if 1 ≤ c then C[(c - 1).toNat]? else none
theorem cAt_none {C : List Ciph} {c : Int} (h : ¬ (1 ≤ c ∧ c ≤ C.length)) : cAt C c = none := by
  unfold cAt
  split
  · exact List.getElem?_eq_none (by omega)
  · rfl
theorem cAt_some {C : List Ciph} {c : Int} (h : 1 ≤ c ∧ c ≤ C.length) : ∃ (j : Nat) (q : Ciph), c = (j : Int) + 1 ∧ (c - 1).toNat = j ∧ C[j]? = some q ∧ cAt C c = some q ∧ q ∈ C := by
  have hj : (c - 1).toNat < C.length := by omega
  refine ⟨(c - 1).toNat, C[(c - 1).toNat], by omega, rfl, List.getElem?_eq_getElem hj, ?_, List.getElem_mem hj⟩
  unfold cAt
  rw [if_pos h.1, List.getElem?_eq_getElem hj]
def openAt (need : Int) (C : List Ciph) (label c : Int) : Option (List UInt8) := (cAt C c).bind fun q => openC need q label
def sharesAt (C : List Ciph) (c : Int) : List Int := ((cAt C c).map (·.shares)).getD []
def shareAt (C : List Ciph) (who c : Int) : List Ciph := match cAt C c with
  | none => C
  | some q => C.set (c - 1).toNat { q with shares := addTo q.shares who }

theorem mine_open_any (p : Nat) (need : Int) (C : List Ciph) (label c : Int) (w x : World) (h : Mine w x p need C) (hpl : ∀ q ∈ C, q.plain.length ≤ 1000000000) :
    Calls Try.prog 45 #[.pointer (some ⟨p, 0, none⟩), .int .i64 label, .int .i64 c] x (Opened (openAt need C label c) x) := by
  by_cases hc : 1 ≤ c ∧ c ≤ C.length
  · obtain ⟨j, q, e1, _, e2, e3, hm⟩ := cAt_some hc
    have := mine_open p need C label c j q w x h e1 e2 (hpl q hm)
    unfold openAt; rw [e3]; exact this
  · have := mine_open_no p need C label c w x h hc
    unfold openAt; rw [cAt_none hc]; exact this
theorem mine_shares_any (p : Nat) (need : Int) (C : List Ciph) (c : Int) (w x : World) (h : Mine w x p need C) (hsz : ∀ q ∈ C, q.shares.length ≤ 1000000) :
    Calls Try.prog 47 #[.pointer (some ⟨p, 0, none⟩), .int .i64 c] x (BookAll (sharesAt C c) x) := by
  by_cases hc : 1 ≤ c ∧ c ≤ C.length
  · obtain ⟨j, q, e1, _, e2, e3, hm⟩ := cAt_some hc
    have := mine_shares p need C c j q w x h e1 e2 (by have := hsz q hm; omega)
    unfold sharesAt; rw [e3]; exact this
  · have := mine_shares_no p need C c w x h hc
    unfold sharesAt; rw [cAt_none hc]; exact this
theorem mine_shared_any (p : Nat) (need : Int) (C : List Ciph) (who c : Int) (w x : World) (h : Mine w x p need C) :
    Calls Try.prog 50 #[.pointer (some ⟨p, 0, none⟩), .int .i64 who, .int .i64 c] x fun e y => e = .returned (.bool (decide (who ∈ sharesAt C c))) ∧ x = y := by
  by_cases hc : 1 ≤ c ∧ c ≤ C.length
  · obtain ⟨j, q, e1, _, e2, e3, hm⟩ := cAt_some hc
    have := mine_shared p need C who c j q w x h e1 e2
    unfold sharesAt; rw [e3]; exact this
  · have := mine_shared_no p need C who c w x h hc
    unfold sharesAt; rw [cAt_none hc]; simpa using this
theorem two_share_any (p q : Nat) (np nq : Int) (C D : List Ciph) (who c : Int) (w x : World) (h : Two w x p q np nq C D) (hwho : (Lit.int .i64 who).wf = true) :
    Calls Try.prog 48 #[.pointer (some ⟨p, 0, none⟩), .int .i64 who, .int .i64 c] x fun e y => e = .returned (.bool (cAt C c).isSome) ∧ Two w y p q np nq (shareAt C who c) D := by
  by_cases hc : 1 ≤ c ∧ c ≤ C.length
  · obtain ⟨j, r, e1, ej, e2, e3, hm⟩ := cAt_some hc
    have := two_share p q np nq C D who c j r w x h e1 e2 hwho
    unfold shareAt; rw [e3, ej]; exact this
  · refine (mine_share_no p np C who c w x h.mine hc).mono ?_
    rintro e y ⟨rfl, rfl⟩
    unfold shareAt; rw [cAt_none hc]; exact ⟨rfl, h⟩
theorem mine_share_any (p : Nat) (np : Int) (C : List Ciph) (who c : Int) (w x : World) (h : Mine w x p np C) (hwho : (Lit.int .i64 who).wf = true) :
    Calls Try.prog 48 #[.pointer (some ⟨p, 0, none⟩), .int .i64 who, .int .i64 c] x fun e y => e = .returned (.bool (cAt C c).isSome) ∧ Mine w y p np (shareAt C who c) := by
  by_cases hc : 1 ≤ c ∧ c ≤ C.length
  · obtain ⟨j, r, e1, ej, e2, e3, hm⟩ := cAt_some hc
    have := mine_share p np C who c j r w x h e1 e2 hwho
    unfold shareAt; rw [e3, ej]; exact this
  · refine (mine_share_no p np C who c w x h hc).mono ?_
    rintro e y ⟨rfl, rfl⟩
    unfold shareAt; rw [cAt_none hc]; exact ⟨rfl, h⟩

/-- Two rows of ciphers that differ in their texts alone. -/
def Alike (C D : List Ciph) : Prop := C.map (fun c => (c.label, c.shares)) = D.map (fun c => (c.label, c.shares))
theorem Alike.length {C D : List Ciph} (h : Alike C D) : C.length = D.length := by simpa using congrArg List.length h
theorem Alike.at {C D : List Ciph} (h : Alike C D) (c : Int) : (cAt C c).map (fun c => (c.label, c.shares)) = (cAt D c).map (fun c => (c.label, c.shares)) := by
  unfold cAt
  split
  · have := congrArg (fun l => l[(c - 1).toNat]?) h
    simpa using this
  · rfl
end Go.Proofs.Ytjllejlgclfahaa
