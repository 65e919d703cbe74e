/-
  The world's vault: shared, how many, what has opened (Plain).
-/
import Derived.Test.YtcfhkpjheemkgaaVault
namespace Go.Proofs.Ytcfhkpjheemkgaa
set_option linter.unusedSectionVars false
set_option linter.unnecessarySimpa false
set_option linter.unusedSimpArgs false
set_option linter.unusedVariables false
open Go.RowKit Go.MapKept

/-- One shares a cipher. -/
def shareC (C : List Ciph) (who c : Int) : List Ciph := if 1 ≤ c ∧ c ≤ C.length then (match C[(c - 1).toNat]? with | some x => C.set (c - 1).toNat { x with shares := addTo x.shares who } | none => C) else C
def inC (C : List Ciph) (c : Int) : Bool := decide (1 ≤ c ∧ c ≤ C.length)
def plainC (need : Int) (C : List Ciph) (c : Int) : Option (List UInt8) :=
  if 1 ≤ c ∧ c ≤ C.length then (C[(c - 1).toNat]?).bind fun x => if need ≤ (x.shares.length : Int) then some x.plain else none else none
section
variable {w w' : World} {m : Nat → Thing} {l : List Thing} {p : Nat} {d : Wd} {X : WX}
theorem world_share (who c : Int) (hwho : (Lit.int .i64 who).wf = true) (h : Sys w m l) (hw : m 0 = worldT p d X) :
    Calls Try.prog 25 #[.pointer (some ⟨d.pv, 0, none⟩), .int .i64 who, .int .i64 c] w fun e w' => e = .returned (.bool (inC X.C c)) ∧ Sys w' (upd m 0 (worldT p d { X with C := shareC X.C who c })) l := by
  obtain ⟨F, hF, _, _, hT⟩ := (h.vault hw).head
  by_cases hc : 1 ≤ c ∧ c ≤ X.C.length
  · have hj : (c - 1).toNat < X.C.length := by omega
    have hx := List.getElem?_eq_getElem hj
    refine (seal_share_yes d.pv F X.need X.C who c (c - 1).toNat _ w hF (by omega) hx hwho).mono ?_
    rintro e w' ⟨rfl, h1, h2⟩
    have he : shareC X.C who c = X.C.set (c - 1).toNat { X.C[(c - 1).toNat] with shares := addTo X.C[(c - 1).toNat].shares who } := by
      unfold shareC; rw [if_pos hc, hx]
    refine ⟨by unfold inC; rw [decide_eq_true hc], ?_⟩
    rw [he]
    exact (hT w' _ ⟨F, h1, fun k hk => .inl hk, h2⟩).vaultBack
  · refine (seal_share_no d.pv F X.need X.C who c w hF hc).mono ?_
    rintro e w' ⟨rfl, rfl⟩
    refine ⟨by unfold inC; rw [decide_eq_false hc], ?_⟩
    unfold shareC
    rw [if_neg hc, upd_self hw]
    exact h
theorem world_len (h : Sys w m l) (hw : m 0 = worldT p d X) :
    Calls Try.prog 64 #[.pointer (some ⟨d.pv, 0, none⟩)] w fun e w' => e = .returned (.int .i64 X.C.length) ∧ w = w' := by
  obtain ⟨F, hF, _, _, hT⟩ := (h.vault hw).head
  exact seal_len d.pv F X.need X.C w hF
set_option maxHeartbeats 1000000 in
theorem seal_plain_no (p : Nat) (F : Nat → Prop) (need : Int) (C : List Ciph) (c : Int) (w : World) (h : Vault w p F need C) (hc : ¬ (1 ≤ c ∧ c ≤ C.length)) :
    Calls Try.prog 65 #[.pointer (some ⟨p, 0, none⟩), .int .i64 c] w (Opened none w) := by
  have HC := Lib.hid (seal_enough_no p F need C c w h hc)
  clear h hc
  go_enter Try.func65, Try.ntmps65
  go_wp2_with fail
  refine HC.out.mono ?_
  rintro e w2 ⟨rfl, hC2⟩
  go_wp2_with fail
  go_ret2
  exact ⟨rfl, hC2⟩
set_option maxRecDepth 100000 in
set_option maxHeartbeats 2000000 in
theorem seal_plain_yes (p : Nat) (F : Nat → Prop) (need : Int) (C : List Ciph) (c : Int) (j : Nat) (x : Ciph) (w : World) (h : Vault w p F need C) (hc : c = (j : Int) + 1) (hx : C[j]? = some x) (hpl : x.plain.length ≤ 1000000000) :
    Calls Try.prog 65 #[.pointer (some ⟨p, 0, none⟩), .int .i64 c] w (Opened (if need ≤ (x.shares.length : Int) then some x.plain else none) w) := by
  have hcall := seal_enough_yes p F need C c j x w h hc hx
  subst hc
  by_cases hn : need ≤ (x.shares.length : Int)
  · have HC := Lib.hid (hcall.mono fun e w' ⟨h1, h2⟩ => (⟨by rw [h1]; simp [hn], h2⟩ : e = Ending.returned (.bool true) ∧ Chg none_ w w'))
    have h' := fun w2 (hC : Chg none_ w w2) => (h.chg hC (fun _ _ h => h)).some
    clear hcall h
    rw [if_pos hn]
    clear hn
    go_enter Try.func65, Try.ntmps65
    go_wp2_with fail
    refine HC.out.mono ?_
    rintro e w2 ⟨rfl, hC2⟩
    obtain ⟨a, cap, c0, c1, hb, hs⟩ := h' w2 hC2
    obtain ⟨g, pv, mb, rfl, hj, d0, d1, d2, ht, hm, hwf⟩ := hs j x hx
    obtain ⟨ap, capp, rfl, hnp, hbt, hnn, _⟩ := ht.bytes
    have HCL := Lib.hid (clone_any ap x.plain capp w2 hbt hnn hpl)
    clear h' hs hx ht hm hwf d2 hbt hnn hnp
    generalize C.length = n at *
    go_wp2_with fail
    refine HCL.out.mono ?_
    rintro e w3 ⟨v3, rfl, ho3, hb3, hB3⟩
    go_wp2_with fail
    go_ret2
    exact ⟨v3, rfl, ho3, fun k hk => Nat.le_trans hC2.size (hb3 k hk), hC2.trans (Chg.of_below hB3)⟩
  · rw [if_neg hn]
    have HC := Lib.hid (hcall.mono fun e w' ⟨h1, h2⟩ => (⟨by rw [h1]; simp [hn], h2⟩ : e = Ending.returned (.bool false) ∧ Chg none_ w w'))
    clear hcall hn h hx
    go_enter Try.func65, Try.ntmps65
    go_wp2_with fail
    refine HC.out.mono ?_
    rintro e w2 ⟨rfl, hC2⟩
    go_wp2_with fail
    go_ret2
    exact ⟨rfl, hC2⟩
/-- What has opened: its text in a row of its own. -/
theorem world_plain (c : Int) (hpl : ∀ x ∈ X.C, x.plain.length ≤ 1000000000) (h : Sys w m l) (hw : m 0 = worldT p d X) :
    Calls Try.prog 65 #[.pointer (some ⟨d.pv, 0, none⟩), .int .i64 c] w fun e w' =>
      (plainC X.need X.C c = none ∧ e = .returned (.tuple #[.slice none 0 0, .bool false]) ∧ Sys w' m l) ∨
      ∃ t v, plainC X.need X.C c = some t ∧ e = .returned (.tuple #[v, .bool true]) ∧ Sys w' m (own 5 1 v t.length (bcells t) :: l) := by
  obtain ⟨F, hF, _, _, hT⟩ := (h.vault hw).head
  unfold plainC
  by_cases hc : 1 ≤ c ∧ c ≤ X.C.length
  · have hj : (c - 1).toNat < X.C.length := by omega
    have hx := List.getElem?_eq_getElem hj
    refine (seal_plain_yes d.pv F X.need X.C c (c - 1).toNat _ w hF (by omega) hx (hpl _ (List.getElem_mem hj))).mono ?_
    intro e w' ho
    rw [if_pos hc, hx]
    simp only [Option.bind_some]
    split at ho
    · next hn =>
      obtain ⟨v, rfl, h1, h2, h3⟩ := ho
      refine .inr ⟨_, v, if_pos hn, rfl, ?_⟩
      exact h.push (F := fun k => v.ownBlock = some k) h3 ⟨h1, rfl⟩ h2
    · next hn =>
      obtain ⟨rfl, h3⟩ := ho
      exact .inl ⟨if_neg hn, rfl, h.chg0 h3⟩
  · refine (seal_plain_no d.pv F X.need X.C c w hF hc).mono ?_
    intro e w' ho
    obtain ⟨rfl, h3⟩ := ho
    rw [if_neg hc]
    exact .inl ⟨rfl, rfl, h.chg0 h3⟩
end
end Go.Proofs.Ytcfhkpjheemkgaa
