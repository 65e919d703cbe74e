/-
  The vault and the reference's vault, side by side: their methods at any number as a cipher.
-/
import Derived.Test.YtjllejlgclfahaaSealAny
import Derived.Test.YtjllejlgclfahaaRefOpen
namespace Go.Proofs.Ytjllejlgclfahaa
open Go.RowKit Go.MapKept

theorem Opened.bytes {r : Option (List UInt8)} {w w' : World} {e : Ending} (h : Opened r w e w') : ∃ a cap, e = .returned (.tuple #[.slice a (r.getD []).length cap, .bool r.isSome]) ∧ BytesAt w' a (r.getD []) ∧ Chg none_ w w' := by
  cases r with
  | none => exact ⟨none, 0, h.no.1, .inl rfl, h.no.2⟩
  | some l =>
    obtain ⟨a, cap, h1, h2, _, h4⟩ := h.yes
    obtain ⟨a', cap', e', _, hb, _⟩ := h2.bytes
    cases e'
    exact ⟨a, cap, h1, hb, h4⟩
theorem ROpened.bytes {r : Option (List UInt8)} {w w' : World} {e : Ending} (h : ROpened r w e w') : ∃ a cap, e = .returned (.tuple #[.slice a (r.getD []).length cap, .bool r.isSome]) ∧ BytesAt w' a (r.getD []) ∧ Chg none_ w w' := by
  cases r with
  | none => exact ⟨none, 0, h.1, .inl rfl, h.2⟩
  | some l =>
    obtain ⟨a, cap, h1, h2, h4⟩ := h
    exact ⟨a, cap, h1, h2, h4⟩

/-- The vault at p and the reference's at q, made since W, in the world x. -/
def VR (W x : World) (p q : Nat) (np : Int) (C : List Ciph) (need : Int) (R : List (Int × List UInt8)) (f : Int → List Int) (N : Nat) : Prop :=
  ∃ F G, Vault x p F np C ∧ RVault x q G need R f N ∧ (∀ k, F k → ¬ G k) ∧ (∀ k, F k → W.heap.size ≤ k) ∧ (∀ k, G k → W.heap.size ≤ k) ∧ Below W.heap.size W x
section
variable {W x y : World} {p q : Nat} {np need : Int} {C : List Ciph} {R : List (Int × List UInt8)} {f g : Int → List Int} {N : Nat}
theorem VR.mine (h : VR W x p q np C need R f N) : Mine W x p np C := by
  obtain ⟨F, G, h1, h2, h3, h4, h5, h6⟩ := h
  exact ⟨F, h1, h4, h6⟩
theorem VR.below (h : VR W x p q np C need R f N) : Below W.heap.size W x := h.mine.below
theorem VR.chg0 (h : VR W x p q np C need R f N) (hc : Chg none_ x y) : VR W y p q np C need R f N := by
  obtain ⟨F, G, h1, h2, h3, h4, h5, h6⟩ := h
  exact ⟨F, G, h1.chg hc (fun _ _ h => h), h2.chg hc (fun _ _ h => h), h3, h4, h5, h6.trans (hc.below h6.size (fun _ h => h.elim))⟩
theorem VR.congr (h : VR W x p q np C need R f N) (e : ∀ d, g d = f d) : VR W x p q np C need R g N := by
  obtain ⟨F, G, h1, h2, h3⟩ := h
  exact ⟨F, G, h1, h2.congr e, h3⟩
theorem VR.step1 {F G F' : Nat → Prop} {C' : List Ciph} (h2 : RVault x q G need R f N) (h3 : ∀ k, F k → ¬ G k) (h4 : ∀ k, F k → W.heap.size ≤ k) (h5 : ∀ k, G k → W.heap.size ≤ k) (h6 : Below W.heap.size W x)
    (hv : Vault y p F' np C') (hF : ∀ k, F' k → F k ∨ x.heap.size ≤ k) (hc : Chg F x y) : VR W y p q np C' need R f N := by
  have := h6.size
  refine ⟨F', G, hv, h2.chg hc (fun k hg hf => h3 k hf hg), fun k hk hg => ?_, fun k hk => ?_, h5, h6.trans (hc.below h6.size h4)⟩
  · rcases hF k hk with h | h
    · exact h3 k h hg
    · have := h2.lt k hg; omega
  · rcases hF k hk with h | h
    · exact h4 k h
    · omega
theorem VR.step2 {F G G' : Nat → Prop} {R' : List (Int × List UInt8)} {f' : Int → List Int} {N' : Nat} (h1 : Vault x p F np C) (h3 : ∀ k, F k → ¬ G k) (h4 : ∀ k, F k → W.heap.size ≤ k) (h5 : ∀ k, G k → W.heap.size ≤ k) (h6 : Below W.heap.size W x)
    (hv : RVault y q G' need R' f' N') (hG : ∀ k, G' k → G k ∨ x.heap.size ≤ k) (hc : Chg G x y) : VR W y p q np C need R' f' N' := by
  have := h6.size
  refine ⟨F, G', h1.chg hc (fun k hf hg => h3 k hf hg), hv, fun k hk hg => ?_, h4, fun k hk => ?_, h6.trans (hc.below h6.size h5)⟩
  · rcases hG k hg with h | h
    · exact h3 k hk h
    · have := h1.lt k hk; omega
  · rcases hG k hk with h | h
    · exact h5 k h
    · omega
/-- The reference's vault, new, beside the other. -/
theorem VR.new (h : Mine W x p np C) (k : Nat) (hk : k = x.heap.size) : VR W (x.alloc (.cells #[.int .i64 need, .slice none 0 0, .slice none 0 0] 90 (0, 0))) p k np C need [] (fun _ => []) 0 := by
  obtain ⟨F, h1, h2, h3⟩ := h
  have hc := (Chg.refl none_ x).alloc (.cells #[.int .i64 need, .slice none 0 0, .slice none 0 0] 90 (0, 0))
  refine ⟨F, (· = k), h1.chg hc (fun _ _ h => h), ⟨.slice none 0 0, .slice none 0 0, alloc_new x _ k hk, Own.nil _ _ _, PairsV.nil _, (by intro h; cases h), (by intro h; cases h), (fun _ h => by cases h), fun j => ?_⟩, fun j hj e => ?_, h2, fun j e => ?_, h3.trans (hc.below h3.size (fun _ h => h.elim))⟩
  · constructor
    · exact .inl
    · rintro (h | h | h)
      · exact h
      · cases h
      · cases h
  · subst e; have := h1.lt j hj; omega
  · subst e; have := h3.size; omega
end
theorem vr_seal (p q : Nat) (np : Int) (C : List Ciph) (need : Int) (R : List (Int × List UInt8)) (f : Int → List Int) (N : Nat) (label : Int) (a : Option Addr) (l : List UInt8) (cap : Nat) (w x : World) (h : VR w x p q np C need R f N) (hn : C.length ≤ 1000000000) (ha : BytesAt x a l) (han : a = none → l = []) (hl : l.length ≤ 1000000000) :
    Calls Try.prog 44 #[.pointer (some ⟨p, 0, none⟩), .int .i64 label, .slice a l.length cap] x fun e y => e = .returned (.int .i64 ((C.length : Int) + 1)) ∧ VR w y p q np (C ++ [⟨label, l, []⟩]) need R f N := by
  obtain ⟨F, G, h1, h2, h3, h4, h5, h6⟩ := h
  exact (seal_seal p F np C label a l cap x h1 hn ha han hl).mono fun _ _ ⟨e, ⟨F', hv, hF⟩, hc⟩ => ⟨e, VR.step1 h2 h3 h4 h5 h6 hv hF hc⟩
theorem vr_rseal (p q : Nat) (np : Int) (C : List Ciph) (need : Int) (R : List (Int × List UInt8)) (f : Int → List Int) (N : Nat) (label : Int) (a : Option Addr) (l : List UInt8) (cap : Nat) (w x : World) (h : VR w x p q np C need R f N) (hn : R.length ≤ 1000000000) (ha : BytesAt x a l) :
    Calls Try.prog 51 #[.pointer (some ⟨q, 0, none⟩), .int .i64 label, .slice a l.length cap] x fun e y => e = .returned (.int .i64 ((R.length : Int) + 1)) ∧ VR w y p q np C need (R ++ [(label, l)]) f N := by
  obtain ⟨F, G, h1, h2, h3, h4, h5, h6⟩ := h
  exact (ref_seal q G need R f N label a l cap x h2 hn ha).mono fun _ _ ⟨e, ⟨G', hv, hG⟩, hc⟩ => ⟨e, VR.step2 h1 h3 h4 h5 h6 hv hG hc⟩
theorem vr_share_any (p q : Nat) (np : Int) (C : List Ciph) (need : Int) (R : List (Int × List UInt8)) (f : Int → List Int) (N : Nat) (who c : Int) (w x : World) (h : VR w x p q np C need R f N) (hwho : (Lit.int .i64 who).wf = true) :
    Calls Try.prog 48 #[.pointer (some ⟨p, 0, none⟩), .int .i64 who, .int .i64 c] x fun e y => e = .returned (.bool (cAt C c).isSome) ∧ VR w y p q np (shareAt C who c) need R f N := by
  by_cases hc : 1 ≤ c ∧ c ≤ C.length
  · obtain ⟨j, r, e1, ej, e2, e3, hm⟩ := cAt_some hc
    obtain ⟨F, G, h1, h2, h3, h4, h5, h6⟩ := h
    unfold shareAt; rw [e3, ej]
    exact (seal_share_yes p F np C who c j r x h1 e1 e2 hwho).mono fun _ _ ⟨e, hv, hcc⟩ => ⟨e, VR.step1 h2 h3 h4 h5 h6 hv (fun k hk => .inl hk) hcc⟩
  · refine (mine_share_no p np C who c w x h.mine hc).mono ?_
    rintro e y ⟨rfl, rfl⟩
    unfold shareAt; rw [cAt_none hc]; exact ⟨rfl, h⟩
/-- The reference's sharing: who shared which. -/
def rShared (n : Nat) (f : Int → List Int) (who c : Int) : Int → List Int := if 1 ≤ c ∧ c ≤ (n : Int) then addAt f c who else f
theorem vr_rshare_any (p q : Nat) (np : Int) (C : List Ciph) (need : Int) (R : List (Int × List UInt8)) (f : Int → List Int) (N : Nat) (who c : Int) (w x : World) (h : VR w x p q np C need R f N) (hN : N ≤ 10000) :
    Calls Try.prog 52 #[.pointer (some ⟨q, 0, none⟩), .int .i64 who, .int .i64 c] x fun e y => e = .returned (.bool (decide (1 ≤ c ∧ c ≤ (R.length : Int)))) ∧ VR w y p q np C need R (rShared R.length f who c) (N + 1) := by
  obtain ⟨F, G, h1, h2, h3, h4, h5, h6⟩ := h
  unfold rShared
  by_cases hc : 1 ≤ c ∧ c ≤ R.length
  · rw [if_pos hc, decide_eq_true hc]
    exact (ref_share_yes q G need R f N who c x h2 hc hN).mono fun _ _ ⟨e, ⟨G', hv, hG⟩, hcc⟩ => ⟨e, VR.step2 h1 h3 h4 h5 h6 hv hG hcc⟩
  · rw [if_neg hc, decide_eq_false hc]
    refine (ref_share_no q G need R f N who c x h2 hc).mono ?_
    rintro e y ⟨rfl, rfl⟩
    obtain ⟨v, pv, g1, g2, g3, g4⟩ := h2
    exact ⟨rfl, F, G, h1, ⟨v, pv, g1, g2, g3.more (by omega), g4⟩, h3, h4, h5, h6⟩
def openRs (need : Int) (R : List (Int × List UInt8)) (f : Int → List Int) (label c : Int) : Option (List UInt8) := if 1 ≤ c then (R[(c - 1).toNat]?).bind fun x => openR need (f c) x label else none
theorem vr_ropen_any (p q : Nat) (np : Int) (C : List Ciph) (need : Int) (R : List (Int × List UInt8)) (f : Int → List Int) (N : Nat) (label c : Int) (w x : World) (h : VR w x p q np C need R f N) (hN : N ≤ 10000) (hR : R.length ≤ 1000000000) :
    Calls Try.prog 53 #[.pointer (some ⟨q, 0, none⟩), .int .i64 label, .int .i64 c] x (ROpened (openRs need R f label c) x) := by
  obtain ⟨F, G, h1, h2, h3, h4, h5, h6⟩ := h
  unfold openRs
  by_cases hc : 1 ≤ c ∧ c ≤ R.length
  · have hj : (c - 1).toNat < R.length := by omega
    rw [if_pos hc.1, List.getElem?_eq_getElem hj]
    exact ref_open_yes q G need R f N label c (c - 1).toNat _ x h2 (by omega) (List.getElem?_eq_getElem hj) hN hR
  · have : (if 1 ≤ c then (R[(c - 1).toNat]?).bind fun x => openR need (f c) x label else none) = none := by
      split
      · rw [List.getElem?_eq_none (by omega)]; rfl
      · rfl
    rw [this]
    exact ref_open_no q G need R f N label c x h2 hc
theorem vr_rshares_any (p q : Nat) (np : Int) (C : List Ciph) (need : Int) (R : List (Int × List UInt8)) (f : Int → List Int) (N : Nat) (c : Int) (w x : World) (h : VR w x p q np C need R f N) (hN : N ≤ 10000) (h0 : ¬ (1 ≤ c ∧ c ≤ (R.length : Int)) → f c = []) :
    Calls Try.prog 54 #[.pointer (some ⟨q, 0, none⟩), .int .i64 c] x (PairsAll (f c) x) := by
  obtain ⟨F, G, h1, h2, h3, h4, h5, h6⟩ := h
  by_cases hc : 1 ≤ c ∧ c ≤ R.length
  · exact ref_shares_yes q G need R f N c x h2 hc hN
  · rw [h0 hc]; exact ref_shares_no q G need R f N c x h2 hc
theorem vr_rlen (p q : Nat) (np : Int) (C : List Ciph) (need : Int) (R : List (Int × List UInt8)) (f : Int → List Int) (N : Nat) (w x : World) (h : VR w x p q np C need R f N) :
    Calls Try.prog 55 #[.pointer (some ⟨q, 0, none⟩)] x fun e y => e = .returned (.int .i64 R.length) ∧ x = y := by
  obtain ⟨F, G, h1, h2, h3⟩ := h
  exact ref_len q G need R f N x h2

/-! ### the plain law: both say the same -/
def rowOf (C : List Ciph) : List (Int × List UInt8) := C.map fun r => (r.label, r.plain)
theorem rowOf_length (C : List Ciph) : (rowOf C).length = C.length := by simp [rowOf]
theorem rowOf_snoc (C : List Ciph) (r : Ciph) : rowOf C ++ [(r.label, r.plain)] = rowOf (C ++ [r]) := by simp [rowOf]
theorem rowOf_share (C : List Ciph) (who c : Int) : rowOf (shareAt C who c) = rowOf C := by
  unfold shareAt
  cases h1 : cAt C c with
  | none => rfl
  | some r =>
    unfold cAt at h1
    split at h1
    · unfold rowOf
      rw [List.map_set]
      refine List.ext_getElem? fun i => ?_
      rw [List.getElem?_set]
      split
      · rename_i e
        subst e
        simp only [List.getElem?_map, h1, List.length_map, Option.map_some]
        rw [if_pos (List.getElem?_eq_some_iff.1 h1).1]
      · rfl
    · cases h1
theorem isSome_iff (C : List Ciph) (c : Int) : (cAt C c).isSome = decide (1 ≤ c ∧ c ≤ (C.length : Int)) := by
  by_cases hc : 1 ≤ c ∧ c ≤ C.length
  · obtain ⟨j, q, _, _, _, e, _⟩ := cAt_some hc
    rw [e]; simp [hc]
  · rw [cAt_none hc]; simp [hc]
theorem sharesAt_out (C : List Ciph) (c : Int) (h : ¬ (1 ≤ c ∧ c ≤ (C.length : Int))) : sharesAt C c = [] := by unfold sharesAt; rw [cAt_none h]; rfl
theorem sharesAt_snoc (C : List Ciph) (label : Int) (l : List UInt8) (d : Int) : sharesAt (C ++ [⟨label, l, []⟩]) d = sharesAt C d := by
  unfold sharesAt cAt
  split
  · by_cases h : (d - 1).toNat < C.length
    · rw [List.getElem?_append_left h]
    · rw [List.getElem?_append_right (by omega), List.getElem?_eq_none (l := C) (by omega)]
      cases h9 : (d - 1).toNat - C.length <;> simp
  · rfl
theorem sharesAt_share (C : List Ciph) (who c d : Int) : sharesAt (shareAt C who c) d = rShared C.length (sharesAt C) who c d := by
  unfold rShared
  by_cases hc : 1 ≤ c ∧ c ≤ C.length
  · obtain ⟨j, q, e1, e2, e3, e4, _⟩ := cAt_some hc
    rw [if_pos hc]
    unfold shareAt addAt
    rw [e4]
    simp only
    by_cases hd : d = c
    · subst hd
      rw [if_pos rfl]
      unfold sharesAt cAt
      rw [if_pos hc.1, e2, List.getElem?_set_self (List.getElem?_eq_some_iff.1 e3).1, if_pos hc.1, e3]
      rfl
    · rw [if_neg hd]
      unfold sharesAt cAt
      split
      · rw [List.getElem?_set_ne (by omega)]
      · rfl
  · rw [if_neg hc]
    unfold shareAt
    rw [cAt_none hc]
theorem opens_same (need : Int) (C : List Ciph) (label c : Int) : openRs need (rowOf C) (sharesAt C) label c = openAt (max need 1) C label c := by
  unfold openRs openAt
  by_cases hc : 1 ≤ c ∧ c ≤ C.length
  · obtain ⟨j, q, e1, e2, e3, e4, _⟩ := cAt_some hc
    rw [if_pos hc.1, e2, e4]
    have hs : sharesAt C c = q.shares := by unfold sharesAt; rw [e4]; rfl
    unfold rowOf
    rw [List.getElem?_map, e3, hs]
    rfl
  · rw [cAt_none hc]
    split
    · rw [List.getElem?_eq_none (by rw [rowOf_length]; omega)]; rfl
    · rfl
/-- What bounds them. -/
def BndS (C : List Ciph) (k : Nat) : Prop := C.length ≤ k ∧ ∀ q ∈ C, q.plain.length ≤ 200 ∧ q.shares.length ≤ k
theorem BndS.snoc {C : List Ciph} {k : Nat} (h : BndS C k) (x : Int) {l : List UInt8} (hl : l.length ≤ 200) : BndS (C ++ [⟨x, l, []⟩]) (k + 1) := by
  refine ⟨by simp; exact h.1, fun q hq => ?_⟩
  rcases List.mem_append.1 hq with hq | hq
  · have := h.2 q hq; omega
  · simp at hq; subst hq; exact ⟨hl, by simp⟩
theorem BndS.more {C : List Ciph} {k : Nat} (h : BndS C k) : BndS C (k + 1) := ⟨by have := h.1; omega, fun q hq => by have := h.2 q hq; omega⟩
theorem BndS.share {C : List Ciph} {k : Nat} (h : BndS C k) (who c : Int) : BndS (shareAt C who c) (k + 1) := by
  unfold shareAt
  cases h1 : cAt C c with
  | none => exact h.more
  | some r =>
    have hr : r ∈ C := by
      unfold cAt at h1
      split at h1
      · exact List.mem_of_getElem? h1
      · cases h1
    refine ⟨by have := h.1; simp; omega, fun q hq => ?_⟩
    rcases List.mem_or_eq_of_mem_set hq with hq | rfl
    · have := h.2 q hq; omega
    · have := h.2 r hr
      refine ⟨this.1, ?_⟩
      have h2 : (addTo r.shares who).length ≤ r.shares.length + 1 := by unfold addTo; split <;> simp
      show (addTo r.shares who).length ≤ k + 1
      omega
theorem BndS.shares {C : List Ciph} {k : Nat} (h : BndS C k) (c : Int) : (sharesAt C c).length ≤ k := by
  unfold sharesAt
  cases h1 : cAt C c with
  | none => simp
  | some r =>
    have hr : r ∈ C := by
      unfold cAt at h1
      split at h1
      · exact List.mem_of_getElem? h1
      · cases h1
    simpa using (h.2 r hr).2
end Go.Proofs.Ytjllejlgclfahaa
