/-
  What the document fixes of a vault (awake), and a vault that the law itself made.
-/
import Derived.Test.YtjllejlgclfahaaSealSeal
import Derived.Lib.SlBytesConst
namespace Go.Proofs.Ytjllejlgclfahaa
open Go.RowKit Go.MapKept

/-- A vault made since w, in the world x. -/
def Mine (w x : World) (p : Nat) (need : Int) (C : List Ciph) : Prop := ∃ F, Vault x p F need C ∧ (∀ k, F k → w.heap.size ≤ k) ∧ Below w.heap.size w x
theorem Mine.below {w x : World} {p : Nat} {need : Int} {C : List Ciph} (h : Mine w x p need C) : Below w.heap.size w x := by obtain ⟨_, _, _, h⟩ := h; exact h
theorem Mine.chg0 {w x y : World} {p : Nat} {need : Int} {C : List Ciph} (h : Mine w x p need C) (hc : Chg none_ x y) : Mine w y p need C := by
  obtain ⟨F, h1, h2, h3⟩ := h
  exact ⟨F, h1.chg hc (fun _ _ h => h), h2, h3.trans (hc.below h3.size (fun _ h => h.elim))⟩
theorem Mine.step {w x y : World} {p : Nat} {F : Nat → Prop} {need : Int} {C' : List Ciph} {F' : Nat → Prop} (h2 : ∀ k, F k → w.heap.size ≤ k) (h3 : Below w.heap.size w x) (hv : Vault y p F' need C') (hn : ∀ k, F' k → F k ∨ x.heap.size ≤ k) (hc : Chg F x y) : Mine w y p need C' := by
  have := h3.size
  exact ⟨F', hv, fun k hk => by rcases hn k hk with h | h; exact h2 k h; omega, h3.trans (hc.below h3.size h2)⟩
theorem mine_new (need : Int) (w x : World) (hB : Below w.heap.size w x) : Calls Try.prog 43 #[.int .i64 need] x fun e y => ∃ p, e = .returned (.pointer (some ⟨p, 0, none⟩)) ∧ Mine w y p (max need 1) [] :=
  (seal_new need x).mono fun _ _ ⟨p, F, h1, h2, h3, h4⟩ => ⟨p, h1, F, h2, fun k hk => Nat.le_trans hB.size (h3 k hk), hB.trans (h4.mono hB.size)⟩
theorem mine_seal (p : Nat) (need : Int) (C : List Ciph) (label : Int) (a : Option Addr) (l : List UInt8) (cap : Nat) (w x : World) (h : Mine w x p need C) (hn : C.length ≤ 1000000000) (ha : BytesAt x a l) (han : a = none → l = []) (hl : l.length ≤ 1000000000) :
    Calls Try.prog 44 #[.pointer (some ⟨p, 0, none⟩), .int .i64 label, .slice a l.length cap] x fun e y => e = .returned (.int .i64 ((C.length : Int) + 1)) ∧ Mine w y p need (C ++ [⟨label, l, []⟩]) := by
  obtain ⟨F, h1, h2, h3⟩ := h
  exact (seal_seal p F need C label a l cap x h1 hn ha han hl).mono fun _ _ ⟨e, ⟨F', hv, hF⟩, hc⟩ => ⟨e, Mine.step h2 h3 hv hF hc⟩
theorem mine_share (p : Nat) (need : Int) (C : List Ciph) (who c : Int) (j : Nat) (q : Ciph) (w x : World) (h : Mine w x p need C) (hc : c = (j : Int) + 1) (hx : C[j]? = some q) (hwho : (Lit.int .i64 who).wf = true) :
    Calls Try.prog 48 #[.pointer (some ⟨p, 0, none⟩), .int .i64 who, .int .i64 c] x fun e y => e = .returned (.bool true) ∧ Mine w y p need (C.set j { q with shares := addTo q.shares who }) := by
  obtain ⟨F, h1, h2, h3⟩ := h
  exact (seal_share_yes p F need C who c j q x h1 hc hx hwho).mono fun _ _ ⟨e, hv, hcc⟩ => ⟨e, Mine.step h2 h3 hv (fun k hk => .inl hk) hcc⟩
theorem mine_share_no (p : Nat) (need : Int) (C : List Ciph) (who c : Int) (w x : World) (h : Mine w x p need C) (hc : ¬ (1 ≤ c ∧ c ≤ C.length)) :
    Calls Try.prog 48 #[.pointer (some ⟨p, 0, none⟩), .int .i64 who, .int .i64 c] x fun e y => e = .returned (.bool false) ∧ x = y := by
  obtain ⟨F, h1, _⟩ := h
  exact seal_share_no p F need C who c x h1 hc
theorem mine_open (p : Nat) (need : Int) (C : List Ciph) (label c : Int) (j : Nat) (q : Ciph) (w x : World) (h : Mine w x p need C) (hc : c = (j : Int) + 1) (hx : C[j]? = some q) (hpl : q.plain.length ≤ 1000000000) :
    Calls Try.prog 45 #[.pointer (some ⟨p, 0, none⟩), .int .i64 label, .int .i64 c] x (Opened (openC need q label) x) := by
  obtain ⟨F, h1, _⟩ := h
  exact seal_open_yes p F need C label c j q x h1 hc hx hpl
theorem mine_open_no (p : Nat) (need : Int) (C : List Ciph) (label c : Int) (w x : World) (h : Mine w x p need C) (hc : ¬ (1 ≤ c ∧ c ≤ C.length)) :
    Calls Try.prog 45 #[.pointer (some ⟨p, 0, none⟩), .int .i64 label, .int .i64 c] x (Opened none x) := by
  obtain ⟨F, h1, _⟩ := h
  exact seal_open_no p F need C label c x h1 hc
theorem mine_shares (p : Nat) (need : Int) (C : List Ciph) (c : Int) (j : Nat) (q : Ciph) (w x : World) (h : Mine w x p need C) (hc : c = (j : Int) + 1) (hx : C[j]? = some q) (hsz : q.shares.length * 8 ≤ 140737488355328) :
    Calls Try.prog 47 #[.pointer (some ⟨p, 0, none⟩), .int .i64 c] x (BookAll q.shares x) := by
  obtain ⟨F, h1, _⟩ := h
  exact seal_shares_yes p F need C c j q x h1 hc hx hsz
theorem mine_shares_no (p : Nat) (need : Int) (C : List Ciph) (c : Int) (w x : World) (h : Mine w x p need C) (hc : ¬ (1 ≤ c ∧ c ≤ C.length)) :
    Calls Try.prog 47 #[.pointer (some ⟨p, 0, none⟩), .int .i64 c] x (BookAll [] x) := by
  obtain ⟨F, h1, _⟩ := h
  exact seal_shares_no p F need C c x h1 hc
theorem mine_shared (p : Nat) (need : Int) (C : List Ciph) (who c : Int) (j : Nat) (q : Ciph) (w x : World) (h : Mine w x p need C) (hc : c = (j : Int) + 1) (hx : C[j]? = some q) :
    Calls Try.prog 50 #[.pointer (some ⟨p, 0, none⟩), .int .i64 who, .int .i64 c] x fun e y => e = .returned (.bool (decide (who ∈ q.shares))) ∧ x = y := by
  obtain ⟨F, h1, _⟩ := h
  exact seal_shared_yes p F need C who c j q x h1 hc hx
theorem mine_shared_no (p : Nat) (need : Int) (C : List Ciph) (who c : Int) (w x : World) (h : Mine w x p need C) (hc : ¬ (1 ≤ c ∧ c ≤ C.length)) :
    Calls Try.prog 50 #[.pointer (some ⟨p, 0, none⟩), .int .i64 who, .int .i64 c] x fun e y => e = .returned (.bool false) ∧ x = y := by
  obtain ⟨F, h1, _⟩ := h
  exact seal_shared_no p F need C who c x h1 hc
theorem mine_len (p : Nat) (need : Int) (C : List Ciph) (w x : World) (h : Mine w x p need C) :
    Calls Try.prog 49 #[.pointer (some ⟨p, 0, none⟩)] x fun e y => e = .returned (.int .i64 C.length) ∧ x = y := by
  obtain ⟨F, h1, _⟩ := h
  exact seal_len p F need C x h1
/-- string(b) of a slice of bytes that the code owns. -/
theorem Own.string {w : World} {a : Option Addr} {cap : Nat} {l : List UInt8} (h : Own 5 1 w (.slice a l.length cap) l.length (bcells l)) : (convert 72 9 (.slice a l.length cap)).run Try.prog w = .ok (.string ⟨l.toArray⟩) w := by
  obtain ⟨a', cap', e, _, hb, _⟩ := h.bytes
  cases e
  exact bytes_string hb cap
theorem Opened.no {w w' : World} {e : Ending} (h : Opened none w e w') : e = .returned (.tuple #[.slice none 0 0, .bool false]) ∧ Chg none_ w w' := h
theorem Opened.yes {l : List UInt8} {w w' : World} {e : Ending} (h : Opened (some l) w e w') : ∃ a cap, e = .returned (.tuple #[.slice a l.length cap, .bool true]) ∧ Own 5 1 w' (.slice a l.length cap) l.length (bcells l) ∧ (∀ k, (Value.slice a l.length cap).ownBlock = some k → w.heap.size ≤ k) ∧ Chg none_ w w' := by
  obtain ⟨v, h1, h2, h3, h4⟩ := h
  obtain ⟨a, cap, rfl, -⟩ := h2.open
  exact ⟨a, cap, h1, h2, h3, h4⟩

/-- The bytes of one byte's block, just laid. -/
theorem bytes_laid (w : World) (t : TypeId) (fr : Nat × Nat) (k : Nat) (hk : k = w.heap.size) : BytesAt (w.alloc (.cells #[.int .u8 120] t fr)) (some ⟨k, 0, none⟩) [120] := by
  refine .inr ⟨k, 0, rfl, fun i hi => ?_⟩
  rw [cell_of_blk (alloc_new w _ _ hk)]
  match i, hi with
  | 0, _ => rfl

set_option maxRecDepth 100000 in
set_option maxHeartbeats 4000000 in
theorem seal_awake (w : World) : Calls Try.prog 42 #[] w fun e w' => e = .returned (.bool true) ∧ Below w.heap.size w w' := by
  have kc := fun (w : World) (C : Array Value) (n c : Nat) => Lib.run_convert_bytes_const (P := Try.prog) w 72 5 C n c Try.underlying72 Try.underlying5
  go_enter Try.func42, Try.ntmps42
  go_wp2_with fail
  refine (mine_new 2 w w (Below.refl _ _)).mono ?_
  rintro e w1 ⟨p, rfl, h1⟩
  rw [show max (2 : Int) 1 = 2 from rfl] at h1
  go_wp2_with fail
  refine (mine_seal p 2 [] 5 (some ⟨w1.heap.size, 0, none⟩) [120] 1 w _ (h1.chg0 ((Chg.refl _ _).alloc _)) (by decide) (bytes_laid w1 _ _ _ rfl) (by intro h; cases h) (by decide)).mono ?_
  rintro e w2 ⟨rfl, h2⟩
  go_wp2_with fail
  refine (mine_seal p 2 _ 5 (some ⟨w2.heap.size, 0, none⟩) [120] 1 w _ (h2.chg0 ((Chg.refl _ _).alloc _)) (by decide) (bytes_laid w2 _ _ _ rfl) (by intro h; cases h) (by decide)).mono ?_
  rintro e w3 ⟨rfl, h3⟩
  clear h1 h2
  go_wp2_with fail
  refine (mine_share p 2 _ 1 1 0 ⟨5, [120], []⟩ w _ h3 (by decide) rfl (by decide)).mono ?_
  rintro e w4 ⟨rfl, h4⟩
  replace h4 : Mine w w4 p 2 [⟨5, [120], [1]⟩, ⟨5, [120], []⟩] := h4
  clear h3
  go_wp2_with fail
  refine (mine_open p 2 _ 5 1 0 ⟨5, [120], [1]⟩ w _ h4 (by decide) rfl (by decide)).mono ?_
  intro e w5 ho5
  obtain ⟨rfl, hc5⟩ := Opened.no ho5
  replace h4 := h4.chg0 hc5
  go_wp2_with fail
  refine (mine_share p 2 _ 1 1 0 ⟨5, [120], [1]⟩ w _ h4 (by decide) rfl (by decide)).mono ?_
  rintro e w6 ⟨rfl, h6⟩
  replace h6 : Mine w w6 p 2 [⟨5, [120], [1]⟩, ⟨5, [120], []⟩] := h6
  clear h4
  go_wp2_with fail
  refine (mine_open p 2 _ 5 1 0 ⟨5, [120], [1]⟩ w _ h6 (by decide) rfl (by decide)).mono ?_
  intro e w7 ho7
  obtain ⟨rfl, hc7⟩ := Opened.no ho7
  replace h6 := h6.chg0 hc7
  go_wp2_with fail
  refine (mine_share p 2 _ 2 1 0 ⟨5, [120], [1]⟩ w _ h6 (by decide) rfl (by decide)).mono ?_
  rintro e w8 ⟨rfl, h8⟩
  replace h8 : Mine w w8 p 2 [⟨5, [120], [1, 2]⟩, ⟨5, [120], []⟩] := h8
  clear h6
  go_wp2_with fail
  refine (mine_open p 2 _ 5 1 0 ⟨5, [120], [1, 2]⟩ w _ h8 (by decide) rfl (by decide)).mono ?_
  intro e w9 ho9
  obtain ⟨a9, cp9, rfl, hx9, hb9, hc9⟩ := Opened.yes (l := [120]) ho9
  replace h8 := h8.chg0 hc9
  go_wp2_with fail
  refine (mine_open p 2 _ 6 1 0 ⟨5, [120], [1, 2]⟩ w _ h8 (by decide) rfl (by decide)).mono ?_
  intro e w10 ho10
  obtain ⟨rfl, hc10⟩ := Opened.no ho10
  replace h8 := h8.chg0 hc10
  replace hx9 := hx9.chg hc10 (fun _ _ h => h)
  have hstr : (convert 72 9 (.slice a9 1 cp9)).run Try.prog w10 = .ok (.string ⟨#[120]⟩) w10 := hx9.string
  clear ho5 ho7 ho9 ho10 hx9 hb9 hc5 hc7 hc9 hc10
  go_wp2_with fail
  refine (mine_share_no p 2 _ 1 3 w w10 h8 (by decide)).mono ?_
  rintro e _ ⟨rfl, rfl⟩
  go_wp2_with fail
  refine (mine_shares p 2 _ 1 0 ⟨5, [120], [1, 2]⟩ w w10 h8 (by decide) rfl (by decide)).mono ?_
  intro e w11 ho11
  obtain ⟨a, cap, rfl, hi, hB11, ha⟩ := BookAll.open (l := [1, 2]) ho11
  have h11 := h8.chg0 (Chg.of_below hB11)
  have e12 : rising [1, 2] = [1, 2] := rising_eq (List.Perm.refl _) (by simp)
  rw [e12] at hi
  clear e12 ho11 h8
  go_wp2_with fail
  refine (sameints_any a _ [1, 2] [1, 2] cap 2 _ (hi.below ((Below.refl _ _).alloc (Nat.le_refl _) _)) (.inr ⟨w11.heap.size, 0, rfl, ?_⟩) (by decide) (by decide)).mono ?_
  · intro i hi
    rw [cell_of_blk (alloc_new w11 _ _ rfl)]
    match i, hi with
    | 0, _ => rfl
    | 1, _ => rfl
  rintro e w12 ⟨rfl, hc12⟩
  have h12 := h11.chg0 (((Chg.refl _ _).alloc _).trans hc12)
  clear h11 hc12 hi hB11
  go_wp2_with fail
  refine (mine_len p 2 _ w w12 h12).mono ?_
  rintro e _ ⟨rfl, rfl⟩
  go_wp2_with fail
  go_ret
  exact ⟨rfl, h12.below⟩
end Go.Proofs.Ytjllejlgclfahaa
