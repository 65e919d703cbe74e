/-
  Things in memory that lie apart: a thing says something of a world and holds some blocks; 'Sys w m l': in the world w lie the named things m and the stack of things l, each in blocks of its own.
-/
import Derived.Test.YtcfhkpjheemkgaaSign
import Derived.Test.YtcfhkpjheemkgaaAppend
namespace Go.Proofs.Ytcfhkpjheemkgaa
set_option linter.unusedSectionVars false
set_option linter.unusedSimpArgs false
set_option linter.unusedVariables false
open Go.RowKit Go.MapKept

theorem Own.slice {E size n : Nat} {w : World} {v : Value} {xs : List Value} (h : Own E size w v n xs) : ∃ a k cap, v = .slice a k cap ∧ Hid (k = n) := by
  obtain ⟨a, cap, h, -⟩ := h.open
  exact ⟨a, n, cap, h, rfl⟩
structure Thing where
  P : World → (Nat → Prop) → Prop
  lt : ∀ {w : World} {F : Nat → Prop}, P w F → ∀ k, F k → k < w.heap.size
  chg : ∀ {w w' : World} {F S : Nat → Prop}, P w F → Chg S w w' → (∀ k, F k → ¬ S k) → P w' F

def emp : Thing := ⟨fun _ F => ∀ k, ¬ F k, fun h k hk => (h k hk).elim, fun h _ _ => h⟩
/-- A block known whole. -/
def blk (n : Nat) (o : Obj) : Thing := ⟨fun w F => w.heap[n]? = some o ∧ F = (· = n), fun h k hk => by obtain ⟨h, rfl⟩ := h; obtain rfl : k = n := hk; exact blk_lt h, fun h hc hs => by obtain ⟨h, rfl⟩ := h; exact ⟨hc.blk h (hs n rfl), rfl⟩⟩
/-- A row of the code's own (or nil). -/
def own (E size : Nat) (v : Value) (n : Nat) (xs : List Value) : Thing := ⟨fun w F => Own E size w v n xs ∧ F = (fun k => v.ownBlock = some k), fun h k hk => by obtain ⟨h, rfl⟩ := h; exact h.lt hk, fun h hc hs => by obtain ⟨h, rfl⟩ := h; exact ⟨h.chg hc hs, rfl⟩⟩
/-- A map. -/
def mapT {α : Type} [DecidableEq α] (K : KeyEnc α) (b : Nat) (m : List (α × Value)) : Thing := ⟨fun w F => MapOf K w b m ∧ F = (· = b), fun h k hk => by obtain ⟨h, rfl⟩ := h; obtain rfl : k = b := hk; exact h.lt, fun h hc hs => by obtain ⟨h, rfl⟩ := h; exact ⟨h.chg hc (hs b rfl), rfl⟩⟩
/-- What lay there when the world was W is as it was. -/
def base (W : World) : Thing := ⟨fun w F => Below W.heap.size W w ∧ F = (· < W.heap.size), fun h k hk => by obtain ⟨h, rfl⟩ := h; exact Nat.lt_of_lt_of_le hk h.size,
  fun h hc hs => by
    obtain ⟨h, rfl⟩ := h
    exact ⟨⟨hc.os.trans h.os, hc.tape.trans h.tape, hc.output.trans h.output, Nat.le_trans h.size hc.size, fun k hk => (hc.block k (Nat.lt_of_lt_of_le hk h.size) (hs k hk)).trans (h.block k hk)⟩, rfl⟩⟩
/-- Several things as one. -/
def Parts (w : World) : List Thing → (Nat → Prop) → Prop
  | [], F => ∀ k, ¬ F k
  | t :: l, F => ∃ G H, t.P w G ∧ Parts w l H ∧ (∀ k, G k → ¬ H k) ∧ ∀ k, F k ↔ G k ∨ H k
theorem Parts.lt {w : World} : ∀ {l : List Thing} {F : Nat → Prop}, Parts w l F → ∀ k, F k → k < w.heap.size
  | [], _, h, k, hk => (h k hk).elim
  | t :: l, F, ⟨G, H, hG, hH, _, hF⟩, k, hk => ((hF k).1 hk).elim (t.lt hG k) (Parts.lt hH k)
theorem Parts.chg {w w' : World} {S : Nat → Prop} (hc : Chg S w w') : ∀ {l : List Thing} {F : Nat → Prop}, Parts w l F → (∀ k, F k → ¬ S k) → Parts w' l F
  | [], _, h, _ => h
  | t :: l, F, ⟨G, H, hG, hH, hd, hF⟩, hs => ⟨G, H, t.chg hG hc (fun k hk => hs k ((hF k).2 (.inl hk))), Parts.chg hc hH (fun k hk => hs k ((hF k).2 (.inr hk))), hd, hF⟩
def ex {α : Type} (f : α → List Thing) : Thing := ⟨fun w F => ∃ a, Parts w (f a) F, fun ⟨_, h⟩ => h.lt, fun ⟨a, h⟩ hc hs => ⟨a, h.chg hc hs⟩⟩

def upd (m : Nat → Thing) (i : Nat) (t : Thing) : Nat → Thing := fun j => if j = i then t else m j
theorem upd_same (m : Nat → Thing) (i : Nat) (t : Thing) : upd m i t i = t := if_pos rfl
theorem upd_ne {m : Nat → Thing} {i j : Nat} {t x : Thing} (h : j ≠ i) (hm : m j = x) : upd m i t j = x := (if_neg h).trans hm
theorem upd_upd (m : Nat → Thing) (i : Nat) (t u : Thing) : upd (upd m i t) i u = upd m i u := by
  funext j; unfold upd; split <;> rfl
theorem upd_self {m : Nat → Thing} {i : Nat} {t : Thing} (h : m i = t) : upd m i t = m := by
  funext j; unfold upd; split
  · next e => rw [e, h]
  · rfl
theorem upd_comm (m : Nat → Thing) {i j : Nat} (t u : Thing) (h : i ≠ j) : upd (upd m i t) j u = upd (upd m j u) i t := by
  funext k; unfold upd
  by_cases e : k = j
  · subst e; simp [Ne.symm h]
  · simp [e]

/-- The things and the blocks that they hold, in U. -/
def SysL (w : World) (m : Nat → Thing) : List Thing → (Nat → Prop) → Prop
  | [], U => ∃ O : Nat → Nat → Prop, (∀ i, (m i).P w (O i)) ∧ (∀ i j k, O i k → O j k → i = j) ∧ ∀ k, U k ↔ ∃ i, O i k
  | t :: l, U => ∃ F V, t.P w F ∧ SysL w m l V ∧ (∀ k, F k → ¬ V k) ∧ ∀ k, U k ↔ F k ∨ V k
def Sys (w : World) (m : Nat → Thing) (l : List Thing) : Prop := ∃ U, SysL w m l U
section
variable {w w' : World} {m : Nat → Thing} {l : List Thing} {a b t : Thing}
theorem SysL.lt : ∀ {l : List Thing} {U : Nat → Prop}, SysL w m l U → ∀ k, U k → k < w.heap.size
  | [], _, ⟨O, hO, _, hU⟩, k, hk => by obtain ⟨i, hi⟩ := (hU k).1 hk; exact (m i).lt (hO i) k hi
  | t :: l, _, ⟨F, V, hF, hV, _, hU⟩, k, hk => ((hU k).1 hk).elim (t.lt hF k) (SysL.lt hV k)
theorem SysL.chg {S : Nat → Prop} (hc : Chg S w w') : ∀ {l : List Thing} {U : Nat → Prop}, SysL w m l U → (∀ k, U k → ¬ S k) → SysL w' m l U
  | [], _, ⟨O, hO, hd, hU⟩, hs => ⟨O, fun i => (m i).chg (hO i) hc (fun k hk => hs k ((hU k).2 ⟨i, hk⟩)), hd, hU⟩
  | t :: l, _, ⟨F, V, hF, hV, hd, hU⟩, hs => ⟨F, V, t.chg hF hc (fun k hk => hs k ((hU k).2 (.inl hk))), SysL.chg hc hV (fun k hk => hs k ((hU k).2 (.inr hk))), hd, hU⟩
theorem Sys.chg0 (h : Sys w m l) (hc : Chg none_ w w') : Sys w' m l := h.imp fun _ h => h.chg hc fun _ _ e => e
theorem Sys.below (h : Sys w m l) (hb : Below w.heap.size w w') : Sys w' m l := h.chg0 (Chg.of_below hb)
theorem Sys.drew (h : Sys w m l) : Sys w.drew m l := h.chg0 (Chg.refl _ _).drew
theorem Sys.drewN (h : Sys w m l) (n : Nat) : Sys (w.drewN n) m l := h.chg0 ((Chg.refl _ _).drewN n)
theorem Sys.tail (h : Sys w m (t :: l)) : Sys w m l := by obtain ⟨_, F, V, _, hV, _⟩ := h; exact ⟨V, hV⟩
/-- A new thing, in blocks that were not there. -/
theorem Sys.push (h : Sys w m l) (hc : Chg none_ w w') {F : Nat → Prop} (ht : t.P w' F) (hn : ∀ k, F k → w.heap.size ≤ k) : Sys w' m (t :: l) := by
  obtain ⟨V, hV⟩ := h
  exact ⟨fun k => F k ∨ V k, F, V, ht, hV.chg hc (fun _ _ e => e), fun k hk hv => by have := hV.lt k hv; have := hn k hk; omega, fun _ => Iff.rfl⟩
theorem Sys.alloc (h : Sys w m l) (o : Obj) {n : Nat} (hn : n = w.heap.size) : Sys (w.alloc o) m (blk n o :: l) :=
  h.push ((Chg.refl _ _).alloc o) (F := (· = n)) ⟨alloc_new w o n hn, rfl⟩ (fun k hk => by have e : k = n := hk; omega)
theorem Sys.alloc0 (h : Sys w m l) (o : Obj) : Sys (w.alloc o) m l := h.chg0 ((Chg.refl _ _).alloc o)
/-- What a thing has become: it lies where it lay, or in new blocks; nothing else has turned. -/
def To (F : Nat → Prop) (t : Thing) (w w' : World) : Prop := ∃ F', t.P w' F' ∧ (∀ k, F' k → F k ∨ w.heap.size ≤ k) ∧ Chg F w w'
theorem Sys.head (h : Sys w m (t :: l)) : ∃ F, t.P w F ∧ (∀ k, F k → k < w.heap.size) ∧ (∀ w', Chg F w w' → Sys w' m l) ∧ ∀ w' t', To F t' w w' → Sys w' m (t' :: l) := by
  obtain ⟨_, F, V, hF, hV, hd, _⟩ := h
  refine ⟨F, hF, t.lt hF, fun w' hc => ⟨V, hV.chg hc fun k hk hf => hd k hf hk⟩, fun w' t' ⟨F', hF', hn, hc⟩ => ⟨fun k => F' k ∨ V k, F', V, hF', hV.chg hc (fun k hk hf => hd k hf hk), fun k hk hv => ?_, fun _ => Iff.rfl⟩⟩
  rcases hn k hk with hk | hk
  · exact hd k hk hv
  · have := hV.lt k hv; omega
theorem Sys.swap (h : Sys w m (a :: b :: l)) : Sys w m (b :: a :: l) := by
  obtain ⟨U, F, V, hF, ⟨G, X, hG, hX, hd2, hV⟩, hd, hU⟩ := h
  exact ⟨U, G, fun k => F k ∨ X k, hG, ⟨F, X, hF, hX, fun k hk hx => hd k hk ((hV k).2 (.inr hx)), fun _ => Iff.rfl⟩, fun k hk hx => hx.elim (fun hf => hd k hf ((hV k).2 (.inl hk))) (hd2 k hk), fun k => by rw [hU, hV]; constructor <;> (rintro (h | h | h) <;> simp [h])⟩
theorem SysL.mono {l l' : List Thing} (f : ∀ U, SysL w m l U → SysL w m l' U) {U : Nat → Prop} (h : SysL w m (t :: l) U) : SysL w m (t :: l') U := by
  obtain ⟨F, V, hF, hV, hd, hU⟩ := h
  exact ⟨F, V, hF, f V hV, hd, hU⟩
theorem SysL.swap {U : Nat → Prop} (h : SysL w m (a :: b :: l) U) : SysL w m (b :: a :: l) U := by
  obtain ⟨F, V, hF, ⟨G, X, hG, hX, hd2, hV⟩, hd, hU⟩ := h
  exact ⟨G, fun k => F k ∨ X k, hG, ⟨F, X, hF, hX, fun k hk hx => hd k hk ((hV k).2 (.inr hx)), fun _ => Iff.rfl⟩, fun k hk hx => hx.elim (fun hf => hd k hf ((hV k).2 (.inl hk))) (hd2 k hk), fun k => by rw [hU, hV]; constructor <;> (rintro (h | h | h) <;> simp [h])⟩
theorem SysL.perm {l l' : List Thing} (h : l.Perm l') : ∀ U, SysL w m l U → SysL w m l' U := by
  induction h with
  | nil => exact fun _ h => h
  | cons x _ ih => exact fun _ h => h.mono ih
  | swap x y l => exact fun _ h => h.swap
  | trans _ _ ih1 ih2 => exact fun U h => ih2 U (ih1 U h)
theorem Sys.perm {l' : List Thing} (h : Sys w m l) (hp : l.Perm l') : Sys w m l' := h.imp fun U hU => SysL.perm hp U hU
theorem erase_perm {α : Type _} : ∀ (l : List α) (i : Nat) (t : α), l[i]? = some t → l.Perm (t :: l.eraseIdx i)
  | [], _, _, h => by simp at h
  | a :: l, 0, t, h => by simp at h; subst h; exact List.Perm.refl _
  | a :: l, i + 1, t, h => ((erase_perm l i t (by simpa using h)).cons a).trans (List.Perm.swap _ _ _)
/-- The i-th thing of the stack, to the front. -/
theorem Sys.front (i : Nat) (h : Sys w m l) (hi : l[i]? = some t) : Sys w m (t :: l.eraseIdx i) := by
  exact h.perm (erase_perm l i t hi)
theorem SysL.parts {f : List Thing} : ∀ {U : Nat → Prop}, SysL w m (f ++ l) U ↔ ∃ F V, Parts w f F ∧ SysL w m l V ∧ (∀ k, F k → ¬ V k) ∧ ∀ k, U k ↔ F k ∨ V k := by
  induction f with
  | nil =>
    intro U
    constructor
    · exact fun h => ⟨fun _ => False, U, fun _ h => h, h, fun _ h => h.elim, fun k => by simp⟩
    · rintro ⟨F, V, hF, hV, hd, hU⟩
      have e : U = V := by funext k; exact propext ((hU k).trans ⟨fun h => h.elim (fun h => (hF k h).elim) id, .inr⟩)
      rw [e]; exact hV
  | cons t f ih =>
    intro U
    constructor
    · rintro ⟨F, V, hF, hV, hd, hU⟩
      obtain ⟨G, X, hG, hX, hd2, hV2⟩ := ih.1 hV
      exact ⟨fun k => F k ∨ G k, X, ⟨F, G, hF, hG, fun k hk hg => hd k hk ((hV2 k).2 (.inl hg)), fun _ => Iff.rfl⟩, hX, fun k hk hx => hk.elim (fun hf => hd k hf ((hV2 k).2 (.inr hx))) (fun hg => hd2 k hg hx), fun k => by rw [hU, hV2, or_assoc]⟩
    · rintro ⟨F, V, ⟨G, X, hG, hX, hd2, hF⟩, hV, hd, hU⟩
      exact ⟨G, fun k => X k ∨ V k, hG, ih.2 ⟨X, V, hX, hV, fun k hk hv => hd k ((hF k).2 (.inr hk)) hv, fun _ => Iff.rfl⟩, fun k hk hx => hx.elim (hd2 k hk) (hd k ((hF k).2 (.inl hk))), fun k => by rw [hU, hF, or_assoc]⟩
theorem Sys.open {α : Type} {f : α → List Thing} (h : Sys w m (ex f :: l)) : ∃ a, Sys w m (f a ++ l) := by
  obtain ⟨U, F, V, ⟨a, hF⟩, hV, hd, hU⟩ := h
  exact ⟨a, U, SysL.parts.2 ⟨F, V, hF, hV, hd, hU⟩⟩
theorem Sys.close {α : Type} {f : α → List Thing} (x : α) (h : Sys w m (f x ++ l)) : Sys w m (ex f :: l) := by
  obtain ⟨U, h⟩ := h
  obtain ⟨F, V, hF, hV, hd, hU⟩ := SysL.parts.1 h
  exact ⟨U, F, V, ⟨x, hF⟩, hV, hd, hU⟩
/-- A named thing, onto the stack. -/
theorem SysL.lift (i : Nat) : ∀ {l : List Thing} {U : Nat → Prop}, SysL w m l U → SysL w (upd m i emp) (m i :: l) U
  | [], U, ⟨O, hO, hd, hU⟩ => ⟨O i, fun k => ∃ j, j ≠ i ∧ O j k, hO i, ⟨fun j k => j ≠ i ∧ O j k, fun j => by
      by_cases e : j = i
      · subst e; rw [upd_same]; exact fun k hk => hk.1 rfl
      · rw [upd_ne e rfl]
        have : (fun k => j ≠ i ∧ O j k) = O j := by funext k; simp [e]
        show (m j).P w (fun k => j ≠ i ∧ O j k); rw [this]; exact hO j, fun j j' k h h' => hd j j' k h.2 h'.2, fun k => Iff.rfl⟩, fun k hk ⟨j, hj, hk'⟩ => hj (hd j i k hk' hk), fun k => by
      rw [hU]
      constructor
      · rintro ⟨j, hj⟩
        by_cases e : j = i
        · subst e; exact .inl hj
        · exact .inr ⟨j, e, hj⟩
      · rintro (h | ⟨j, _, h⟩)
        · exact ⟨_, h⟩
        · exact ⟨_, h⟩⟩
  | t :: l, U, ⟨F, V, hF, hV, hd, hU⟩ => SysL.swap ⟨F, V, hF, SysL.lift i hV, hd, hU⟩
theorem Sys.lift (i : Nat) {x : Thing} (hx : m i = x) (h : Sys w m l) : Sys w (upd m i emp) (x :: l) := by subst hx; exact h.imp fun _ h => h.lift i
def pick (i : Nat) (F : Nat → Prop) (O : Nat → Nat → Prop) : Nat → Nat → Prop := fun j => if j = i then F else O j
theorem pick_same (i : Nat) (F : Nat → Prop) (O : Nat → Nat → Prop) : pick i F O i = F := if_pos rfl
theorem pick_ne {i j : Nat} (F : Nat → Prop) (O : Nat → Nat → Prop) (h : j ≠ i) : pick i F O j = O j := if_neg h
theorem SysL.putN {i : Nat} (hi : m i = emp) : ∀ {l : List Thing} {U : Nat → Prop}, SysL w m (t :: l) U → SysL w (upd m i t) l U
  | [], U, ⟨F, V, hF, ⟨O, hO, hd2, hV⟩, hd, hU⟩ => by
    have hOi : ∀ k, ¬ O i k := by have := hO i; rw [hi] at this; exact this
    refine ⟨pick i F O, fun j => ?_, fun j j' k h h' => ?_, fun k => ?_⟩
    · by_cases e : j = i
      · subst e; rw [upd_same, pick_same]; exact hF
      · rw [upd_ne e rfl, pick_ne _ _ e]; exact hO j
    · by_cases e : j = i
      · by_cases e' : j' = i
        · rw [e, e']
        · subst e; rw [pick_same] at h; rw [pick_ne _ _ e'] at h'; exact (hd k h ((hV k).2 ⟨_, h'⟩)).elim
      · by_cases e' : j' = i
        · subst e'; rw [pick_ne _ _ e] at h; rw [pick_same] at h'; exact (hd k h' ((hV k).2 ⟨_, h⟩)).elim
        · rw [pick_ne _ _ e] at h; rw [pick_ne _ _ e'] at h'; exact hd2 _ _ k h h'
    · rw [hU]
      constructor
      · rintro (h | h)
        · exact ⟨i, by rw [pick_same]; exact h⟩
        · obtain ⟨j, hj⟩ := (hV k).1 h
          have e : j ≠ i := by rintro rfl; exact hOi k hj
          exact ⟨j, by rw [pick_ne _ _ e]; exact hj⟩
      · rintro ⟨j, hj⟩
        by_cases e : j = i
        · subst e; rw [pick_same] at hj; exact .inl hj
        · rw [pick_ne _ _ e] at hj; exact .inr ((hV k).2 ⟨_, hj⟩)
  | u :: l, U, h => by
    obtain ⟨F, V, hF, hV, hd, hU⟩ := h.swap
    exact ⟨F, V, hF, SysL.putN hi hV, hd, hU⟩
theorem Sys.put (i : Nat) (h : Sys w (upd m i emp) (t :: l)) : Sys w (upd m i t) l := by
  have := h.imp fun _ h => h.putN (i := i) (upd_same _ _ _)
  rwa [upd_upd] at this
theorem Sys.putN (i : Nat) (hi : m i = emp) (h : Sys w m (t :: l)) : Sys w (upd m i t) l := h.imp fun _ h => h.putN hi
/-- Of a named thing, as of the head. -/
theorem Sys.named {i : Nat} (h : Sys w m l) (hi : m i = t) : ∃ F, t.P w F ∧ (∀ k, F k → k < w.heap.size) ∧ ∀ w' t', To F t' w w' → Sys w' (upd m i t') l := by
  obtain ⟨F, h1, h2, _, h4⟩ := (h.lift i hi).head
  exact ⟨F, h1, h2, fun w' t' ht => (h4 w' t' ht).put⟩
theorem Sys.mem (h : Sys w m l) (ht : t ∈ l) : ∃ F, t.P w F := by
  obtain ⟨i, hi⟩ := List.getElem?_of_mem ht
  obtain ⟨F, hF, _⟩ := (h.front i hi).head
  exact ⟨F, hF⟩
theorem Sys.memBlk {n : Nat} {o : Obj} (h : Sys w m l) (ht : blk n o ∈ l) : w.heap[n]? = some o := by obtain ⟨F, hF⟩ := h.mem ht; exact hF.1
theorem Sys.getBlk {n : Nat} {o : Obj} (h : Sys w m (blk n o :: l)) : w.heap[n]? = some o := by obtain ⟨F, h, _⟩ := h.head; exact h.1
theorem Sys.getBlkN {i n : Nat} {o : Obj} (h : Sys w m l) (hi : m i = blk n o) : w.heap[n]? = some o := by obtain ⟨F, h, _⟩ := h.named hi; exact h.1
theorem Sys.getOwn {E size n : Nat} {v : Value} {xs : List Value} (h : Sys w m (own E size v n xs :: l)) : Own E size w v n xs := by obtain ⟨F, h, _⟩ := h.head; exact h.1
theorem Sys.getMap {α : Type} [DecidableEq α] {K : KeyEnc α} {b : Nat} {x : List (α × Value)} (h : Sys w m (mapT K b x :: l)) : MapOf K w b x := by obtain ⟨F, h, _⟩ := h.head; exact h.1
theorem Sys.getBase {W : World} (h : Sys w m (base W :: l)) : Below W.heap.size W w := by obtain ⟨F, h, _⟩ := h.head; exact h.1
theorem Sys.start (W : World) : Sys W (fun _ => emp) [base W] :=
  ⟨_, _, fun _ => False, ⟨Below.refl _ _, rfl⟩, ⟨fun _ _ => False, fun _ _ h => h, fun _ _ _ h => h.elim, fun k => by simp⟩, fun _ _ h => h, fun _ => Iff.rfl⟩
/-- A thing's block turned, by stores into it. -/
theorem Sys.store {n : Nat} {o o' : Obj} (h : Sys w m (blk n o :: l)) (hc : Chg (· = n) w w') (ho : w'.heap[n]? = some o') : Sys w' m (blk n o' :: l) := by
  obtain ⟨F, ⟨_, rfl⟩, _, _, h4⟩ := h.head
  exact h4 _ _ ⟨(· = n), ⟨ho, rfl⟩, fun k hk => .inl hk, hc⟩
theorem Sys.setCell {n i : Nat} {cs : Array Value} {ty : TypeId} {fr : Nat × Nat} (h : Sys w m (blk n (.cells cs ty fr) :: l)) (v : Value) : Sys (w.setCell ⟨n, i, none⟩ v) m (blk n (.cells (cs.setIfInBounds i v) ty fr) :: l) :=
  h.store ((Chg.refl _ _).put i v) (setCell_same v h.getBlk)
theorem Sys.ownTo {E size n n' : Nat} {v v' : Value} {xs xs' : List Value} (h : Sys w m (own E size v n xs :: l)) (ho : Own E size w' v' n' xs') (hc : Chg (fun k => v.ownBlock = some k) w w') (hb : v'.ownBlock = v.ownBlock ∨ ∃ k, v'.ownBlock = some k ∧ w.heap.size ≤ k) : Sys w' m (own E size v' n' xs' :: l) := by
  obtain ⟨F, ⟨_, rfl⟩, _, _, h4⟩ := h.head
  refine h4 _ _ ⟨fun k => v'.ownBlock = some k, ⟨ho, rfl⟩, fun k hk => ?_, hc⟩
  rcases hb with hb | ⟨k', hk', hle⟩
  · exact .inl (hb ▸ hk)
  · rw [hk'] at hk; cases hk; exact .inr hle
theorem Sys.mapTo {α : Type} [DecidableEq α] {K : KeyEnc α} {b : Nat} {x x' : List (α × Value)} (h : Sys w m (mapT K b x :: l)) (ho : MapOf K w' b x') (hc : Chg (· = b) w w') : Sys w' m (mapT K b x' :: l) := by
  obtain ⟨F, ⟨_, rfl⟩, _, _, h4⟩ := h.head
  exact h4 _ _ ⟨(· = b), ⟨ho, rfl⟩, fun k hk => .inl hk, hc⟩
theorem Sys.pushOwn {E size n : Nat} {v : Value} {xs : List Value} (h : Sys w m l) (hB : Below w.heap.size w w') (ho : Own E size w' v n xs) (hn : ∀ k, v.ownBlock = some k → w.heap.size ≤ k) : Sys w' m (own E size v n xs :: l) :=
  h.push (Chg.of_below hB) (F := fun k => v.ownBlock = some k) ⟨ho, rfl⟩ hn
theorem NewInts.own {B : Nat} {v : Value} {L : List Int} (h : NewInts w B v L) : Own 3 1 w v L.length (L.map (Value.int .i64)) ∧ ∀ k, v.ownBlock = some k → B ≤ k := by
  rcases h with ⟨rfl, rfl⟩ | ⟨b, cap, cs, rfl, hB, hb, h1, h2, h3, h4⟩
  · exact ⟨Own.nil _ _ _, fun k hk => by cases hk⟩
  · refine ⟨⟨by simp, .inr ⟨b, cap, cs, rfl, Nat.zero_le _, hb, h1, h2, by omega, by simpa using h4⟩⟩, fun k hk => by cases hk; exact hB⟩
theorem addr_add (b off j : Nat) : (⟨b, off, none⟩ : Addr).add j = ⟨b, off + j, none⟩ := by unfold Addr.add; split <;> simp_all
/-- append(v, x...), x a row of cells: as an equation on the run. -/
theorem Sys.appendRow {P : Program} {E size bytes T : Nat} {i : TypeInfo} {z : Value} (ht : P.underlying T = some (.slice E)) (hi : P.info? E = some i) (hz : i.zero = some z) (hsize : i.size = size) (hby : i.bytes = bytes) (hzs : z.cells.size = size) (hsz : 0 < size)
    {v : Value} {n : Nat} {xs : List Value} (h : Sys w m (own E size v n xs :: l)) (ad : Addr) (k c : Nat) (news : List Value) (hl : news.length = k * size) (hnews : ∀ j u, news[j]? = some u → w.cell? (ad.add j) = some u) (h1 : ∀ u ∈ news, u.oneCell' = true) (hb : (n + k) * bytes ≤ 140737488355328) (hm : n + k ≤ maxLen) (ty : TypeId) :
    ∃ v' w', (Builtin.append_ #[T, T] ty #[v, .slice (some ad) k c]).run P w = .ok v' w' ∧ Sys w' m (own E size v' (n + k) (xs ++ news) :: l) := by
  obtain ⟨v', w', h2, h3, h4, _, h6⟩ := run_append_own_at (P := P) w 0 T ty E i z size bytes ht hi hz hsize hby hzs hsz v n xs h.getOwn ad k c news hl hnews h1 hm hb (Nat.zero_le _)
  refine ⟨v', w', h2, h.ownTo h3 ⟨h4.os, h4.tape, h4.output, h4.size, fun k hk hs => h4.block k hk (fun e => hs e.symm)⟩ ?_⟩
  rcases h6 with h6 | h6
  · exact .inl h6
  · exact .inr ⟨_, h6, Nat.le_refl _⟩
end
end Go.Proofs.Ytcfhkpjheemkgaa
