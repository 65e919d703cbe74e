/-
  The walks of package sign: a book of who signed what, a map of maps behind a pointer.
-/
import Derived.Test.YtcfhkpjheemkgaaInts
namespace Go.Proofs.Ytcfhkpjheemkgaa
set_option linter.unusedSectionVars false
set_option linter.unusedSimpArgs false
set_option linter.unusedVariables false
open Go.RowKit Go.MapKept

/-- The book at block p: its map is block B; s: each digest, the block of its own map, and who signed it. -/
def BookAt (w : World) (p B : Nat) (s : List (Int × (Nat × List Int))) : Prop :=
  w.heap[p]? = some (.cells #[.map (some B)] 145 (0, 0)) ∧ MapOf intKey w B (s.map fun x => (x.1, .map (some x.2.1))) ∧
    (∀ x ∈ s, MapOf intKey w x.2.1 (x.2.2.map fun a => (a, .int .i64 1))) ∧ (p :: B :: s.map (·.2.1)).Nodup ∧ ∀ x ∈ s, ∀ a ∈ x.2.2, (Lit.int .i64 a).wf = true
/-- Who signed a digest, in which order first. -/
def signers (s : List (Int × (Nat × List Int))) (d : Int) : List Int := ((alook s d).map (·.2)).getD []
/-- The book at p, told by its blocks F and by who signed what. -/
def Book (w : World) (p : Nat) (F : Nat → Prop) (f : Int → List Int) : Prop :=
  ∃ B s, BookAt w p B s ∧ (∀ k, F k ↔ k = p ∨ k = B ∨ k ∈ s.map (·.2.1)) ∧ ∀ d, f d = signers s d

theorem alook_map {α β γ : Type} [DecidableEq α] (g : β → γ) (m : List (α × β)) (k : α) : alook (m.map fun x => (x.1, g x.2)) k = (alook m k).map g := by
  induction m with
  | nil => rfl
  | cons p m ih =>
    by_cases h : p.1 = k
    · simp [alook, h]
    · simp [alook, h]; exact ih
theorem aset_map {α β γ : Type} [DecidableEq α] (g : β → γ) (m : List (α × β)) (k : α) (v : β) : (aset m k v).map (fun x => (x.1, g x.2)) = aset (m.map fun x => (x.1, g x.2)) k (g v) := by
  induction m with
  | nil => rfl
  | cons p m ih =>
    by_cases h : p.1 = k
    · simp [aset, h]
    · simp [aset, h]; exact ih
theorem mem_aset {α β : Type} [DecidableEq α] {m : List (α × β)} {k : α} {v : β} {x : α × β} (h : x ∈ aset m k v) : x = (k, v) ∨ x ∈ m := by
  induction m with
  | nil => simp [aset] at h; exact .inl h
  | cons p m ih =>
    simp only [aset] at h
    split at h
    · cases h with
      | head => exact .inl rfl
      | tail _ h => exact .inr (.tail _ h)
    · cases h with
      | head => exact .inr (.head _)
      | tail _ h =>
        rcases ih h with h | h
        · exact .inl h
        · exact .inr (.tail _ h)

theorem mem_aset_ne {α β : Type} [DecidableEq α] {m : List (α × β)} {k : α} {v : β} {x : α × β} (hn : (m.map (·.1)).Nodup) (h : x ∈ aset m k v) : x = (k, v) ∨ (x ∈ m ∧ x.1 ≠ k) := by
  induction m with
  | nil => simp [aset] at h; exact .inl h
  | cons p m ih =>
    simp only [List.map_cons, List.nodup_cons] at hn
    simp only [aset] at h
    split at h
    · rename_i hk
      cases h with
      | head => exact .inl rfl
      | tail _ h => exact .inr ⟨.tail _ h, fun e => hn.1 (by rw [hk, ← e]; exact List.mem_map.2 ⟨x, h, rfl⟩)⟩
    · rename_i hk
      cases h with
      | head => exact .inr ⟨.head _, hk⟩
      | tail _ h =>
        rcases ih hn.2 h with h | h
        · exact .inl h
        · exact .inr ⟨.tail _ h.1, h.2⟩
theorem inj_of_nodup {α β : Type} {f : α → β} {l : List α} (h : (l.map f).Nodup) {a b : α} (ha : a ∈ l) (hb : b ∈ l) (e : f a = f b) : a = b := by
  induction l with
  | nil => cases ha
  | cons x l ih =>
    simp only [List.map_cons, List.nodup_cons] at h
    cases ha with
    | head =>
      cases hb with
      | head => rfl
      | tail _ hb => exact absurd (List.mem_map.2 ⟨b, hb, e.symm⟩) h.1
    | tail _ ha =>
      cases hb with
      | head => exact absurd (List.mem_map.2 ⟨a, ha, e⟩) h.1
      | tail _ hb => exact ih h.2 ha hb

theorem Book.lt {w : World} {p : Nat} {F : Nat → Prop} {f : Int → List Int} (h : Book w p F f) : ∀ k, F k → k < w.heap.size := by
  obtain ⟨B, s, ⟨h1, h2, h3, _⟩, hF, _⟩ := h
  intro k hk
  rcases (hF k).1 hk with rfl | rfl | hk
  · exact blk_lt h1
  · exact h2.lt
  · obtain ⟨x, hx, rfl⟩ := List.mem_map.1 hk
    exact (h3 x hx).lt
theorem Book.here {w : World} {p : Nat} {F : Nat → Prop} {f : Int → List Int} (h : Book w p F f) : F p := by
  obtain ⟨B, s, _, hF, _⟩ := h
  exact (hF p).2 (.inl rfl)
theorem Book.chg {w w' : World} {p : Nat} {F S : Nat → Prop} {f : Int → List Int} (h : Book w p F f) (hc : Chg S w w') (hs : ∀ k, F k → ¬ S k) : Book w' p F f := by
  obtain ⟨B, s, ⟨h1, h2, h3, h4, h5⟩, hF, hf⟩ := h
  refine ⟨B, s, ⟨hc.blk h1 (hs _ ((hF _).2 (.inl rfl))), h2.chg hc (hs _ ((hF _).2 (.inr (.inl rfl)))), fun x hx => (h3 x hx).chg hc (hs _ ((hF _).2 (.inr (.inr (List.mem_map.2 ⟨x, hx, rfl⟩))))), h4, h5⟩, hF, hf⟩
theorem Book.below {w w' : World} {p : Nat} {F : Nat → Prop} {f : Int → List Int} (h : Book w p F f) (hb : Below w.heap.size w w') : Book w' p F f :=
  h.chg (S := fun _ => False) (Chg.of_below hb) (fun _ _ h => h)
theorem Book.nodup {w : World} {p : Nat} {F : Nat → Prop} {f : Int → List Int} (h : Book w p F f) (d : Int) : (f d).Nodup := by
  obtain ⟨B, s, ⟨h1, h2, h3, h4, h5⟩, hF, hf⟩ := h
  rw [hf d]; unfold signers
  cases hx : alook s d with
  | none => exact List.nodup_nil
  | some x =>
    have := (h3 _ (alook_mem hx)).nodup
    simpa [List.map_map, Function.comp_def] using this

theorem Book.congr {w : World} {p : Nat} {F : Nat → Prop} {f g : Int → List Int} (h : Book w p F f) (e : ∀ d, g d = f d) : Book w p F g := by
  obtain ⟨B, s, h1, hF, hf⟩ := h
  exact ⟨B, s, h1, hF, fun d => (e d).trans (hf d)⟩

theorem zeroMap (w : World) : (zeroValue 75).run Try.prog w = .ok (.map none) w := by kernel_rfl
theorem zeroInt (w : World) : (zeroValue 3).run Try.prog w = .ok (.int .i64 0) w := by kernel_rfl

def BookNew (w : World) (e : Ending) (w' : World) : Prop :=
  ∃ p F, e = .returned (.pointer (some ⟨p, 0, none⟩)) ∧ Book w' p F (fun _ => []) ∧ (∀ k, F k → w.heap.size ≤ k) ∧ Below w.heap.size w w'

set_option maxHeartbeats 400000 in
theorem sign_new (w : World) : Calls Try.prog 58 #[] w (BookNew w) := by
  have hmm := @run_makeMap Try.prog
  go_enter Try.func58, Try.ntmps58
  go_wp2
  go_ret
  refine ⟨_, fun k => k = w.heap.size + 1 ∨ k = w.heap.size, rfl, ⟨w.heap.size, [], ⟨alloc_new _ _ _ (by simp), (MapOf.made w _ rfl).alloc _, by simp, by simp, by simp⟩, by simp, fun d => rfl⟩, by omega, ((Below.refl _ _).alloc (by simp) _).alloc (by simp) _⟩

set_option maxHeartbeats 400000 in
theorem sign_has (p : Nat) (F : Nat → Prop) (f : Int → List Int) (who d : Int) (w : World) (h : Book w p F f) :
    Calls Try.prog 40 #[.pointer (some ⟨p, 0, none⟩), .int .i64 who, .int .i64 d] w fun e w' => e = .returned (.bool (decide (who ∈ f d))) ∧ w = w' := by
  obtain ⟨B, s, ⟨h1, h2, h3, h4, h5⟩, hF, hf⟩ := h
  have c0 := cell_of_blk h1 0
  simp at c0
  have hl := h2.lookup (P := Try.prog) Try.underlying91 Try.underlying3 (zeroMap w) d false
  rw [alook_map (fun x : Nat × List Int => Value.map (some x.1))] at hl
  rw [hf d]
  unfold signers
  cases hx : alook s d with
  | none =>
    rw [hx] at hl
    have hl2 := lookup_nil (P := Try.prog) (K := intKey) (w := w) Try.underlying75 Try.underlying3 (zeroInt w) who false
    simp [intKey] at hl hl2
    clear h1 h2 h3 h4 h5 hF hf hx
    go_enter Try.func40, Try.ntmps40
    go_wp2
    go_ret
    exact ⟨by simp, rfl⟩
  | some x =>
    rw [hx] at hl
    have hm := h3 _ (alook_mem hx)
    have hl2 := hm.lookup (P := Try.prog) Try.underlying75 Try.underlying3 (zeroInt w) who false
    have hz : (alook (x.2.map fun a => (a, Value.int .i64 1)) who).getD (.int .i64 0) = .int .i64 (if who ∈ x.2 then 1 else 0) := by
      by_cases hw : who ∈ x.2
      · rw [if_pos hw]
        have : alook (x.2.map fun a => (a, Value.int .i64 1)) who = some (.int .i64 1) := alook_of_mem hm.nodup (List.mem_map.2 ⟨who, hw, rfl⟩)
        rw [this]; rfl
      · rw [if_neg hw]
        have : alook (x.2.map fun a => (a, Value.int .i64 1)) who = none := alook_none.2 (by simpa [List.map_map, Function.comp_def] using hw)
        rw [this]; rfl
    simp only [Bool.false_eq_true, if_false] at hl hl2
    rw [hz] at hl2
    simp [intKey] at hl hl2
    clear h1 h2 h3 h4 h5 hF hf hz hm
    by_cases hw : who ∈ x.2
    · rw [if_pos hw] at hl2
      have HW := Lib.hid hw
      have HX := Lib.hid hx
      clear hw hx
      go_enter Try.func40, Try.ntmps40
      go_wp2
      go_ret
      have := HW.out
      exact ⟨by simp [this], rfl⟩
    · rw [if_neg hw] at hl2
      have HW := Lib.hid hw
      have HX := Lib.hid hx
      clear hw hx
      go_enter Try.func40, Try.ntmps40
      go_wp2
      go_ret
      have := HW.out
      exact ⟨by simp [this], rfl⟩

theorem aset_ones (l : List Int) (a : Int) : aset (l.map fun x => (x, Value.int .i64 1)) a (.int .i64 1) = (addTo l a).map fun x => (x, Value.int .i64 1) := by
  unfold addTo
  induction l with
  | nil => simp [aset]
  | cons x l ih =>
    by_cases h : x = a
    · subst h; simp [aset]
    · have h' : ¬ a = x := fun e => h e.symm
      simp only [List.map_cons, aset, h, if_false, ih, List.mem_cons, h', false_or]
      split <;> simp
/-- Who signed what, when one more did. -/
def addAt (f : Int → List Int) (d a : Int) : Int → List Int := fun x => if x = d then addTo (f d) a else f x

def BookSigned (p : Nat) (F : Nat → Prop) (f : Int → List Int) (who d : Int) (w : World) (e : Ending) (w' : World) : Prop :=
  e = .returned (.tuple #[]) ∧ ∃ F', Book w' p F' (addAt f d who) ∧ (∀ k, F' k → F k ∨ w.heap.size ≤ k) ∧ (∀ k, F k → F' k) ∧ Chg F w w'

set_option maxHeartbeats 800000 in
theorem sign_sign (p : Nat) (F : Nat → Prop) (f : Int → List Int) (who d : Int) (w : World) (h : Book w p F f) (hwho : (Lit.int .i64 who).wf = true) :
    Calls Try.prog 38 #[.pointer (some ⟨p, 0, none⟩), .int .i64 who, .int .i64 d] w (BookSigned p F f who d w) := by
  have hlt := h.lt
  obtain ⟨B, s, ⟨h1, h2, h3, h4, h5⟩, hF, hf⟩ := h
  have c0 := cell_of_blk h1 0
  simp at c0
  have hpB : p ≠ B ∧ B ∉ s.map (·.2.1) ∧ p ∉ s.map (·.2.1) ∧ (s.map (·.2.1)).Nodup := by
    simp only [List.nodup_cons, List.mem_cons, not_or] at h4
    exact ⟨h4.1.1, h4.2.1, h4.1.2, h4.2.2⟩
  have hl := h2.lookup (P := Try.prog) Try.underlying91 Try.underlying3 (zeroMap w) d false
  rw [alook_map (fun x : Nat × List Int => Value.map (some x.1))] at hl
  cases hx : alook s d with
  | none =>
    rw [hx] at hl
    have heq := run_eql_map_nil (P := Try.prog) w 75 3 3 none Try.underlying75
    have hmm := @run_makeMap Try.prog
    have hpl := blk_lt h1
    have hBl := h2.lt
    have c1 : (w.alloc (.map #[] 0)).cell? ⟨p, 0, none⟩ = some (.map (some B)) := by
      have := cell_of_blk (alloc_old (.map #[] 0) h1) 0
      simpa using this
    obtain ⟨w2, hu1, hM2, hC2, hs2⟩ := (h2.alloc (.map #[] 0)).update (P := Try.prog) Try.underlying91 Try.underlying3 d (.map (some w.heap.size))
    have hn0 : MapOf intKey w2 w.heap.size [] := (MapOf.made w _ rfl).chg hC2 (by omega)
    have hl2 := hM2.lookup (P := Try.prog) Try.underlying91 Try.underlying3 (zeroMap w2) d false
    rw [alook_aset, if_pos rfl] at hl2
    have b2 : w2.heap[p]? = some (.cells #[.map (some B)] 145 (0, 0)) := hC2.blk (alloc_old _ h1) hpB.1
    have c2 := cell_of_blk b2 0
    simp at c2
    obtain ⟨w3, hu3, hM3, hC3, hs3⟩ := hn0.update (P := Try.prog) Try.underlying75 Try.underlying3 who (.int .i64 1)
    have hchg : Chg F w w3 := (((Chg.refl F w).alloc _).step hC2 (fun i e => .inl ((hF i).2 (.inr (.inl e))))).step hC3 (fun i e => .inr (by omega))
    have hfin : BookSigned p F f who d w (.returned (.tuple #[])) w3 := by
      have hBn : B ≠ w.heap.size := by omega
      refine ⟨rfl, fun k => F k ∨ k = w.heap.size, ⟨B, s ++ [(d, w.heap.size, [who])], ⟨hC3.blk b2 (by omega), ?_, ?_, ?_, ?_⟩, ?_, ?_⟩, ?_, fun k hk => .inl hk, hchg⟩
      · have := hM2.chg hC3 (by omega)
        rw [aset_none (by rw [alook_map (fun x : Nat × List Int => Value.map (some x.1)), hx]; rfl)] at this
        simpa using this
      · intro x hxs
        rcases List.mem_append.1 hxs with hxs | hxs
        · have hne : x.2.1 ≠ B := fun e => hpB.2.1 (e ▸ List.mem_map.2 ⟨x, hxs, rfl⟩)
          have hlx := (h3 x hxs).lt
          exact (((h3 x hxs).alloc _).chg hC2 hne).chg hC3 (by omega)
        · simp only [List.mem_singleton] at hxs
          subst hxs
          simpa [aset] using hM3
      · rw [List.map_append]
        have e1 : p :: B :: (s.map (·.2.1) ++ [(d, w.heap.size, [who])].map (·.2.1)) = (p :: B :: s.map (·.2.1)) ++ [w.heap.size] := by simp
        rw [e1]
        refine List.nodup_append.2 ⟨h4, by simp, fun a ha b hb e => ?_⟩
        simp only [List.mem_singleton] at hb
        subst hb
        have : a < w.heap.size := by
          simp only [List.mem_cons] at ha
          exact hlt a ((hF a).2 (by rcases ha with h | h | h; exact .inl h; exact .inr (.inl h); exact .inr (.inr h)))
        omega
      · intro x hxs a ha
        rcases List.mem_append.1 hxs with hxs | hxs
        · exact h5 x hxs a ha
        · simp only [List.mem_singleton] at hxs
          subst hxs
          simp at ha
          subst ha; exact hwho
      · intro k
        show (F k ∨ k = w.heap.size) ↔ _
        rw [hF k]
        simp only [List.map_append, List.mem_append, List.map_cons, List.map_nil, List.mem_singleton]
        constructor
        · rintro ((h | h | h) | h)
          · exact .inl h
          · exact .inr (.inl h)
          · exact .inr (.inr (.inl h))
          · exact .inr (.inr (.inr h))
        · rintro (h | h | h | h)
          · exact .inl (.inl h)
          · exact .inl (.inr (.inl h))
          · exact .inl (.inr (.inr h))
          · exact .inr h
      · intro x
        have happ : ∀ y, alook (s ++ [(d, w.heap.size, [who])]) y = if d = y then some (w.heap.size, [who]) else alook s y := by
          intro y; rw [← aset_none hx, alook_aset]
        unfold addAt signers
        rw [happ x, hf d, hf x]
        unfold signers
        by_cases hxd : x = d
        · subst hxd; simp [hx, addTo]
        · rw [if_neg hxd, if_neg (fun e => hxd e.symm)]
      · intro k hk; rcases hk with hk | hk
        · exact .inl hk
        · exact .inr (by omega)
    have HFIN := Lib.hid hfin
    simp [intKey] at hl hu1 hl2 hu3
    clear h1 h2 h3 h4 h5 hF hf hx hfin hM2 hM3 hC2 hC3 hn0 b2 hchg hlt hpB hwho hs2 hs3 hpl hBl
    go_enter Try.func38, Try.ntmps38
    go_wp2
    go_end0
    exact HFIN.out
  | some x =>
    rw [hx] at hl
    have heq := run_eql_map_nil (P := Try.prog) w 75 3 3 (some x.1) Try.underlying75
    have hmx := h3 _ (alook_mem hx)
    obtain ⟨w3, hu3, hM3, hC3, hs3⟩ := hmx.update (P := Try.prog) Try.underlying75 Try.underlying3 who (.int .i64 1)
    have hxm : x.1 ∈ s.map (·.2.1) := List.mem_map.2 ⟨_, alook_mem hx, rfl⟩
    have hfin : BookSigned p F f who d w (.returned (.tuple #[])) w3 := by
      have hFx : F x.1 := (hF _).2 (.inr (.inr hxm))
      have hpx : p ≠ x.1 := fun e => hpB.2.2.1 (e ▸ hxm)
      have hBx : B ≠ x.1 := fun e => hpB.2.1 (e ▸ hxm)
      have hkeys : (s.map (·.1)).Nodup := by have := h2.nodup; simpa [List.map_map, Function.comp_def] using this
      have hblk : (aset s d (x.1, addTo x.2 who)).map (·.2.1) = s.map (·.2.1) := by
        have e1 : (aset s d (x.1, addTo x.2 who)).map (fun y => (y.1, y.2.1)) = aset (s.map fun y => (y.1, y.2.1)) d x.1 := aset_map (fun y : Nat × List Int => y.1) s d _
        have e2 : aset (s.map fun y => (y.1, y.2.1)) d x.1 = s.map fun y => (y.1, y.2.1) := by
          have hk2 : ((s.map fun y => (y.1, y.2.1)).map (·.1)).Nodup := by simpa [List.map_map, Function.comp_def] using hkeys
          have hl2 : (d, x.1) ∈ s.map fun y => (y.1, y.2.1) := List.mem_map.2 ⟨_, alook_mem hx, rfl⟩
          obtain ⟨j, hj, hjj⟩ := List.getElem_of_mem hl2
          have hj2 : (s.map fun y => (y.1, y.2.1))[j]? = some (d, x.1) := by rw [List.getElem?_eq_getElem hj, hjj]
          rw [(aset_at hk2 hj2).1]
          refine List.ext_getElem? fun i => ?_
          rw [List.getElem?_set]
          split
          · rename_i hji; subst hji; rw [hj2]; try simp [hj]
          · rfl
        have := congrArg (List.map Prod.snd) (e1.trans e2)
        simpa [List.map_map, Function.comp_def] using this
      refine ⟨rfl, F, ⟨B, aset s d (x.1, addTo x.2 who), ⟨hC3.blk h1 hpx, ?_, ?_, by rw [hblk]; exact h4, ?_⟩, by rw [hblk]; exact hF, ?_⟩, fun k hk => .inl hk, fun k hk => hk, hC3.mono (fun k _ e => e ▸ hFx)⟩
      · have e1 : (aset s d (x.1, addTo x.2 who)).map (fun y => (y.1, Value.map (some y.2.1))) = s.map fun y => (y.1, Value.map (some y.2.1)) := by
          have e0 := aset_map (fun y : Nat × List Int => y.1) s d (x.1, addTo x.2 who)
          have e2 := aset_map (fun y : Nat × List Int => Value.map (some y.1)) s d (x.1, addTo x.2 who)
          rw [e2]
          have hk2 : ((s.map fun y => (y.1, Value.map (some y.2.1))).map (·.1)).Nodup := h2.nodup
          have hl2 : (d, Value.map (some x.1)) ∈ s.map fun y => (y.1, Value.map (some y.2.1)) := List.mem_map.2 ⟨_, alook_mem hx, rfl⟩
          obtain ⟨j, hj, hjj⟩ := List.getElem_of_mem hl2
          have hj2 : (s.map fun y => (y.1, Value.map (some y.2.1)))[j]? = some (d, Value.map (some x.1)) := by rw [List.getElem?_eq_getElem hj, hjj]
          rw [(aset_at hk2 hj2).1]
          refine List.ext_getElem? fun i => ?_
          rw [List.getElem?_set]
          split
          · rename_i hji; subst hji; rw [hj2]; try simp [hj]
          · rfl
        rw [e1]
        exact h2.chg hC3 hBx
      · intro y hy
        by_cases hyx : y.2.1 = x.1
        · -- the entry of this very block
          rcases mem_aset_ne hkeys hy with rfl | ⟨hy', hne⟩
          · rw [← aset_ones]; exact hM3
          · have := inj_of_nodup (f := fun z : Int × (Nat × List Int) => z.2.1) hpB.2.2.2 hy' (alook_mem hx) hyx
            exact absurd (congrArg Prod.fst this) hne
        · rcases mem_aset hy with rfl | hy'
          · exact absurd rfl hyx
          · exact (h3 y hy').chg hC3 hyx
      · intro y hy a ha
        rcases mem_aset hy with rfl | hy'
        · rcases mem_addTo.1 ha with ha | rfl
          · exact h5 _ (alook_mem hx) a ha
          · exact hwho
        · exact h5 y hy' a ha
      · intro y
        unfold addAt signers
        rw [alook_aset, hf d, hf y]
        unfold signers
        by_cases hyd : y = d
        · subst hyd; simp [hx]
        · rw [if_neg hyd, if_neg (fun e => hyd e.symm)]
    have HFIN := Lib.hid hfin
    simp [intKey] at hl hu3
    clear h1 h2 h3 h4 h5 hF hf hx hfin hM3 hC3 hlt hpB hwho hs3 hmx hxm
    go_enter Try.func38, Try.ntmps38
    go_wp2
    go_end0
    exact HFIN.out

theorem NewInts.mono {w : World} {B B' : Nat} {v : Value} {l : List Int} (h : NewInts w B v l) (hB : B' ≤ B) : NewInts w B' v l := by
  rcases h with h | ⟨b, cap, cs, h1, h2, h3⟩
  · exact .inl h
  · exact .inr ⟨b, cap, cs, h1, Nat.le_trans hB h2, h3⟩
theorem rising_nil : rising [] = [] := List.length_eq_zero_iff.1 (by rw [rising_length]; rfl)

theorem sign_has_yes (p : Nat) (F : Nat → Prop) (f : Int → List Int) (who d : Int) (w : World) (h : Book w p F f) (hm : who ∈ f d) :
    Calls Try.prog 40 #[.pointer (some ⟨p, 0, none⟩), .int .i64 who, .int .i64 d] w fun e w' => e = .returned (.bool true) ∧ w = w' :=
  (sign_has p F f who d w h).mono fun _ _ ⟨h1, h2⟩ => ⟨by rw [h1]; simp [hm], h2⟩
theorem sign_has_no (p : Nat) (F : Nat → Prop) (f : Int → List Int) (who d : Int) (w : World) (h : Book w p F f) (hm : who ∉ f d) :
    Calls Try.prog 40 #[.pointer (some ⟨p, 0, none⟩), .int .i64 who, .int .i64 d] w fun e w' => e = .returned (.bool false) ∧ w = w' :=
  (sign_has p F f who d w h).mono fun _ _ ⟨h1, h2⟩ => ⟨by rw [h1]; simp [hm], h2⟩

def BookAll (l : List Int) (w : World) (e : Ending) (w' : World) : Prop := ∃ v, e = .returned v ∧ NewInts w' w.heap.size v (rising l) ∧ Below w.heap.size w w'
theorem BookAll.open {l : List Int} {w : World} {e : Ending} {w' : World} (h : BookAll l w e w') : ∃ a cap, e = .returned (.slice a l.length cap) ∧ IntsAt w' a (rising l) ∧ Below w.heap.size w w' ∧ (∀ b off, a = some ⟨b, off, none⟩ → w.heap.size ≤ b) := by
  obtain ⟨v, rfl, hN, hB⟩ := h
  obtain ⟨a, cap, rfl, h1, h2, h3, h4⟩ := IntsAt.of_new hN
  exact ⟨a, cap, by rw [rising_length], h1, hB, fun b off e => h4 b (by subst e; rfl)⟩

theorem BookAll.one {a : Int} {w : World} {e : Ending} {w' : World} (h : BookAll [a] w e w') : ∃ b cap cs, e = .returned (.slice (some ⟨b, 0, none⟩) 1 cap) ∧ w.heap.size ≤ b ∧ w'.heap[b]? = some (.cells cs 3 (0, 0)) ∧ w'.cell? ⟨b, 0, none⟩ = some (.int .i64 a) ∧ w'.frozen? ⟨b, 0, none⟩ = false ∧ Below w.heap.size w w' := by
  obtain ⟨v, rfl, hN, hB⟩ := h
  have e1 : rising [a] = [a] := rising_eq (List.Perm.refl _) (by simp)
  rw [e1] at hN
  rcases hN with ⟨_, h⟩ | ⟨b, cap, cs, rfl, h2, h3, h4, h5, h6, h7⟩
  · cases h
  · refine ⟨b, cap, cs, rfl, h2, h3, ?_, frozen_of_blk h3 0, hB⟩
    rw [cell_of_blk h3]
    have := congrArg (fun l => l[0]?) h7
    simpa [List.getElem?_take] using this

end Go.Proofs.Ytcfhkpjheemkgaa
