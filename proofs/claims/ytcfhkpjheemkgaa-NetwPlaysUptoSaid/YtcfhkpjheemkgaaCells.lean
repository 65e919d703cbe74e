/-
  Rows of cells that a slice shows; slices.Clone of whole numbers, and of envelopes.
-/
import Derived.Test.YtcfhkpjheemkgaaStep
namespace Go.Proofs.Ytcfhkpjheemkgaa
set_option linter.unusedSectionVars false
set_option linter.unusedSimpArgs false
set_option linter.unusedVariables false
open Go.RowKit Go.MapKept

/-- Behind the slice's address a lie the cells xs, and may be written. -/
def Src (w : World) (a : Option Addr) (xs : List Value) : Prop := xs = [] ∨ ∃ b off, a = some ⟨b, off, none⟩ ∧ ∀ (j : Nat) (u : Value), xs[j]? = some u → w.cell? ⟨b, off + j, none⟩ = some u ∧ w.frozen? ⟨b, off + j, none⟩ = false
theorem Src.chg {w w' : World} {S : Nat → Prop} {a : Option Addr} {xs : List Value} (h : Src w a xs) (hc : Chg S w w') (hs : ∀ b off, a = some ⟨b, off, none⟩ → ¬ S b) : Src w' a xs := by
  rcases h with h | ⟨b, off, e, h⟩
  · exact .inl h
  · exact .inr ⟨b, off, e, fun j u hu => ⟨hc.cell (h j u hu).1 (hs b off e), (hc.frozen (p := ⟨b, off + j, none⟩) (World.block_lt_of_cell? _ _ (h j u hu).1) (hs b off e)).trans (h j u hu).2⟩⟩
theorem Src.cells {w : World} {a : Option Addr} {xs : List Value} (h : Src w a xs) : xs = [] ∨ ∃ b off, a = some ⟨b, off, none⟩ ∧ ∀ (j : Nat) (u : Value), xs[j]? = some u → w.cell? ⟨b, off + j, none⟩ = some u := by
  rcases h with h | ⟨b, off, e, h⟩
  · exact .inl h
  · exact .inr ⟨b, off, e, fun j u hu => (h j u hu).1⟩
theorem Src.chg0 {w w' : World} {a : Option Addr} {xs : List Value} (h : Src w a xs) (hc : Chg none_ w w') : Src w' a xs := h.chg hc fun _ _ _ h => h
/-- v is a slice of n elements, whose cells are xs; it lies in blocks S. -/
def SliceIn (S : Nat → Prop) (w : World) (v : Value) (n : Nat) (xs : List Value) : Prop :=
  ∃ a cap, v = .slice a n cap ∧ Src w a xs ∧ (∀ b off, a = some ⟨b, off, none⟩ → xs ≠ [] → S b ∧ b < w.heap.size) ∧ (a = none → n = 0) ∧ n ≤ 2000000
section
variable {S S' : Nat → Prop} {w w' : World} {v : Value} {n : Nat} {xs : List Value}
theorem SliceIn.nil (S : Nat → Prop) (w : World) : SliceIn S w (.slice none 0 0) 0 [] := ⟨none, 0, rfl, .inl rfl, (by intro b off h; cases h), fun _ => rfl, by omega⟩
theorem SliceIn.chg {X : Nat → Prop} (h : SliceIn S w v n xs) (hc : Chg X w w') (hs : ∀ b, S b → ¬ X b) : SliceIn S w' v n xs := by
  obtain ⟨a, cap, e, h1, h2, h3, h4⟩ := h
  by_cases hx : xs = []
  · exact ⟨a, cap, e, .inl hx, fun _ _ _ hn => (hn hx).elim, h3, h4⟩
  · exact ⟨a, cap, e, h1.chg hc (fun b off e => hs b (h2 b off e hx).1), fun b off e _ => ⟨(h2 b off e hx).1, Nat.lt_of_lt_of_le (h2 b off e hx).2 hc.size⟩, h3, h4⟩
theorem SliceIn.chg0 (h : SliceIn S w v n xs) (hc : Chg none_ w w') : SliceIn S w' v n xs := h.chg hc fun _ _ h => h
theorem SliceIn.mono (h : SliceIn S w v n xs) (hs : ∀ b, S b → b < w.heap.size → S' b) : SliceIn S' w v n xs := by
  obtain ⟨a, cap, e, h1, h2, h3⟩ := h
  exact ⟨a, cap, e, h1, fun b off e hx => ⟨hs b (h2 b off e hx).1 (h2 b off e hx).2, (h2 b off e hx).2⟩, h3⟩
theorem Own.sliceIn {E size : Nat} (h : Own E size w v n xs) (hn : n ≤ 2000000) (hs : ∀ k, v.ownBlock = some k → S k) : SliceIn S w v n xs := by
  have hlt := fun k => h.lt (k := k)
  obtain ⟨a, cap, rfl, hc, hm, hl, ha⟩ := h.open
  rcases ha with ⟨rfl, rfl, rfl⟩ | ⟨g, cs, rfl, hg, hcs, ht⟩
  · have : xs = [] := List.length_eq_zero_iff.1 (by omega)
    subst this
    exact SliceIn.nil S w
  · refine ⟨_, cap, rfl, .inr ⟨g, 0, rfl, fun j u hu => ?_⟩, fun b off e _ => ?_, (by intro h; cases h), hn⟩
    · rw [Nat.zero_add]
      have hj : j < n * size := by have := (List.getElem?_eq_some_iff.1 hu).1; omega
      exact ⟨own_cell hg ht hj hu, frozen_of_blk hg _⟩
    · cases e; exact ⟨hs g rfl, hlt g rfl⟩
theorem SliceIn.one (h : SliceIn S w v n xs) : v.oneCell' = true := by
  obtain ⟨a, cap, rfl, _⟩ := h; rfl
end

/-- A clone: in memory of its own. -/
def ClonedR (E size n : Nat) (xs : List Value) (w : World) (e : Ending) (w' : World) : Prop :=
  ∃ v, e = .returned v ∧ Own E size w' v n xs ∧ (∀ k, v.ownBlock = some k → w.heap.size ≤ k) ∧ Below w.heap.size w w'

theorem clone_run {E size bytes T : Nat} {z : Value} (hT : Try.prog.underlying T = some (.slice E)) (hI : (Try.prog.info? E).map (fun i => (i.zero, i.size, i.bytes)) = some (some z, size, bytes)) (hzs : z.cells.size = size) (hsz : 0 < size) (hb9 : bytes ≤ 100)
    {w : World} {ad : Addr} {n c : Nat} {xs : List Value} (h : xs = [] ∨ ∃ b off, some ad = some ⟨b, off, none⟩ ∧ ∀ (j : Nat) (u : Value), xs[j]? = some u → w.cell? ⟨b, off + j, none⟩ = some u) (hl : xs.length = n * size) (h1 : ∀ u ∈ xs, u.oneCell' = true) (hn : n ≤ 2000000) (hn0 : xs = [] → n = 0) :
    ∃ v' w', (Builtin.append_ #[T, T] T #[.slice (some ⟨w.heap.size, 0, none⟩) 0 0, .slice (some ad) n c]).run Try.prog (w.alloc (.cells #[] E)) = .ok v' w' ∧ ClonedR E size n xs w (.returned v') w' := by
  obtain ⟨i, hi, hz, hs, hby⟩ := info_parts' hI
  have hown0 : (w.alloc (.cells #[] E)).ownsRow 0 E size (.slice (some ⟨w.heap.size, 0, none⟩) 0 0) 0 [] := World.ownsRow_made w #[] 0 (Nat.zero_le _) (by unfold maxLen; omega) (by simp)
  have hbel : Below w.heap.size w (w.alloc (.cells #[] E)) := (Below.refl _ _).alloc (Nat.le_refl _) _
  obtain ⟨v', w', ha, ho, hg, _, hk⟩ := run_append_own_at (P := Try.prog) (w.alloc (.cells #[] E)) 0 T T E i z size bytes hT hi hz hs hby hzs hsz _ 0 [] hown0 ad n c xs (by omega)
    (fun j u hu => by
      rcases h with rfl | ⟨b, off, e, hc⟩
      · simp at hu
      · cases e
        have e1 : (⟨b, off, none⟩ : Addr).add j = ⟨b, off + j, none⟩ := by unfold Addr.add; split <;> simp_all
        rw [e1]; exact (Chg.of_below (S := none_) hbel).cell (hc j u hu) (fun h => h))
    h1 (by unfold maxLen; omega) (by
      have : (0 + n) * bytes ≤ 2000000 * 100 := Nat.mul_le_mul (by omega) hb9
      omega) (Nat.zero_le _)
  refine ⟨v', w', ha, v', rfl, by simpa [Own] using ho, fun k hkk => ?_, ?_⟩
  · rcases hk with h | h
    · rw [h] at hkk; cases hkk; exact Nat.le_refl _
    · rw [h] at hkk; cases hkk; simp
  · exact hbel.grown hg (by simp) (fun k e => by cases e; exact Nat.le_refl _)

/-- Whole numbers in a slice. -/
def IntsIn (S : Nat → Prop) (w : World) (v : Value) (l : List Int) : Prop := SliceIn S w v l.length (l.map (Value.int .i64))
/-- An envelope's numbers. -/
structure EnvX where
  client : Int
  nonce : Int
  fee : Int
  cipher : Int
instance : Inhabited EnvX := ⟨⟨0, 0, 0, 0⟩⟩
def EnvX.cells (e : EnvX) : List Value := [.int .i64 e.client, .int .u64 e.nonce, .int .u64 e.fee, .int .i64 e.cipher]
def flatE (L : List EnvX) : List Value := L.flatMap EnvX.cells
theorem flatE_length (L : List EnvX) : (flatE L).length = L.length * 4 := by
  induction L with
  | nil => rfl
  | cons e L ih => simp only [flatE, List.flatMap_cons, List.length_append, List.length_cons] at *; rw [ih]; simp [EnvX.cells]; omega
theorem flatE_one (L : List EnvX) : ∀ u ∈ flatE L, u.oneCell' = true := by
  intro u hu
  obtain ⟨e, _, hu⟩ := List.mem_flatMap.1 hu
  simp [EnvX.cells] at hu
  rcases hu with rfl | rfl | rfl | rfl <;> rfl
def EnvsIn (S : Nat → Prop) (w : World) (v : Value) (L : List EnvX) : Prop := SliceIn S w v L.length (flatE L)

set_option maxHeartbeats 800000 in
theorem clone_ints (S : Nat → Prop) (v : Value) (l : List Int) (w : World) (h : IntsIn S w v l) :
    Calls Try.prog 84 #[v] w (ClonedR 3 1 l.length (l.map (Value.int .i64)) w) := by
  obtain ⟨a, c, rfl, h1, _, h3, h4⟩ := h
  cases a with
  | none =>
    have hl := h3 rfl
    obtain rfl : l = [] := List.length_eq_zero_iff.1 hl
    have heq := Lib.run_eql_slice_nil (P := Try.prog) w 23 3 none 0 c 0 0 Try.underlying23
    clear h1 h3 hl
    go_enter Try.func84, Try.ntmps84
    go_wp2_with fail
    go_ret
    exact ⟨_, rfl, Own.nil _ _ _, (by intro k hk; cases hk), Below.refl _ _⟩
  | some ad =>
    have heq := Lib.run_eql_slice_nil (P := Try.prog) w 23 3 (some ad) l.length c 0 0 Try.underlying23
    obtain ⟨v', w', ha, hfin⟩ := clone_run (E := 3) (size := 1) (bytes := 8) (z := .int .i64 0) Try.underlying23 (by kernel_rfl) rfl (by decide) (by omega) (c := c) h1.cells (by simp) (by intro u hu; obtain ⟨x, _, rfl⟩ := List.mem_map.1 hu; rfl) h4 (by intro h; simpa using h)
    have HF := Lib.hid hfin
    clear h1 h3 h4 hfin
    generalize l.length = n at *
    generalize l.map (Value.int .i64) = xs at *
    go_enter Try.func84, Try.ntmps84
    go_wp2_with (at_builtin; refine wpl_append rfl _ _ _ rfl rfl rfl ha ?_)
    go_ret
    exact HF.out
set_option maxHeartbeats 800000 in
theorem clone_envs (S : Nat → Prop) (v : Value) (l : List EnvX) (w : World) (h : EnvsIn S w v l) :
    Calls Try.prog 112 #[v] w (ClonedR 33 4 l.length (flatE l) w) := by
  obtain ⟨a, c, rfl, h1, _, h3, h4⟩ := h
  cases a with
  | none =>
    have hl := h3 rfl
    obtain rfl : l = [] := List.length_eq_zero_iff.1 hl
    have heq := Lib.run_eql_slice_nil (P := Try.prog) w 63 33 none 0 c 0 0 Try.underlying63
    clear h1 h3 hl
    go_enter Try.func112, Try.ntmps112
    go_wp2_with fail
    go_ret
    exact ⟨_, rfl, Own.nil _ _ _, (by intro k hk; cases hk), Below.refl _ _⟩
  | some ad =>
    have heq := Lib.run_eql_slice_nil (P := Try.prog) w 63 33 (some ad) l.length c 0 0 Try.underlying63
    obtain ⟨v', w', ha, hfin⟩ := clone_run (E := 33) (size := 4) (bytes := 32) (z := .agg #[.int .i64 0, .int .u64 0, .int .u64 0, .int .i64 0]) Try.underlying63 (by kernel_rfl) rfl (by decide) (by omega) (c := c) h1.cells (flatE_length l) (flatE_one l) h4 (by intro h; have := flatE_length l; rw [h] at this; simp only [List.length_nil] at this; omega)
    have HF := Lib.hid hfin
    clear h1 h3 h4 hfin
    generalize l.length = n at *
    generalize flatE l = xs at *
    go_enter Try.func112, Try.ntmps112
    go_wp2_with (at_builtin; refine wpl_append rfl _ _ _ rfl rfl rfl ha ?_)
    go_ret
    exact HF.out
end Go.Proofs.Ytcfhkpjheemkgaa
