/-
  Values that show memory (rows of numbers, of envelopes, blocks): as things of their own; what a stack of things lets be read.
-/
import Derived.Test.YtcfhkpjheemkgaaBlk
import Derived.Test.YtcfhkpjheemkgaaWorld
import Derived.Test.YtcfhkpjheemkgaaSeq
namespace Go.Proofs.Ytcfhkpjheemkgaa
set_option linter.unusedSectionVars false
set_option linter.unnecessarySimpa false
set_option linter.unusedSimpArgs false
set_option linter.unusedVariables false
open Go.RowKit Go.MapKept

section
variable {w w' : World} {m : Nat → Thing} {l : List Thing} {v : Value} {n : Nat} {xs : List Value} {L : List Int} {E : List EnvX} {b : BlkX} {cs : List Value} {S : Nat → Prop}
/-- A row that shows, in blocks of its own. -/
def rowT (v : Value) (n : Nat) (xs : List Value) : Thing := ⟨fun w F => SliceIn F w v n xs ∧ ∀ k, F k → k < w.heap.size, fun h k hk => h.2 k hk, fun h hc hs => ⟨h.1.chg hc hs, fun k hk => Nat.lt_of_lt_of_le (h.2 k hk) hc.size⟩⟩
def blkT (cs : List Value) (b : BlkX) : Thing := ⟨fun w F => BlkV F w cs b ∧ ∀ k, F k → k < w.heap.size, fun h k hk => h.2 k hk, fun h hc hs => ⟨h.1.chg hc hs, fun k hk => Nat.lt_of_lt_of_le (h.2 k hk) hc.size⟩⟩
def anyK : Nat → Prop := fun _ => True
theorem Sys.pushRow (h : Sys w m l) (hB : Below w.heap.size w w') (hb : SliceIn (fun k => w.heap.size ≤ k) w' v n xs) : Sys w' m (rowT v n xs :: l) :=
  h.push (Chg.of_below hB) (F := fun k => w.heap.size ≤ k ∧ k < w'.heap.size) ⟨hb.mono fun k h1 h2 => ⟨h1, h2⟩, fun k hk => hk.2⟩ fun k hk => hk.1
theorem Sys.pushBlk (h : Sys w m l) (hB : Below w.heap.size w w') (hb : BlkV (fun k => w.heap.size ≤ k) w' cs b) : Sys w' m (blkT cs b :: l) :=
  h.push (Chg.of_below hB) (F := fun k => w.heap.size ≤ k ∧ k < w'.heap.size) ⟨hb.mono fun k h1 h2 => ⟨h1, h2⟩, fun k hk => hk.2⟩ fun k hk => hk.1
theorem Sys.memRow (h : Sys w m l) (ht : rowT v n xs ∈ l) : SliceIn anyK w v n xs := by obtain ⟨F, hF⟩ := h.mem ht; exact hF.1.mono fun _ _ _ => trivial
theorem Sys.memBlkV (h : Sys w m l) (ht : blkT cs b ∈ l) : BlkV anyK w cs b := by obtain ⟨F, hF⟩ := h.mem ht; exact hF.1.mono fun _ _ _ => trivial
theorem Cap.row (ht : rowT v n xs ∈ l) : Cap l (fun w => SliceIn anyK w v n xs) := fun _ _ h => h.memRow ht
theorem Cap.blk (ht : blkT cs b ∈ l) : Cap l (fun w => BlkV anyK w cs b) := fun _ _ h => h.memBlkV ht
theorem Cap.app {Q : World → Prop} {l' : List Thing} (h : Cap l Q) : Cap (l' ++ l) Q := by
  induction l' with
  | nil => exact h
  | cons t l' ih => exact fun w m hs => ih w m hs.tail
theorem SliceIn.intsAt {a : Option Addr} {k c : Nat} (h : SliceIn S w (.slice a k c) n (L.map (Value.int .i64))) : IntsAt w a L := by
  obtain ⟨a', c', e, h1, -⟩ := h
  cases e
  rcases h1.cells with h | ⟨b, off, rfl, h⟩
  · exact .inl (by simpa using h)
  · refine .inr ⟨b, off, rfl, fun j hj => h j _ ?_⟩
    rw [List.getElem?_map, List.getElem?_eq_getElem hj, List.getD_eq_getElem?_getD, List.getElem?_eq_getElem hj]
    rfl
theorem Sys.nth {n : Nat} {o : Obj} (i : Nat) (h : Sys w m l) (hi : l[i]? = some (blk n o)) : w.heap[n]? = some o := Sys.memBlk h (List.mem_of_getElem? hi)
/-- A block whose cells are a row, as a row of the code's own. -/
theorem Sys.blkOwn {n k : Nat} {T : TypeId} {ys : List Value} (h : Sys w m (blk n (.cells ys.toArray T (0, 0)) :: l)) (hx : ys.length = k) (hk : k ≤ maxLen) : Sys w m (own T 1 (.slice (some ⟨n, 0, none⟩) k k) k ys :: l) := by
  obtain ⟨F, ⟨hb, rfl⟩, h1, h2, h3⟩ := h.head
  refine h3 w _ ⟨fun j => (Value.slice (some ⟨n, 0, none⟩) k k).ownBlock = some j, ⟨⟨by omega, .inr ⟨n, k, _, rfl, Nat.zero_le _, hb, Nat.le_refl _, hk, by simp [hx], by simp [← hx]⟩⟩, rfl⟩, fun j hj => .inl ?_, Chg.refl _ _⟩
  cases hj; rfl
section
variable {t : TypeId} {fr : Nat × Nat} {a0 a1 a2 a3 a4 a5 a6 a7 : Value}
theorem cells2 (h : w.heap[n]? = some (.cells #[a0, a1] t fr)) : w.cell? ⟨n, 0, none⟩ = some a0 ∧ w.cell? ⟨n, 1, none⟩ = some a1 := ⟨cell_of_blk h 0, cell_of_blk h 1⟩
theorem cells3 (h : w.heap[n]? = some (.cells #[a0, a1, a2] t fr)) : w.cell? ⟨n, 0, none⟩ = some a0 ∧ w.cell? ⟨n, 1, none⟩ = some a1 ∧ w.cell? ⟨n, 2, none⟩ = some a2 := ⟨cell_of_blk h 0, cell_of_blk h 1, cell_of_blk h 2⟩
theorem cells4 (h : w.heap[n]? = some (.cells #[a0, a1, a2, a3] t fr)) : w.cell? ⟨n, 0, none⟩ = some a0 ∧ w.cell? ⟨n, 1, none⟩ = some a1 ∧ w.cell? ⟨n, 2, none⟩ = some a2 ∧ w.cell? ⟨n, 3, none⟩ = some a3 := ⟨cell_of_blk h 0, cell_of_blk h 1, cell_of_blk h 2, cell_of_blk h 3⟩
theorem cells5 (h : w.heap[n]? = some (.cells #[a0, a1, a2, a3, a4] t fr)) : w.cell? ⟨n, 0, none⟩ = some a0 ∧ w.cell? ⟨n, 1, none⟩ = some a1 ∧ w.cell? ⟨n, 2, none⟩ = some a2 ∧ w.cell? ⟨n, 3, none⟩ = some a3 ∧ w.cell? ⟨n, 4, none⟩ = some a4 := ⟨cell_of_blk h 0, cell_of_blk h 1, cell_of_blk h 2, cell_of_blk h 3, cell_of_blk h 4⟩
theorem cells6 (h : w.heap[n]? = some (.cells #[a0, a1, a2, a3, a4, a5] t fr)) : w.cell? ⟨n, 0, none⟩ = some a0 ∧ w.cell? ⟨n, 1, none⟩ = some a1 ∧ w.cell? ⟨n, 2, none⟩ = some a2 ∧ w.cell? ⟨n, 3, none⟩ = some a3 ∧ w.cell? ⟨n, 4, none⟩ = some a4 ∧ w.cell? ⟨n, 5, none⟩ = some a5 := ⟨cell_of_blk h 0, cell_of_blk h 1, cell_of_blk h 2, cell_of_blk h 3, cell_of_blk h 4, cell_of_blk h 5⟩
theorem cells8 (h : w.heap[n]? = some (.cells #[a0, a1, a2, a3, a4, a5, a6, a7] t fr)) : w.cell? ⟨n, 0, none⟩ = some a0 ∧ w.cell? ⟨n, 1, none⟩ = some a1 ∧ w.cell? ⟨n, 2, none⟩ = some a2 ∧ w.cell? ⟨n, 3, none⟩ = some a3 ∧ w.cell? ⟨n, 4, none⟩ = some a4 ∧ w.cell? ⟨n, 5, none⟩ = some a5 ∧ w.cell? ⟨n, 6, none⟩ = some a6 ∧ w.cell? ⟨n, 7, none⟩ = some a7 := ⟨cell_of_blk h 0, cell_of_blk h 1, cell_of_blk h 2, cell_of_blk h 3, cell_of_blk h 4, cell_of_blk h 5, cell_of_blk h 6, cell_of_blk h 7⟩
end
theorem flatE_cells (E : List EnvX) (i : Nat) (h : i < E.length) (j : Nat) (u : Value) (hu : (E.getD i default).cells[j]? = some u) : (flatE E)[i * 4 + j]? = some u := by
  induction E generalizing i with
  | nil => simp at h
  | cons e E ih =>
    have hl : e.cells.length = 4 := rfl
    have hj : j < 4 := by
      rcases Nat.lt_or_ge j 4 with h | h
      · exact h
      · rw [List.getElem?_eq_none (by show _ ≤ j; exact h)] at hu; cases hu
    cases i with
    | zero =>
      simp only [flatE, List.flatMap_cons]
      rw [Nat.zero_mul, Nat.zero_add, List.getElem?_append_left (by omega)]
      simpa using hu
    | succ i =>
      have := ih i (by simpa using h) (by simpa using hu)
      simp only [flatE, List.flatMap_cons] at *
      rw [List.getElem?_append_right (by omega), hl, show (i + 1) * 4 + j - 4 = i * 4 + j by omega]
      exact this
/-- Behind the slice's address lie the envelopes E. -/
def EnvsAt (w : World) (a : Option Addr) (E : List EnvX) : Prop := E = [] ∨ ∃ b off, a = some ⟨b, off, none⟩ ∧ ∀ i, i < E.length → ∀ j u, (E.getD i default).cells[j]? = some u → w.cell? ⟨b, off + i * 4 + j, none⟩ = some u
theorem SliceIn.envsAt {a : Option Addr} {k c : Nat} (h : SliceIn S w (.slice a k c) n (flatE E)) : EnvsAt w a E := by
  obtain ⟨a', c', e, h1, -⟩ := h
  cases e
  rcases h1.cells with h | ⟨b, off, rfl, h⟩
  · have := flatE_length E; rw [h] at this; exact .inl (List.length_eq_zero_iff.1 (by simp at this; omega))
  · refine .inr ⟨b, off, rfl, fun i hi j u hu => ?_⟩
    have := h (i * 4 + j) u (flatE_cells E i hi j u hu)
    rw [Nat.add_assoc]; exact this
theorem EnvsAt.get {b off i : Nat} (h : EnvsAt w (some ⟨b, off, none⟩) E) (hi : i < E.length) : ∀ (j : Nat) (u : Value), (E.getD i default).cells[j]? = some u → w.cell? ⟨b, off + i * 4 + j, none⟩ = some u := by
  rcases h with h | ⟨b', off', e, h⟩
  · rw [h] at hi; simp at hi
  · cases e; exact h i hi
theorem EnvsAt.some_ {a : Option Addr} {i : Nat} (h : EnvsAt w a E) (hi : i < E.length) : ∃ b off, a = some ⟨b, off, none⟩ := by
  rcases h with h | ⟨b', off', e, h⟩
  · rw [h] at hi; simp at hi
  · exact ⟨b', off', e⟩
theorem IntsAt.some_ {a : Option Addr} {i : Nat} (h : IntsAt w a L) (hi : i < L.length) : ∃ b off, a = some ⟨b, off, none⟩ := by
  rcases h with h | ⟨b', off', e, h⟩
  · rw [h] at hi; simp at hi
  · exact ⟨b', off', e⟩
/-- A block's value: its two rows. -/
def bval (b : BlkX) (ua : Option Addr) (uc : Nat) (va : Option Addr) (vc : Nat) : List Value := [.int .i64 b.view, .int .i64 b.author, .int .i64 b.jv, .int .i64 b.jb, .slice ua b.by_.length uc, .slice va b.envs.length vc]
theorem BlkV.val (h : BlkV S w cs b) : ∃ ua uc va vc, cs = bval b ua uc va vc := by
  obtain ⟨u, v, rfl, ⟨ua, uc, rfl, -⟩, ⟨va, vc, rfl, -⟩⟩ := h
  exact ⟨ua, uc, va, vc, rfl⟩
def BlkAt (w : World) (b : BlkX) (ua : Option Addr) (uc : Nat) (va : Option Addr) (vc : Nat) : Prop := BlkV anyK w (bval b ua uc va vc) b
section
variable {ua va : Option Addr} {uc vc : Nat}
theorem BlkAt.rows (h : BlkAt w b ua uc va vc) : IntsIn anyK w (.slice ua b.by_.length uc) b.by_ ∧ EnvsIn anyK w (.slice va b.envs.length vc) b.envs := by
  obtain ⟨u, v, e, h1, h2⟩ := h
  unfold bval blkCells at e
  simp only [List.cons.injEq, and_true, true_and] at e
  obtain ⟨rfl, rfl⟩ := e
  exact ⟨h1, h2⟩
theorem BlkAt.ints (h : BlkAt w b ua uc va vc) : IntsAt w ua b.by_ := h.rows.1.intsAt
theorem BlkAt.envs (h : BlkAt w b ua uc va vc) : EnvsAt w va b.envs := h.rows.2.envsAt
theorem BlkAt.lens (h : BlkAt w b ua uc va vc) : b.by_.length ≤ 2000000 ∧ b.envs.length ≤ 2000000 := by
  obtain ⟨⟨_, _, _, _, _, _, h1⟩, ⟨_, _, _, _, _, _, h2⟩⟩ := h.rows
  exact ⟨h1, h2⟩
end
theorem Own.intsAt {a : Option Addr} {k c : Nat} (h : Own 3 1 w (.slice a k c) n (L.map (Value.int .i64))) : IntsAt w a L := by
  rcases h.2 with ⟨h1, h2⟩ | ⟨g, cap, cur, e, _, hb, _, _, _, ht⟩
  · have := h.1
    rw [h2] at this
    exact .inl (by simpa using this)
  · cases e
    refine .inr ⟨g, 0, rfl, fun i hi => ?_⟩
    rw [Nat.zero_add, cell_of_blk hb i]
    have h3 : (cur.toList.take (n * 1))[i]? = (L.map (Value.int .i64))[i]? := by rw [ht]
    rw [List.getElem?_take] at h3
    have h4 := h.1
    simp only [List.length_map, Nat.mul_one] at h4
    rw [if_pos (by omega), List.getElem?_map, List.getElem?_eq_getElem hi] at h3
    rw [List.getD_eq_getElem?_getD, List.getElem?_eq_getElem hi]
    simpa using h3
/-- The boxes that a function lays at its entry. -/
theorem Sys.box (h : Sys w m l) (o : Obj) : ∃ n x, Hid (w.heap.size = n) ∧ Hid (w.alloc o = x) ∧ Hid (x.heap.size = w.heap.size + 1) ∧ Hid (Sys x m (blk n o :: l)) :=
  ⟨_, _, rfl, rfl, by show _ = _; simp, h.alloc o rfl⟩
theorem Sys.box' {x : World} {k : Nat} (h : Hid (Sys x m l)) (hx : Hid (x.heap.size = w.heap.size + k)) (o : Obj) : ∃ n y, Hid (w.heap.size + k = n) ∧ Hid (x.alloc o = y) ∧ Hid (y.heap.size = w.heap.size + (k + 1)) ∧ Hid (Sys y m (blk n o :: l)) :=
  ⟨_, _, rfl, rfl, by show _ = _; simp [hx.out]; omega, h.out.alloc o hx.out.symm⟩
end
end Go.Proofs.Ytcfhkpjheemkgaa
