/-
  What a bound on a reading's bulk gives: messages that lie in memory, in any later world.
-/
import Derived.Test.YtcfhkpjheemkgaaMsgArgs
import Derived.Test.YtcfhkpjheemkgaaWatchHearB
import Derived.Test.YtcfhkpjheemkgaaAwakeD
namespace Go.Proofs.Ytcfhkpjheemkgaa
set_option linter.unusedSectionVars false
set_option linter.unnecessarySimpa false
set_option linter.unusedSimpArgs false
set_option linter.unusedVariables false
open Go.RowKit Go.MapKept

theorem mem_sum_le : ∀ {L : List Nat} {x : Nat}, x ∈ L → x ≤ L.sum
  | [], _, h => by cases h
  | a :: L, x, h => by
    rw [List.sum_cons]
    rcases List.mem_cons.1 h with rfl | h
    · omega
    · have := mem_sum_le h; omega
theorem len_le_sum {α : Type} (f : α → Nat) (hf : ∀ a, 1 ≤ f a) : ∀ L : List α, L.length ≤ (L.map f).sum
  | [] => Nat.le_refl _
  | a :: L => by rw [List.map_cons, List.sum_cons, List.length_cons]; have := len_le_sum f hf L; have := hf a; omega
theorem MsgP.Raw.at_ {P : MsgP} {w : World} (h : P.Raw w) (hs : P.size ≤ 2000000) : P.At w := by
  unfold MsgP.size at hs
  have hl := len_le_sum (fun a : BlkX × Value × Value => a.1.by_.length + a.1.envs.length + 1) (fun a => by omega) P.E
  refine ⟨h.q.sliceIn (by omega), h.t.sliceIn (by omega), h.h.sliceIn (by omega), h.g.sliceIn (by omega), h.b.sliceIn (by omega), fun e he => ?_⟩
  have hm := mem_sum_le (List.mem_map.2 ⟨e, he, rfl⟩ : e.1.by_.length + e.1.envs.length + 1 ∈ P.E.map fun a : BlkX × Value × Value => a.1.by_.length + a.1.envs.length + 1)
  obtain ⟨h1, h2, h3⟩ := h.e e he
  exact ⟨h1.sliceIn (by omega), h2.sliceIn (by omega)⟩
theorem MsgP.At.below {P : MsgP} {w y : World} (h : P.At w) (hB : Below w.heap.size w y) : P.At y :=
  ⟨SliceIn.chg0 h.q (Chg.of_below hB), SliceIn.chg0 h.t (Chg.of_below hB), SliceIn.chg0 h.h (Chg.of_below hB), SliceIn.chg0 h.g (Chg.of_below hB), SliceIn.chg0 h.b.1 (Chg.of_below hB), fun e he => ⟨SliceIn.chg0 (h.b.2 e he).1 (Chg.of_below hB), SliceIn.chg0 (h.b.2 e he).2 (Chg.of_below hB)⟩⟩
theorem blkB_le : ∀ E : List (BlkX × Value × Value), (E.flatMap fun e => mBlkB e.1).length ≤ 80 * (E.map fun a => a.1.by_.length + a.1.envs.length + 1).sum
  | [] => by simp
  | e :: E => by
    have := blkB_le E
    rw [List.flatMap_cons, List.length_append, mBlkB_length, List.map_cons, List.sum_cons]
    omega
theorem MsgP.blkB_small {P : MsgP} (hs : P.size ≤ 2000000) : P.blkB.length ≤ 900000000 := by
  have := blkB_le P.E
  unfold MsgP.size at hs
  unfold MsgP.blkB
  omega
theorem flat_get {α : Type} (cells : α → List Value) (size : Nat) (hl : ∀ a, (cells a).length = size) : ∀ (L : List α) (i : Nat) (hi : i < L.length) (j : Nat) (_ : j < size), (L.flatMap cells)[i * size + j]? = (cells L[i])[j]?
  | a :: L, 0, _, j, hj => by
    rw [List.flatMap_cons, Nat.zero_mul, Nat.zero_add, List.getElem?_append_left (by rw [hl]; exact hj)]; rfl
  | a :: L, i + 1, hi, j, hj => by
    rw [List.flatMap_cons, List.getElem?_append_right (by rw [hl, Nat.succ_mul]; omega), hl, Nat.succ_mul, show i * size + size + j - size = i * size + j by omega]
    exact flat_get cells size hl L i (by simpa using hi) j hj
theorem RawSl.msg {w y : World} {a : Option Addr} {n cap : Nat} {L : List MsgP} (h : RawSl w (.slice a n cap) L.length (L.flatMap MsgP.cells)) (hB : Below w.heap.size w y) {i : Nat} (hi : i < L.length) :
    ∃ b off, a = some ⟨b, off, none⟩ ∧ ∀ (j : Nat) (v : Value), L[i].cells[j]? = some v → y.cell? ⟨b, off + i * 19 + j, none⟩ = some v := by
  obtain ⟨a', cap', e, hs, -⟩ := h
  cases e
  rcases hs with h0 | ⟨b, off, e, hc⟩
  · have h1 := congrArg List.length h0
    rw [List.length_flatMap] at h1
    have h2 : (L.map fun a => (MsgP.cells a).length).sum = (L.map fun _ => 19).sum := rfl
    rw [h2] at h1
    have h3 := len_le_sum (fun _ : MsgP => 19) (fun _ => by omega) L
    have h1' : (L.map fun _ => 19).sum = 0 := h1
    omega
  · refine ⟨b, off, e, fun j v hv => ?_⟩
    have hj : j < 19 := (List.getElem?_eq_some_iff.1 hv).1
    have h1 := hc (i * 19 + j) v (by rw [flat_get MsgP.cells 19 (fun _ => rfl) L i hi j hj]; exact hv)
    rw [← Nat.add_assoc] at h1
    exact (Chg.of_below (S := none_) hB).cell h1.1 (fun h => h)
theorem sizes_each {L : List MsgP} {n : Nat} (h : (L.map MsgP.size).sum ≤ n) : ∀ P ∈ L, P.size ≤ n := fun P hP => Nat.le_trans (mem_sum_le (List.mem_map.2 ⟨P, hP, rfl⟩)) h
theorem MsgP.code_len {P : MsgP} {w : World} (h : P.At w) (hs : P.size ≤ 2000000) : (P.code.getD []).length ≤ 1000000000 := by
  unfold MsgP.code
  split
  · exact MsgP.bytes_le h (MsgP.blkB_small hs)
  · exact Nat.zero_le _
/-- Three named things. -/
def three (a b c : Thing) : Nat → Thing := upd (two a b) 2 c
theorem three0 (a b c x : Thing) : upd (three a b c) 0 x = three x b c := by
  unfold three
  rw [upd_comm _ _ _ (by decide), two0]
theorem three1 (a b c x : Thing) : upd (three a b c) 1 x = three a x c := by
  unfold three
  rw [upd_comm _ _ _ (by decide), two1]
theorem three2 (a b c x : Thing) : upd (three a b c) 2 x = three a b x := upd_upd _ _ _ _
/-- Plains and shares: what a share leaves as it was. -/
theorem shareC_len (C : List Ciph) (who c : Int) : (shareC C who c).length = C.length := by
  unfold shareC
  split
  · split <;> simp
  · rfl
theorem shareC_plain {C : List Ciph} {who c : Int} : ∀ x ∈ shareC C who c, ∃ y ∈ C, x.plain = y.plain ∧ x.label = y.label := by
  intro x hx
  unfold shareC at hx
  split at hx
  · split at hx
    · next z hz =>
      rcases List.mem_or_eq_of_mem_set hx with h | h
      · exact ⟨x, h, rfl, rfl⟩
      · exact ⟨z, List.mem_of_getElem? hz, by rw [h], by rw [h]⟩
    · exact ⟨x, hx, rfl, rfl⟩
  · exact ⟨x, hx, rfl, rfl⟩
theorem plainC_mem {need : Int} {C : List Ciph} {c : Int} {t : List UInt8} (h : plainC need C c = some t) : ∃ y ∈ C, t = y.plain := by
  unfold plainC at h
  split at h
  · cases hx : C[(c - 1).toNat]? with
    | none => rw [hx] at h; cases h
    | some x =>
      rw [hx] at h
      dsimp only [Option.bind] at h
      split at h
      · cases h; exact ⟨x, List.mem_of_getElem? hx, rfl⟩
      · cases h
  · cases h
theorem openN_mem (need : Int) (C : List Ciph) (s : List SeenT × List Int) (k : Nat) : ∀ x ∈ (openN need C s k).1, x ∈ s.1 ∨ (x.1 = [] ∧ ∃ y ∈ C, x.2.2 = y.plain) := by
  induction k with
  | zero => exact fun x hx => .inl hx
  | succ k ih =>
    intro x hx
    rw [openN_succ] at hx
    unfold openStep at hx
    split at hx
    · next t ht =>
      split at hx
      · exact ih x hx
      · rcases List.mem_append.1 hx with hx | hx
        · exact ih x hx
        · rw [List.mem_singleton] at hx
          subst hx
          exact .inr ⟨rfl, plainC_mem ht⟩
    · exact ih x hx
section
variable {w w' : World} {m : Nat → Thing} {l : List Thing}
theorem Sys.seenHead {s : SeenX} {r : List SeenX} (h : Sys w m (rowsT (s :: r) :: l)) : Sys w m (rowB s.mv s.m :: rowB s.tv s.t :: rowsT r :: l) := by
  obtain ⟨_, h⟩ := h.open
  have h2 : Sys w m ((seenRows r) ++ (rowB s.mv s.m :: rowB s.tv s.t :: l)) := h.perm (by
    show List.Perm (rowB s.mv s.m :: rowB s.tv s.t :: (seenRows r ++ l)) _
    exact (List.perm_middle.trans (List.Perm.cons _ (List.perm_middle))).symm)
  have h3 := Sys.close (f := fun _ : Unit => seenRows r) () h2
  exact ((h3.front 1 rfl).front 2 rfl).swap
theorem Sys.dropSet {E size k n cp g : Nat} {xs : List Value} (h : Sys w m (own E size (.slice (some ⟨g, 0, none⟩) k cp) n xs :: l)) (i : Nat) (u : Value) : Sys (w.setCell ⟨g, i, none⟩ u) m l := by
  obtain ⟨F, ⟨_, rfl⟩, _, h3, _⟩ := h.head
  exact h3 _ (Chg.setCell (p := ⟨g, i, none⟩) (Chg.refl (fun j => (Value.slice (some ⟨g, 0, none⟩) k cp).ownBlock = some j) w) (.inl rfl) u)
theorem Own.byte0 {v : Value} {n : Nat} {L : List UInt8} (h : Own 5 1 w v n (bcells L)) (h0 : 0 < n) : ∃ g cp b, v = .slice (some ⟨g, 0, none⟩) n cp ∧ w.cell? ⟨g, 0, none⟩ = some (.int .u8 b) ∧ w.frozen? ⟨g, 0, none⟩ = false := by
  obtain ⟨a, cap, rfl, hc, hm, hl, ha⟩ := h.open
  rcases ha with ⟨rfl, rfl, rfl⟩ | ⟨g, cs, rfl, hg, hcs, ht⟩
  · omega
  · have hn : n = L.length := by simpa [bcells] using hl.symm
    obtain ⟨b, hb⟩ : ∃ b, L[0]? = some b := ⟨_, List.getElem?_eq_getElem (by omega)⟩
    have hj : 0 < n * 1 := by omega
    have hu : (bcells L)[0]? = some (.int .u8 (b.toNat : Int)) := by unfold bcells; rw [List.getElem?_map, hb]; rfl
    exact ⟨g, cap, _, rfl, own_cell hg ht hj hu, frozen_of_blk hg _⟩
theorem Own.bytesOf {v : Value} {n : Nat} {L : List UInt8} (h : Own 5 1 w v n (bcells L)) : ∃ a c, v = .slice a n c ∧ BytesAt w a L ∧ n = L.length := by
  obtain ⟨a, c, h1, h2, h3, _⟩ := h.bytes
  exact ⟨a, c, by rw [h2]; exact h1, h3, h2⟩
end
end Go.Proofs.Ytcfhkpjheemkgaa
