/-
  A message as a value: its cells; mess.Still: the same in memory of its own.
-/
import Derived.Test.YtcfhkpjheemkgaaBlk
import Derived.Laws.Rows
import Derived.Laws.Tables
namespace Go.Proofs.Ytcfhkpjheemkgaa
set_option linter.unusedSectionVars false
set_option linter.unnecessarySimpa false
set_option linter.unusedSimpArgs false
set_option linter.unusedVariables false
open Go.RowKit Go.MapKept

structure MsgI where
  kind : Int
  frm : Int
  to_ : Int
  view : Int
  num : Int
  qv : Int
  qb : Int
  tv : Int
  hv : Int
  hb : Int
  ec : Int
  en : Int
  ef : Int
  eci : Int
/-- A message: its numbers, its rows. -/
structure MsgX where
  i : MsgI
  qby : List Int
  tby : List Int
  thi : List Int
  hby : List Int
  blocks : List BlkX
def msgCells (i : MsgI) (a b c d e : Value) : List Value := [.int .i64 i.kind, .int .i64 i.frm, .int .i64 i.to_, .int .i64 i.view, .int .i64 i.num, .int .i64 i.qv, .int .i64 i.qb, a, .int .i64 i.tv, b, c, .int .i64 i.hv, .int .i64 i.hb, d, .int .i64 i.ec, .int .u64 i.en, .int .u64 i.ef, .int .i64 i.eci, e]
def flatB (E : List (BlkX × Value × Value)) : List Value := E.flatMap fun e => blkCells e.1 e.2.1 e.2.2
theorem flatB_length (E : List (BlkX × Value × Value)) : (flatB E).length = E.length * 6 := by
  induction E with
  | nil => rfl
  | cons e L ih => simp only [flatB, List.flatMap_cons, List.length_append, List.length_cons] at *; rw [ih]; simp [blkCells]; omega
theorem flatB_snoc (E : List (BlkX × Value × Value)) (e : BlkX × Value × Value) : flatB (E ++ [e]) = flatB E ++ blkCells e.1 e.2.1 e.2.2 := by simp [flatB]
theorem flatB_at (E : List (BlkX × Value × Value)) (i : Nat) (h : i < E.length) (j : Nat) (hj : j < 6) : (flatB E)[i * 6 + j]? = (blkCells E[i].1 E[i].2.1 E[i].2.2)[j]? := by
  induction E generalizing i with
  | nil => simp at h
  | cons e L ih =>
    have hl : (blkCells e.1 e.2.1 e.2.2).length = 6 := rfl
    cases i with
    | zero =>
      simp only [flatB, List.flatMap_cons, List.getElem_cons_zero]
      rw [Nat.zero_mul, Nat.zero_add, List.getElem?_append_left (by omega)]
    | succ i =>
      have := ih i (by simpa using h)
      simp only [flatB, List.flatMap_cons, List.getElem_cons_succ] at *
      rw [List.getElem?_append_right (by omega), hl, show (i + 1) * 6 + j - 6 = i * 6 + j by omega]
      exact this
def BlocksIn (S : Nat → Prop) (w : World) (v : Value) (L : List BlkX) : Prop :=
  ∃ E : List (BlkX × Value × Value), L = E.map (·.1) ∧ SliceIn S w v E.length (flatB E) ∧ ∀ e ∈ E, IntsIn S w e.2.1 e.1.by_ ∧ EnvsIn S w e.2.2 e.1.envs
/-- cs are the cells of a message x; what it shows lies in S. -/
def MsgV (S : Nat → Prop) (w : World) (cs : List Value) (x : MsgX) : Prop :=
  ∃ a b c d e, cs = msgCells x.i a b c d e ∧ IntsIn S w a x.qby ∧ IntsIn S w b x.tby ∧ IntsIn S w c x.thi ∧ IntsIn S w d x.hby ∧ BlocksIn S w e x.blocks
section
variable {S S' : Nat → Prop} {w w' : World} {cs : List Value} {x : MsgX} {v : Value} {L : List BlkX}
theorem BlocksIn.chg {X : Nat → Prop} (h : BlocksIn S w v L) (hc : Chg X w w') (hs : ∀ b, S b → ¬ X b) : BlocksIn S w' v L := by
  obtain ⟨E, e, h1, h2⟩ := h
  exact ⟨E, e, h1.chg hc hs, fun e he => ⟨(h2 e he).1.chg hc hs, (h2 e he).2.chg hc hs⟩⟩
theorem BlocksIn.mono (h : BlocksIn S w v L) (hs : ∀ b, S b → b < w.heap.size → S' b) : BlocksIn S' w v L := by
  obtain ⟨E, e, h1, h2⟩ := h
  exact ⟨E, e, h1.mono hs, fun e he => ⟨(h2 e he).1.mono hs, (h2 e he).2.mono hs⟩⟩
theorem MsgV.chg {X : Nat → Prop} (h : MsgV S w cs x) (hc : Chg X w w') (hs : ∀ b, S b → ¬ X b) : MsgV S w' cs x := by
  obtain ⟨a, b, c, d, e, h0, h1, h2, h3, h4, h5⟩ := h
  exact ⟨a, b, c, d, e, h0, h1.chg hc hs, h2.chg hc hs, h3.chg hc hs, h4.chg hc hs, h5.chg hc hs⟩
theorem MsgV.chg0 (h : MsgV S w cs x) (hc : Chg none_ w w') : MsgV S w' cs x := h.chg hc fun _ _ h => h
theorem MsgV.mono (h : MsgV S w cs x) (hs : ∀ b, S b → b < w.heap.size → S' b) : MsgV S' w cs x := by
  obtain ⟨a, b, c, d, e, h0, h1, h2, h3, h4, h5⟩ := h
  exact ⟨a, b, c, d, e, h0, h1.mono hs, h2.mono hs, h3.mono hs, h4.mono hs, h5.mono hs⟩
theorem MsgV.length (h : MsgV S w cs x) : cs.length = 19 := by
  obtain ⟨a, b, c, d, e, h0, _⟩ := h
  rw [h0]; rfl
theorem MsgV.one (h : MsgV S w cs x) : ∀ u ∈ cs, u.oneCell' = true := by
  obtain ⟨a, b, c, d, e, h0, h1, h2, h3, h4, E, _, h5, _⟩ := h
  subst h0
  intro u hu
  simp only [msgCells, List.mem_cons, List.not_mem_nil, or_false] at hu
  rcases hu with rfl | rfl | rfl | rfl | rfl | rfl | rfl | rfl | rfl | rfl | rfl | rfl | rfl | rfl | rfl | rfl | rfl | rfl | rfl
  all_goals first | rfl | exact SliceIn.one (by assumption)
end

/-- Made since w, and neither of the two variables. -/
def G9 (w : World) (n0 : Nat) (k : Nat) : Prop := w.heap.size ≤ k ∧ k ≠ n0 ∧ k ≠ n0 + 1

/-- .. nor the row v. -/
def G8 (w : World) (n0 : Nat) (v : Value) (k : Nat) : Prop := G9 w n0 k ∧ v.ownBlock ≠ some k
/-- What the loop over the blocks keeps. -/
structure StillI (w : World) (n0 : Nat) (arr zero : Array Value) (E : List (BlkX × Value × Value)) (c1 c2 c3 c4 : Value) (l1 l2 l3 l4 : List Int) (j : Nat) (E' : List (BlkX × Value × Value)) (v : Value) (x : World) : Prop where
  below : Below w.heap.size w x
  b0 : x.heap[n0]? = some (.cells arr 36 (0, 0))
  b1 : x.heap[n0 + 1]? = some (.cells zero 36 (0, 0))
  own : Own 65 6 x v j (flatB E')
  len : E'.length = j
  same : E'.map (·.1) = (E.map (·.1)).take j
  new : ∀ k, v.ownBlock = some k → G9 w n0 k
  each : ∀ e ∈ E', IntsIn (G8 w n0 v) x e.2.1 e.1.by_ ∧ EnvsIn (G8 w n0 v) x e.2.2 e.1.envs
  r1 : IntsIn (G8 w n0 v) x c1 l1
  r2 : IntsIn (G8 w n0 v) x c2 l2
  r3 : IntsIn (G8 w n0 v) x c3 l3
  r4 : IntsIn (G8 w n0 v) x c4 l4
theorem StillI.step {w : World} {n0 : Nat} {arr zero : Array Value} {E : List (BlkX × Value × Value)} {c1 c2 c3 c4 : Value} {l1 l2 l3 l4 : List Int} {j : Nat} {E' : List (BlkX × Value × Value)} {v : Value} {x : World} (h : StillI w n0 arr zero E c1 c2 c3 c4 l1 l2 l3 l4 j E' v x) (hn : n0 = w.heap.size)
    {y z : World} (hy : Chg none_ x y) (hj : j < E.length) {u1 u2 : Value} (hu1 : IntsIn (fun k => x.heap.size ≤ k) y u1 E[j].1.by_) (hu2 : EnvsIn (fun k => x.heap.size ≤ k) y u2 E[j].1.envs)
    {v' : Value} (ho : Own 65 6 z v' (j + 1) (flatB E' ++ blkCells E[j].1 u1 u2)) (hz : Chg (fun k => v.ownBlock = some k) y z) (hb : v'.ownBlock = v.ownBlock ∨ ∃ k, v'.ownBlock = some k ∧ y.heap.size ≤ k) :
    StillI w n0 arr zero E c1 c2 c3 c4 l1 l2 l3 l4 (j + 1) (E' ++ [(E[j].1, u1, u2)]) v' z := by
  have hs := h.below.size
  have hs2 := hy.size
  have hl0 := blk_lt h.b0
  have hl1 := blk_lt h.b1
  have hv0 : v.ownBlock ≠ some n0 := fun e => (h.new _ e).2.1 rfl
  have hv1 : v.ownBlock ≠ some (n0 + 1) := fun e => (h.new _ e).2.2 rfl
  have hnew : ∀ k, v'.ownBlock = some k → G9 w n0 k := fun k hk => by
    rcases hb with hb | ⟨k', hk', hle⟩
    · exact h.new k (hb ▸ hk)
    · rw [hk'] at hk; cases hk; exact ⟨by omega, by omega, by omega⟩
  have keep : ∀ k, G8 w n0 v k → k < y.heap.size → G8 w n0 v' k := fun k hk hlt => ⟨hk.1, fun e => by
    rcases hb with hb | ⟨k', hk', hle⟩
    · exact hk.2 (hb ▸ e)
    · rw [hk'] at e; cases e; omega⟩
  have keepN : ∀ k, x.heap.size ≤ k → k < y.heap.size → G8 w n0 v' k ∧ v.ownBlock ≠ some k := fun k hk hlt => by
    have h3 : v.ownBlock ≠ some k := fun e => by have := h.own.lt e; omega
    exact ⟨⟨⟨by omega, by omega, by omega⟩, fun e => by
      rcases hb with hb | ⟨k', hk', hle⟩
      · exact h3 (hb ▸ e)
      · rw [hk'] at e; cases e; omega⟩, h3⟩
  have mv : ∀ {c : Value} {l : List Int}, IntsIn (G8 w n0 v) x c l → IntsIn (G8 w n0 v') z c l := fun hr => ((SliceIn.chg0 hr hy).mono (S' := fun k => G8 w n0 v' k ∧ v.ownBlock ≠ some k) (fun b hb1 hb2 => ⟨keep b hb1 hb2, hb1.2⟩)).chg hz (fun b hb1 => hb1.2) |>.mono (fun b hb1 _ => hb1.1)
  have mvE : ∀ {c : Value} {l : List EnvX}, EnvsIn (G8 w n0 v) x c l → EnvsIn (G8 w n0 v') z c l := fun hr => ((SliceIn.chg0 hr hy).mono (S' := fun k => G8 w n0 v' k ∧ v.ownBlock ≠ some k) (fun b hb1 hb2 => ⟨keep b hb1 hb2, hb1.2⟩)).chg hz (fun b hb1 => hb1.2) |>.mono (fun b hb1 _ => hb1.1)
  refine ⟨h.below.trans ((hy.below hs (fun _ e => e.elim)).trans (hz.below (by omega) (fun k hk => (h.new k hk).1))), hz.blk (hy.blk h.b0 (fun e => e)) hv0, hz.blk (hy.blk h.b1 (fun e => e)) hv1, ?_, by simp [h.len], ?_, hnew, ?_, mv h.r1, mv h.r2, mv h.r3, mv h.r4⟩
  · rw [flatB_snoc]; exact ho
  · rw [List.map_append, h.same, List.take_succ_eq_append_getElem (by simpa using hj)]
    simp
  · intro e he
    rcases List.mem_append.1 he with he | he
    · exact ⟨mv (h.each e he).1, mvE (h.each e he).2⟩
    · simp at he; subst he
      exact ⟨((SliceIn.mono hu1 (S' := fun k => G8 w n0 v' k ∧ v.ownBlock ≠ some k) (fun b hb1 hb2 => keepN b hb1 hb2)).chg hz (fun b hb1 => hb1.2)).mono (fun b hb1 _ => hb1.1),
        ((SliceIn.mono hu2 (S' := fun k => G8 w n0 v' k ∧ v.ownBlock ≠ some k) (fun b hb1 hb2 => keepN b hb1 hb2)).chg hz (fun b hb1 => hb1.2)).mono (fun b hb1 _ => hb1.1)⟩

set_option maxRecDepth 100000 in
set_option maxHeartbeats 8000000 in
theorem mess_still (S : Nat → Prop) (cs : List Value) (x : MsgX) (w : World) (h : MsgV S w cs x) :
    Calls Try.prog 56 #[.agg cs.toArray] w fun e w' => ∃ cs', e = .returned (.agg cs'.toArray) ∧ MsgV (fun k => w.heap.size ≤ k) w' cs' x ∧ Below w.heap.size w w' := by
  obtain ⟨va, vb, vc, vd, ve, rfl, ha, hb, hc, hd, E, hE, he, hEe⟩ := h
  obtain ⟨⟨ikind, ifrm, ito_, iview, inum, iqv, iqb, itv, ihv, ihb, iec, ien, ief, ieci⟩, qby, tby, thi, hby, blocks⟩ := x
  dsimp only at ha hb hc hd hE
  subst hE
  obtain ⟨n0, hn0⟩ : ∃ n0, n0 = w.heap.size := ⟨_, rfl⟩
  obtain ⟨aa, ca, rfl, -⟩ := id ha
  obtain ⟨ab, cb, rfl, -⟩ := id hb
  obtain ⟨ac, cc, rfl, -⟩ := id hc
  obtain ⟨ad, cd, rfl, -⟩ := id hd
  obtain ⟨ae, ce, rfl, hE1, hE2, hE3, hE4⟩ := id he
  obtain ⟨w1, hw1⟩ : ∃ w1, w1 = (w.alloc (.cells #[.int .i64 ikind, .int .i64 ifrm, .int .i64 ito_, .int .i64 iview, .int .i64 inum, .int .i64 iqv, .int .i64 iqb, .slice aa qby.length ca, .int .i64 itv, .slice ab tby.length cb, .slice ac thi.length cc, .int .i64 ihv, .int .i64 ihb, .slice ad hby.length cd, .int .i64 iec, .int .u64 ien, .int .u64 ief, .int .i64 ieci, .slice ae E.length ce] 36 (0, 0))).alloc (.cells #[.int .i64 0, .int .i64 0, .int .i64 0, .int .i64 0, .int .i64 0, .int .i64 0, .int .i64 0, .slice none 0 0, .int .i64 0, .slice none 0 0, .slice none 0 0, .int .i64 0, .int .i64 0, .slice none 0 0, .int .i64 0, .int .u64 0, .int .u64 0, .int .i64 0, .slice none 0 0] 36 (0, 0)) := ⟨_, rfl⟩
  have hB1 : Below w.heap.size w w1 := by rw [hw1]; exact ((Below.refl _ _).alloc (Nat.le_refl _) _).alloc (by simp) _
  have hb0 : w1.heap[n0]? = some (.cells #[.int .i64 ikind, .int .i64 ifrm, .int .i64 ito_, .int .i64 iview, .int .i64 inum, .int .i64 iqv, .int .i64 iqb, .slice aa qby.length ca, .int .i64 itv, .slice ab tby.length cb, .slice ac thi.length cc, .int .i64 ihv, .int .i64 ihb, .slice ad hby.length cd, .int .i64 iec, .int .u64 ien, .int .u64 ief, .int .i64 ieci, .slice ae E.length ce] 36 (0, 0)) := by rw [hw1]; exact ((Chg.refl none_ _).alloc _).blk (alloc_new w _ n0 hn0) (fun h => h)
  have hb1 : w1.heap[n0 + 1]? = some (.cells #[.int .i64 0, .int .i64 0, .int .i64 0, .int .i64 0, .int .i64 0, .int .i64 0, .int .i64 0, .slice none 0 0, .int .i64 0, .slice none 0 0, .slice none 0 0, .int .i64 0, .int .i64 0, .slice none 0 0, .int .i64 0, .int .u64 0, .int .u64 0, .int .i64 0, .slice none 0 0] 36 (0, 0)) := by rw [hw1]; exact alloc_new _ _ _ (by simp [hn0])
  have hsz1 : w1.heap.size = n0 + 2 := by rw [hw1, hn0]; simp
  change Calls Try.prog 56 #[.agg #[.int .i64 ikind, .int .i64 ifrm, .int .i64 ito_, .int .i64 iview, .int .i64 inum, .int .i64 iqv, .int .i64 iqb, .slice aa qby.length ca, .int .i64 itv, .slice ab tby.length cb, .slice ac thi.length cc, .int .i64 ihv, .int .i64 ihb, .slice ad hby.length cd, .int .i64 iec, .int .u64 ien, .int .u64 ief, .int .i64 ieci, .slice ae E.length ce]] w _
  have HA := Lib.hid ha
  have HB := Lib.hid hb
  have HC := Lib.hid hc
  have HD := Lib.hid hd
  have HE := Lib.hid he
  have HEe := Lib.hid hEe
  have HE4 := Lib.hid hE4
  clear ha hb hc hd he hEe hE1 hE2 hE3 hE4
  go_enter Try.func56, Try.ntmps56
  have d7 : w1.cell? ⟨n0, 7, none⟩ = some (.slice aa qby.length ca) := (cell_of_blk hb0 7).trans rfl
  have HB0 := Lib.hid hb0
  have HB1 := Lib.hid hb1
  have HN0 := Lib.hid hn0
  have HW1 := Lib.hid hw1
  clear hb0 hb1 hn0 hw1
  go_wp2_with (first
    | (rw [← HN0.out, ← HW1.out]; go_wp2_with fail))
  refine (clone_ints S _ qby w1 (HA.out.chg0 (Chg.of_below hB1))).mono ?_
  rintro e w2 ⟨v1, rfl, ho1, hq1, hB2⟩
  obtain ⟨x1, y1, rfl, -⟩ := id ho1.open
  have hB2' : Below w.heap.size w w2 := hB1.trans (hB2.mono hB1.size)
  have hb0 := (Chg.of_below (S := none_) hB2).blk HB0.out (fun h => h)
  have hb1 := (Chg.of_below (S := none_) hB2).blk HB1.out (fun h => h)
  have e7 := (Chg.of_below (S := none_) hB2).cell d7 (fun h => h)
  have f7 := frozen_of_blk hb0 7
  have hg1 : IntsIn (G9 w n0) w2 (.slice x1 qby.length y1) qby := ho1.sliceIn (by obtain ⟨_, _, _, _, _, _, h⟩ := HA.out; exact h) (fun k hk => by have := hq1 k hk; exact ⟨by have := HN0.out; omega, by omega, by omega⟩)
  have HG1 := Lib.hid hg1
  have HBB := Lib.hid hb0
  have HBZ := Lib.hid hb1
  clear hb0 hb1 hg1 ho1 d7 HB0 HB1
  go_wp2_with fail
  have hb0 : (w2.setCell ⟨n0, 7, none⟩ (.slice x1 qby.length y1)).heap[n0]? = some (.cells #[.int .i64 ikind, .int .i64 ifrm, .int .i64 ito_, .int .i64 iview, .int .i64 inum, .int .i64 iqv, .int .i64 iqb, .slice x1 qby.length y1, .int .i64 itv, .slice ab tby.length cb, .slice ac thi.length cc, .int .i64 ihv, .int .i64 ihb, .slice ad hby.length cd, .int .i64 iec, .int .u64 ien, .int .u64 ief, .int .i64 ieci, .slice ae E.length ce] 36 (0, 0)) := setCell_same (i := 7) _ HBB.out
  have hy3 : Chg (· = n0) w2 (w2.setCell ⟨n0, 7, none⟩ (.slice x1 qby.length y1)) := (Chg.refl (· = n0) w2).put 7 _
  generalize w2.setCell ⟨n0, 7, none⟩ (.slice x1 qby.length y1) = w3 at *
  have hB3 : Below w.heap.size w w3 := hB2'.trans (hy3.below hB2'.size (fun k e => by have := HN0.out; omega))
  have hb1 := hy3.blk HBZ.out (by omega)
  have HG1' : Hid (IntsIn (G9 w n0) w3 (.slice x1 qby.length y1) qby) := HG1.out.chg hy3 (fun k h e => h.2.1 e)
  clear HBB HBZ HG1 hy3 e7 f7 hB2 hB2' hq1
  have hB3d : Below w.heap.size w w3.drew := hB3.trans ((Chg.refl none_ _).drew.below (Nat.le_refl _) (fun _ h => h.elim) |>.mono hB3.size)
  have hb0d : w3.drew.heap[n0]? = some (.cells #[.int .i64 ikind, .int .i64 ifrm, .int .i64 ito_, .int .i64 iview, .int .i64 inum, .int .i64 iqv, .int .i64 iqb, .slice x1 qby.length y1, .int .i64 itv, .slice ab tby.length cb, .slice ac thi.length cc, .int .i64 ihv, .int .i64 ihb, .slice ad hby.length cd, .int .i64 iec, .int .u64 ien, .int .u64 ief, .int .i64 ieci, .slice ae E.length ce] 36 (0, 0)) := hb0
  have hb1d : w3.drew.heap[n0 + 1]? = some (.cells #[.int .i64 0, .int .i64 0, .int .i64 0, .int .i64 0, .int .i64 0, .int .i64 0, .int .i64 0, .slice none 0 0, .int .i64 0, .slice none 0 0, .slice none 0 0, .int .i64 0, .int .i64 0, .slice none 0 0, .int .i64 0, .int .u64 0, .int .u64 0, .int .i64 0, .slice none 0 0] 36 (0, 0)) := hb1
  have hg1d : IntsIn (G9 w n0) w3.drew (.slice x1 qby.length y1) qby := HG1'.out.chg0 (Chg.refl _ _).drew
  have hcell : ∀ z, Chg none_ w3.drew z → z.cell? ⟨n0, 9, none⟩ = some (.slice ab tby.length cb) ∧ z.cell? ⟨n0, 10, none⟩ = some (.slice ac thi.length cc) ∧ z.cell? ⟨n0, 13, none⟩ = some (.slice ad hby.length cd) := fun z hz => ⟨(cell_of_blk (hz.blk hb0d (fun h => h)) 9).trans rfl, (cell_of_blk (hz.blk hb0d (fun h => h)) 10).trans rfl, (cell_of_blk (hz.blk hb0d (fun h => h)) 13).trans rfl⟩
  have hS1 := hcell _ (Chg.refl _ _)
  have HCE := Lib.hid hcell
  have HB0 := Lib.hid hb0d
  have HB1 := Lib.hid hb1d
  have HG1 := Lib.hid hg1d
  have hlt0 : n0 + 1 < w3.drew.heap.size := blk_lt hb1d
  clear hcell hb0d hb1d hg1d HG1' hb0 hb1
  refine wp_region_stage (fun x : World => x.cell? ⟨n0, 9, none⟩ = some (.slice ab tby.length cb) ∧ x.cell? ⟨n0, 10, none⟩ = some (.slice ac thi.length cc) ∧ x.cell? ⟨n0, 13, none⟩ = some (.slice ad hby.length cd)) [15, 18, 22] (by kernel_rfl) ?_
  refine takeW 0 (some 12) (v := ?_) rfl (by rfl) (by kernel_rfl) (by kernel_rfl) (by kernel_rfl) (fun _ _ _ h => h) (by kernel_rfl) (by kernel_rfl) ?_ (Stage.still (by assumption)) ?_
  rotate_left
  · (intro w; go_simp; try (with_reducible rfl))
  try simp only [Act.put, List.setIfInBounds_toArray, List.set_cons_zero, List.set_cons_succ]
  refine takeW 1 (some 13) (v := ?_) rfl (by rfl) (by kernel_rfl) (by kernel_rfl) (by kernel_rfl) (fun _ _ _ h => h) (by kernel_rfl) (by kernel_rfl) ?_ (Stage.still (by assumption)) ?_
  rotate_left
  · (intro w; go_simp; try (with_reducible rfl))
  try simp only [Act.put, List.setIfInBounds_toArray, List.set_cons_zero, List.set_cons_succ]
  refine takeS 2 (some 14) (v := ?_) rfl (by rfl) (by kernel_rfl) (by kernel_rfl) (by kernel_rfl) (fun _ _ _ h => h) (by kernel_rfl) (by kernel_rfl) (by kernel_rfl) ?_ (by assumption) ?_
  rotate_left
  · (intro w hSw; (try dsimp only at hSw); go_simp; try (with_reducible rfl))
  try simp only [Act.put, List.setIfInBounds_toArray, List.set_cons_zero, List.set_cons_succ]
  refine takeW 4 (some 16) (v := ?_) rfl (by rfl) (by kernel_rfl) (by kernel_rfl) (by kernel_rfl) (fun _ _ _ h => h) (by kernel_rfl) (by kernel_rfl) ?_ (Stage.still (by assumption)) ?_
  rotate_left
  · (intro w; go_simp; try (with_reducible rfl))
  try simp only [Act.put, List.setIfInBounds_toArray, List.set_cons_zero, List.set_cons_succ]
  refine takeW 5 (some 17) (v := ?_) rfl (by rfl) (by kernel_rfl) (by kernel_rfl) (by kernel_rfl) (fun _ _ _ h => h) (by kernel_rfl) (by kernel_rfl) ?_ (Stage.still (by assumption)) ?_
  rotate_left
  · (intro w; go_simp; try (with_reducible rfl))
  try simp only [Act.put, List.setIfInBounds_toArray, List.set_cons_zero, List.set_cons_succ]
  refine takeS 6 (some 18) (v := ?_) rfl (by rfl) (by kernel_rfl) (by kernel_rfl) (by kernel_rfl) (fun _ _ _ h => h) (by kernel_rfl) (by kernel_rfl) (by kernel_rfl) ?_ (by assumption) ?_
  rotate_left
  · (intro w hSw; (try dsimp only at hSw); go_simp; try (with_reducible rfl))
  try simp only [Act.put, List.setIfInBounds_toArray, List.set_cons_zero, List.set_cons_succ]
  refine takeW 8 (some 20) (v := ?_) rfl (by rfl) (by kernel_rfl) (by kernel_rfl) (by kernel_rfl) (fun _ _ _ h => h) (by kernel_rfl) (by kernel_rfl) ?_ (Stage.still (by assumption)) ?_
  rotate_left
  · (intro w; go_simp; try (with_reducible rfl))
  try simp only [Act.put, List.setIfInBounds_toArray, List.set_cons_zero, List.set_cons_succ]
  refine takeW 9 (some 21) (v := ?_) rfl (by rfl) (by kernel_rfl) (by kernel_rfl) (by kernel_rfl) (fun _ _ _ h => h) (by kernel_rfl) (by kernel_rfl) ?_ (Stage.still (by assumption)) ?_
  rotate_left
  · (intro w; go_simp; try (with_reducible rfl))
  try simp only [Act.put, List.setIfInBounds_toArray, List.set_cons_zero, List.set_cons_succ]
  refine takeW 10 (some 22) (v := ?_) rfl (by rfl) (by kernel_rfl) (by kernel_rfl) (by kernel_rfl) (fun _ _ _ h => h) (by kernel_rfl) (by kernel_rfl) ?_ (Stage.still (by assumption)) ?_
  rotate_left
  · (intro w; go_simp; try (with_reducible rfl))
  try simp only [Act.put, List.setIfInBounds_toArray, List.set_cons_zero, List.set_cons_succ]
  refine takeS 11 (some 23) (v := ?_) rfl (by rfl) (by kernel_rfl) (by kernel_rfl) (by kernel_rfl) (fun _ _ _ h => h) (by kernel_rfl) (by kernel_rfl) (by kernel_rfl) ?_ (by assumption) ?_
  rotate_left
  · (intro w hSw; (try dsimp only at hSw); go_simp; try (with_reducible rfl))
  try simp only [Act.put, List.setIfInBounds_toArray, List.set_cons_zero, List.set_cons_succ]
  refine oneT 3 (by kernel_rfl) rfl (fun K hK => ?_)
  go_simp
  go_at_call 84
  refine (clone_ints S _ tby _ ((HB.out.chg0 (Chg.of_below hB3d)).chg0 (Chg.refl none_ w3.drew))).mono ?_
  rintro e w4 ⟨v2, rfl, ho2, hq2, hB4⟩
  obtain ⟨x2, y2, rfl, -⟩ := id ho2.open
  have hS2 := HCE.out w4 ((Chg.refl none_ w3.drew).trans (Chg.of_below hB4))
  go_wp2_with fail
  refine hK.out _ _ (Stage.still ?_) (fun hSt => ?_)
  · (try dsimp only); first | exact hS4 | exact hS3 | exact hS2
  clear hK K hSt
  try simp only [Act.put, List.setIfInBounds_toArray, List.set_cons_zero, List.set_cons_succ]
  refine takeW 13 (some 25) (v := ?_) rfl (by rfl) (by kernel_rfl) (by kernel_rfl) (by kernel_rfl) (fun _ _ _ h => h) (by kernel_rfl) (by kernel_rfl) ?_ (Stage.still (by assumption)) ?_
  rotate_left
  · (intro w; go_simp; try (with_reducible rfl))
  try simp only [Act.put, List.setIfInBounds_toArray, List.set_cons_zero, List.set_cons_succ]
  refine takeW 14 (some 26) (v := ?_) rfl (by rfl) (by kernel_rfl) (by kernel_rfl) (by kernel_rfl) (fun _ _ _ h => h) (by kernel_rfl) (by kernel_rfl) ?_ (Stage.still (by assumption)) ?_
  rotate_left
  · (intro w; go_simp; try (with_reducible rfl))
  try simp only [Act.put, List.setIfInBounds_toArray, List.set_cons_zero, List.set_cons_succ]
  refine oneT 7 (by kernel_rfl) rfl (fun K hK => ?_)
  go_simp
  go_at_call 84
  refine (clone_ints S _ thi _ ((HC.out.chg0 (Chg.of_below hB3d)).chg0 (Chg.of_below (S := none_) hB4))).mono ?_
  rintro e w5 ⟨v3, rfl, ho3, hq3, hB5⟩
  obtain ⟨x3, y3, rfl, -⟩ := id ho3.open
  have hS3 := HCE.out w5 ((Chg.of_below (S := none_) hB4).trans (Chg.of_below hB5))
  go_wp2_with fail
  refine hK.out _ _ (Stage.still ?_) (fun hSt => ?_)
  · (try dsimp only); first | exact hS4 | exact hS3 | exact hS2
  clear hK K hSt
  try simp only [Act.put, List.setIfInBounds_toArray, List.set_cons_zero, List.set_cons_succ]
  refine oneT 12 (by kernel_rfl) rfl (fun K hK => ?_)
  go_simp
  go_at_call 84
  refine (clone_ints S _ hby _ ((HD.out.chg0 (Chg.of_below hB3d)).chg0 ((Chg.of_below (S := none_) hB4).trans (Chg.of_below hB5)))).mono ?_
  rintro e w6 ⟨v4, rfl, ho4, hq4, hB6⟩
  obtain ⟨x4, y4, rfl, -⟩ := id ho4.open
  have hS4 := HCE.out w6 (((Chg.of_below (S := none_) hB4).trans (Chg.of_below hB5)).trans (Chg.of_below hB6))
  have hb6 := (((Chg.of_below (S := none_) hB4).trans (Chg.of_below hB5)).trans (Chg.of_below hB6)).blk HB0.out (fun h => h)
  have f9 := frozen_of_blk hb6 9
  have f10 := frozen_of_blk hb6 10
  have f13 := frozen_of_blk hb6 13
  go_wp2_with fail
  refine hK.out _ _ (Stage.still ?_) (fun hSt => ?_)
  · (try dsimp only); first | exact hS4 | exact hS3 | exact hS2
  clear hK K hSt
  try simp only [Act.put, List.setIfInBounds_toArray, List.set_cons_zero, List.set_cons_succ]
  refine oneT 15 (by kernel_rfl) rfl (fun K hK => ?_)
  go_simp
  refine hK.out _ _ (Stage.past (by kernel_rfl)) (fun hSt => ?_)
  clear hSt
  clear hK K
  try simp only [Act.put, List.setIfInBounds_toArray, List.set_cons_zero, List.set_cons_succ]
  refine takeW 16 (some 27) (v := ?_) rfl (by rfl) (by kernel_rfl) (by kernel_rfl) (by kernel_rfl) (fun _ _ _ h => h) (by kernel_rfl) (by kernel_rfl) ?_ (Stage.past (by kernel_rfl)) ?_
  rotate_left
  · (intro w; go_simp; try (with_reducible rfl))
  try simp only [Act.put, List.setIfInBounds_toArray, List.set_cons_zero, List.set_cons_succ]
  refine takeW 17 (some 28) (v := ?_) rfl (by rfl) (by kernel_rfl) (by kernel_rfl) (by kernel_rfl) (fun _ _ _ h => h) (by kernel_rfl) (by kernel_rfl) ?_ (Stage.past (by kernel_rfl)) ?_
  rotate_left
  · (intro w; go_simp; try (with_reducible rfl))
  try simp only [Act.put, List.setIfInBounds_toArray, List.set_cons_zero, List.set_cons_succ]
  refine oneT 18 (by kernel_rfl) rfl (fun K hK => ?_)
  go_simp
  refine hK.out _ _ (Stage.past (by kernel_rfl)) (fun hSt => ?_)
  clear hSt
  clear hK K
  try simp only [Act.put, List.setIfInBounds_toArray, List.set_cons_zero, List.set_cons_succ]
  refine takeW 19 (some 29) (v := ?_) rfl (by rfl) (by kernel_rfl) (by kernel_rfl) (by kernel_rfl) (fun _ _ _ h => h) (by kernel_rfl) (by kernel_rfl) ?_ (Stage.past (by kernel_rfl)) ?_
  rotate_left
  · (intro w; go_simp; try (with_reducible rfl))
  try simp only [Act.put, List.setIfInBounds_toArray, List.set_cons_zero, List.set_cons_succ]
  refine takeW 20 (some 30) (v := ?_) rfl (by rfl) (by kernel_rfl) (by kernel_rfl) (by kernel_rfl) (fun _ _ _ h => h) (by kernel_rfl) (by kernel_rfl) ?_ (Stage.past (by kernel_rfl)) ?_
  rotate_left
  · (intro w; go_simp; try (with_reducible rfl))
  try simp only [Act.put, List.setIfInBounds_toArray, List.set_cons_zero, List.set_cons_succ]
  refine takeW 21 (some 31) (v := ?_) rfl (by rfl) (by kernel_rfl) (by kernel_rfl) (by kernel_rfl) (fun _ _ _ h => h) (by kernel_rfl) (by kernel_rfl) ?_ (Stage.past (by kernel_rfl)) ?_
  rotate_left
  · (intro w; go_simp; try (with_reducible rfl))
  try simp only [Act.put, List.setIfInBounds_toArray, List.set_cons_zero, List.set_cons_succ]
  refine oneT 22 (by kernel_rfl) rfl (fun K hK => ?_)
  go_simp
  refine hK.out _ _ (Stage.past (by kernel_rfl)) (fun hSt => ?_)
  clear hSt
  clear hK K
  try simp only [Act.put, List.setIfInBounds_toArray, List.set_cons_zero, List.set_cons_succ]
  refine doneT (by kernel_rfl) ?_ _
  clear hb6 f9 f10 f13 hS2 hS3 hS4
  have hch : Chg none_ w3.drew w6 := (Chg.of_below hB4).trans ((Chg.of_below hB5).trans (Chg.of_below hB6))
  have hz0 := setCell_same (i := 13) (.slice x4 hby.length y4) (setCell_same (i := 10) (.slice x3 thi.length y3) (setCell_same (i := 9) (.slice x2 tby.length y2) (hch.blk HB0.out (fun h => h))))
  have hz1 := hch.blk HB1.out (fun h => h)
  have hy7 : Chg (· = n0) w6 (((w6.setCell ⟨n0, 9, none⟩ (.slice x2 tby.length y2)).setCell ⟨n0, 10, none⟩ (.slice x3 thi.length y3)).setCell ⟨n0, 13, none⟩ (.slice x4 hby.length y4)) := (((Chg.refl (· = n0) w6).put 9 _).put 10 _).put 13 _
  generalize ((w6.setCell ⟨n0, 9, none⟩ (.slice x2 tby.length y2)).setCell ⟨n0, 10, none⟩ (.slice x3 thi.length y3)).setCell ⟨n0, 13, none⟩ (.slice x4 hby.length y4) = w7 at *
  have hb0 : w7.heap[n0]? = some (.cells #[.int .i64 ikind, .int .i64 ifrm, .int .i64 ito_, .int .i64 iview, .int .i64 inum, .int .i64 iqv, .int .i64 iqb, .slice x1 qby.length y1, .int .i64 itv, .slice x2 tby.length y2, .slice x3 thi.length y3, .int .i64 ihv, .int .i64 ihb, .slice x4 hby.length y4, .int .i64 iec, .int .u64 ien, .int .u64 ief, .int .i64 ieci, .slice ae E.length ce] 36 (0, 0)) := hz0
  have hb1 := hy7.blk hz1 (by omega)
  have hn := HN0.out
  have hs4 := hB4.size
  have hs5 := hB5.size
  have hB7 : Below w.heap.size w w7 := hB3d.trans ((hch.below (B := w.heap.size) (by omega) (fun _ h => h.elim)).trans (hy7.below (by have := hch.size; omega) (fun k e => by omega)))
  have hg1 : IntsIn (G9 w n0) w7 (.slice x1 qby.length y1) qby := (HG1.out.chg0 hch).chg hy7 (fun k h e => h.2.1 e)
  have hg2 : IntsIn (G9 w n0) w7 (.slice x2 tby.length y2) tby := ((ho2.sliceIn (by obtain ⟨_, _, _, _, _, _, h⟩ := HB.out; exact h) (fun k hk => by have := hq2 k hk; exact ⟨by omega, by omega, by omega⟩) : IntsIn (G9 w n0) w4 _ tby).chg0 ((Chg.of_below hB5).trans (Chg.of_below hB6))).chg hy7 (fun k h e => h.2.1 e)
  have hg3 : IntsIn (G9 w n0) w7 (.slice x3 thi.length y3) thi := ((ho3.sliceIn (by obtain ⟨_, _, _, _, _, _, h⟩ := HC.out; exact h) (fun k hk => by have := hq3 k hk; exact ⟨by omega, by omega, by omega⟩) : IntsIn (G9 w n0) w5 _ thi).chg0 (Chg.of_below hB6)).chg hy7 (fun k h e => h.2.1 e)
  have hg4 : IntsIn (G9 w n0) w7 (.slice x4 hby.length y4) hby := (ho4.sliceIn (by obtain ⟨_, _, _, _, _, _, h⟩ := HD.out; exact h) (fun k hk => by have := hq4 k hk; exact ⟨by omega, by omega, by omega⟩) : IntsIn (G9 w n0) w6 _ hby).chg hy7 (fun k h e => h.2.1 e)
  have e18 : w7.cell? ⟨n0, 18, none⟩ = some (.slice ae E.length ce) := (cell_of_blk hb0 18).trans rfl
  have HG1 := Lib.hid hg1
  have HG2 := Lib.hid hg2
  have HG3 := Lib.hid hg3
  have HG4 := Lib.hid hg4
  have HB0 := Lib.hid hb0
  have HB1 := Lib.hid hb1
  clear hg1 hg2 hg3 hg4 hb0 hb1 hz0 hz1 hy7 hch ho2 ho3 ho4 hq2 hq3 hq4 hB4 hB5 hB6 hs4 hs5 hS1 HCE hn hlt0 hsz1
  have hI : StillI w n0 #[.int .i64 ikind, .int .i64 ifrm, .int .i64 ito_, .int .i64 iview, .int .i64 inum, .int .i64 iqv, .int .i64 iqb, .slice x1 qby.length y1, .int .i64 itv, .slice x2 tby.length y2, .slice x3 thi.length y3, .int .i64 ihv, .int .i64 ihb, .slice x4 hby.length y4, .int .i64 iec, .int .u64 ien, .int .u64 ief, .int .i64 ieci, .slice ae E.length ce] #[.int .i64 0, .int .i64 0, .int .i64 0, .int .i64 0, .int .i64 0, .int .i64 0, .int .i64 0, .slice none 0 0, .int .i64 0, .slice none 0 0, .slice none 0 0, .int .i64 0, .int .i64 0, .slice none 0 0, .int .i64 0, .int .u64 0, .int .u64 0, .int .i64 0, .slice none 0 0] E (.slice x1 qby.length y1) (.slice x2 tby.length y2) (.slice x3 thi.length y3) (.slice x4 hby.length y4) qby tby thi hby 0 [] (.slice none 0 0) w7 :=
    ⟨hB7, HB0.out, HB1.out, Own.nil _ _ _, rfl, by simp, (by intro k hk; cases hk), (by intro e he; cases he), HG1.out.mono (fun k hk _ => ⟨hk, fun e => by cases e⟩), HG2.out.mono (fun k hk _ => ⟨hk, fun e => by cases e⟩), HG3.out.mono (fun k hk _ => ⟨hk, fun e => by cases e⟩), HG4.out.mono (fun k hk _ => ⟨hk, fun e => by cases e⟩)⟩
  have HI := Lib.hid hI
  have hEl : E.length ≤ 2000000 := HE4.out
  clear HG1 HG2 HG3 HG4 HB0 HB1 hI HW1
  go_wp2_with fail
  go_loopw [35, 3] (fun i v wr => ∃ (j : Nat) (E' : List (BlkX × Value × Value)), j ≤ E.length ∧ i = .int .i64 j ∧ StillI w n0 #[.int .i64 ikind, .int .i64 ifrm, .int .i64 ito_, .int .i64 iview, .int .i64 inum, .int .i64 iqv, .int .i64 iqb, .slice x1 qby.length y1, .int .i64 itv, .slice x2 tby.length y2, .slice x3 thi.length y3, .int .i64 ihv, .int .i64 ihb, .slice x4 hby.length y4, .int .i64 iec, .int .u64 ien, .int .u64 ief, .int .i64 ieci, .slice ae E.length ce] #[.int .i64 0, .int .i64 0, .int .i64 0, .int .i64 0, .int .i64 0, .int .i64 0, .int .i64 0, .slice none 0 0, .int .i64 0, .slice none 0 0, .slice none 0 0, .int .i64 0, .int .i64 0, .slice none 0 0, .int .i64 0, .int .u64 0, .int .u64 0, .int .i64 0, .slice none 0 0] E (.slice x1 qby.length y1) (.slice x2 tby.length y2) (.slice x3 thi.length y3) (.slice x4 hby.length y4) qby tby thi hby j E' v wr) (fun i _ _ => E.length - (intOf i).toNat)
  case atStart => exact ⟨0, [], by omega, rfl, HI.out⟩
  case round =>
    clear HI
    obtain ⟨j, E', hj, rfl, hI⟩ := hrel
    obtain ⟨av, cv, rfl, -⟩ := id hI.own.open
    have HI := Lib.hid hI
    clear hI e18
    by_cases hlt : j < E.length
    · have hjl : (j : Int) < (E.length : Int) := by omega
      have hwj : IntKind.i64.wrap ((j : Int) + 1) = (j : Int) + 1 := by rw [IntKind.wrap_i64]; omega
      have hse := HE.out.chg0 (Chg.of_below HI.out.below)
      have hce := HEe.out E[j] (List.getElem_mem hlt)
      have HCE := Lib.hid (⟨hce.1.chg0 (Chg.of_below HI.out.below), hce.2.chg0 (Chg.of_below HI.out.below)⟩ : IntsIn S wr E[j].2.1 E[j].1.by_ ∧ EnvsIn S wr E[j].2.2 E[j].1.envs)
      obtain ⟨_, _, e', hsrc, _⟩ := hse
      cases e'
      rcases hsrc with hsrc | ⟨bE, offE, rfl, hsrc⟩
      · have := flatB_length E; rw [hsrc] at this; simp at this; omega
      obtain ⟨⟨⟨bv, ba, jv, jb, by_, envs⟩, u1, u2⟩, hej⟩ : ∃ e, e = E[j] := ⟨_, rfl⟩
      have hat : ∀ m, m < 6 → ∀ u, (blkCells ⟨bv, ba, jv, jb, by_, envs⟩ u1 u2)[m]? = some u → wr.cell? ⟨bE, offE + (j * 6 + m), none⟩ = some u := fun m hm u hu => (hsrc _ _ (by rw [flatB_at E j hlt m hm, ← hej]; exact hu)).1
      rw [← hej] at HCE
      have HEJ := Lib.hid hej
      dsimp only at HCE
      obtain ⟨au, cu, rfl, -⟩ := id HCE.out.1
      obtain ⟨aw, cw, rfl, -⟩ := id HCE.out.2
      have k0 : wr.cell? ⟨bE, offE + j * 6, none⟩ = some (.int .i64 bv) := hat 0 (by omega) _ rfl
      have k1 : wr.cell? ⟨bE, offE + j * 6 + 1, none⟩ = some (.int .i64 ba) := by rw [Nat.add_assoc]; exact hat 1 (by omega) _ rfl
      have k2 : wr.cell? ⟨bE, offE + j * 6 + 2, none⟩ = some (.int .i64 jv) := by rw [Nat.add_assoc]; exact hat 2 (by omega) _ rfl
      have k3 : wr.cell? ⟨bE, offE + j * 6 + 3, none⟩ = some (.int .i64 jb) := by rw [Nat.add_assoc]; exact hat 3 (by omega) _ rfl
      have k4 : wr.cell? ⟨bE, offE + j * 6 + 4, none⟩ = some (.slice au by_.length cu) := by rw [Nat.add_assoc]; exact hat 4 (by omega) _ rfl
      have k5 : wr.cell? ⟨bE, offE + j * 6 + 5, none⟩ = some (.slice aw envs.length cw) := by rw [Nat.add_assoc]; exact hat 5 (by omega) _ rfl
      clear hat hsrc hej hce
      go_wp2_with fail
      have hcx := (Chg.refl none_ wr).alloc (.cells #[.int .i64 bv, .int .i64 ba, .int .i64 jv, .int .i64 jb, .slice au by_.length cu, .slice aw envs.length cw] 65 (0, 0))
      refine (blok_still S _ ⟨bv, ba, jv, jb, by_, envs⟩ _ ⟨_, _, rfl, HCE.out.1.chg0 hcx, HCE.out.2.chg0 hcx⟩).mono ?_
      rintro e x5 ⟨cs5, he5, ⟨t1, t2, rfl, ht1, ht2⟩, hB5⟩
      obtain ⟨a5, c5, rfl, -⟩ := id ht1
      obtain ⟨a6, c6, rfl, -⟩ := id ht2
      obtain rfl : e = .returned (.agg #[.int .i64 bv, .int .i64 ba, .int .i64 jv, .int .i64 jb, .slice a5 by_.length c5, .slice a6 envs.length c6]) := he5
      have hcy : Chg none_ wr x5 := hcx.trans (Chg.of_below hB5)
      obtain ⟨ii, hi, hz, hs, hby9⟩ := info_parts' (P := Try.prog) (e := 65) (z := some (.agg #[.int .i64 0, .int .i64 0, .int .i64 0, .int .i64 0, .slice none 0 0, .slice none 0 0])) (s := 6) (b := 80) (by kernel_rfl)
      obtain ⟨v9, x9, hap, ho9, hc9, hb9⟩ := own_append Try.underlying34 hi hz hs hby9 rfl (by decide) (HI.out.own.chg hcy (fun _ _ h => h)) [.int .i64 bv, .int .i64 ba, .int .i64 jv, .int .i64 jb, .slice a5 by_.length c5, .slice a6 envs.length c6] rfl (by intro u hu; simp at hu; rcases hu with rfl | rfl | rfl | rfl | rfl | rfl <;> rfl) (by omega) (by unfold maxLen; omega) 34
      have hst := StillI.step HI.out HN0.out hcy hlt (u1 := .slice a5 by_.length c5) (u2 := .slice a6 envs.length c6) (by rw [← HEJ.out]; exact ht1.mono (fun k hk _ => by simp at hk; omega)) (by rw [← HEJ.out]; exact ht2.mono (fun k hk _ => by simp at hk; omega)) (by rw [← HEJ.out]; exact ho9) hc9 hb9
      have HST := Lib.hid hst
      clear hst ho9 hc9 hb9 hcy hcx ht1 ht2 hB5 hi hz hs hby9 HI k0 k1 k2 k3 k4 k5
      go_wp2_with (at_builtin; refine wpl_append rfl _ _ _ rfl rfl rfl hap ?_)
      go_roundw
      case rel => exact ⟨j + 1, _, by omega, by go_num, HST.out⟩
      case measure => simp [intOf]; omega
    · have hje : j = E.length := by omega
      subst hje
      have hb0 := HI.out.b0
      have hb1 := HI.out.b1
      have e18 : wr.cell? ⟨n0, 18, none⟩ = some (.slice ae E.length ce) := (cell_of_blk hb0 18).trans rfl
      have f18 := frozen_of_blk hb0 18
      have hb0' : (wr.setCell ⟨n0, 18, none⟩ (.slice av E.length cv)).heap[n0]? = some (.cells #[.int .i64 ikind, .int .i64 ifrm, .int .i64 ito_, .int .i64 iview, .int .i64 inum, .int .i64 iqv, .int .i64 iqb, .slice x1 qby.length y1, .int .i64 itv, .slice x2 tby.length y2, .slice x3 thi.length y3, .int .i64 ihv, .int .i64 ihb, .slice x4 hby.length y4, .int .i64 iec, .int .u64 ien, .int .u64 ief, .int .i64 ieci, .slice av E.length cv] 36 (0, 0)) := setCell_same (i := 18) _ hb0
      have hy : Chg (· = n0) wr (wr.setCell ⟨n0, 18, none⟩ (.slice av E.length cv)) := (Chg.refl (· = n0) wr).put 18 _
      have hb1' := hy.blk hb1 (by omega)
      clear hb0 hb1
      go_upto_region 10 with fail
      refine wp_region_lit ?_
      refine wpList_load_row rfl 36 _ rfl n0 rfl _ #[.int .i64 ikind, .int .i64 ifrm, .int .i64 ito_, .int .i64 iview, .int .i64 inum, .int .i64 iqv, .int .i64 iqb, .slice x1 qby.length y1, .int .i64 itv, .slice x2 tby.length y2, .slice x3 thi.length y3, .int .i64 ihv, .int .i64 ihb, .slice x4 hby.length y4, .int .i64 iec, .int .u64 ien, .int .u64 ief, .int .i64 ieci, .slice av E.length cv] _ _ hb0' Try.underlying36 rfl (by kernel_rfl) ?_
      refine wpList_store_row rfl 36 _ _ rfl (n0 + 1) #[.int .i64 ikind, .int .i64 ifrm, .int .i64 ito_, .int .i64 iview, .int .i64 inum, .int .i64 iqv, .int .i64 iqb, .slice x1 qby.length y1, .int .i64 itv, .slice x2 tby.length y2, .slice x3 thi.length y3, .int .i64 ihv, .int .i64 ihb, .slice x4 hby.length y4, .int .i64 iec, .int .u64 ien, .int .u64 ief, .int .i64 ieci, .slice av E.length cv] rfl rfl _ _ hb1' (by kernel_rfl) rfl (by simp [Value.oneCell']) ?_
      have hz1 := setRow_heap _ (n0 + 1) _ #[.int .i64 ikind, .int .i64 ifrm, .int .i64 ito_, .int .i64 iview, .int .i64 inum, .int .i64 iqv, .int .i64 iqb, .slice x1 qby.length y1, .int .i64 itv, .slice x2 tby.length y2, .slice x3 thi.length y3, .int .i64 ihv, .int .i64 ihb, .slice x4 hby.length y4, .int .i64 iec, .int .u64 ien, .int .u64 ief, .int .i64 ieci, .slice av E.length cv] _ _ hb1'
      have hyz := (Chg.refl (· = n0 + 1) (wr.setCell ⟨n0, 18, none⟩ (.slice av E.length cv))).row #[.int .i64 ikind, .int .i64 ifrm, .int .i64 ito_, .int .i64 iview, .int .i64 inum, .int .i64 iqv, .int .i64 iqb, .slice x1 qby.length y1, .int .i64 itv, .slice x2 tby.length y2, .slice x3 thi.length y3, .int .i64 ihv, .int .i64 ihb, .slice x4 hby.length y4, .int .i64 iec, .int .u64 ien, .int .u64 ief, .int .i64 ieci, .slice av E.length cv]
      generalize (wr.setCell ⟨n0, 18, none⟩ (.slice av E.length cv)).setRow (n0 + 1) #[.int .i64 ikind, .int .i64 ifrm, .int .i64 ito_, .int .i64 iview, .int .i64 inum, .int .i64 iqv, .int .i64 iqb, .slice x1 qby.length y1, .int .i64 itv, .slice x2 tby.length y2, .slice x3 thi.length y3, .int .i64 ihv, .int .i64 ihb, .slice x4 hby.length y4, .int .i64 iec, .int .u64 ien, .int .u64 ief, .int .i64 ieci, .slice av E.length cv] = wz at *
      generalize wr.setCell ⟨n0, 18, none⟩ (.slice av E.length cv) = wy at *
      clear hb0' hb1' e18 f18
      go_wp2_with fail
      (try simp only [Exit.inBlock, Exit.then])
      refine bodyPost_ret (results_cell_row rfl _ _ (n0 + 1) _ _ _ _ rfl hz1 Try.underlying36 rfl (by kernel_rfl)) rfl ?_
      have hn := HN0.out
      have hI := HI.out
      have hsw := hI.below.size
      have hsy := hy.size
      have mv : ∀ {c : Value} {n : Nat} {l : List Value}, SliceIn (G8 w n0 (.slice av E.length cv)) wr c n l → SliceIn (fun k => w.heap.size ≤ k) wz c n l := fun h => (((SliceIn.chg h hy (fun k hk e => hk.1.2.1 e)).chg hyz (fun k hk e => hk.1.2.2 e))).mono (fun k hk _ => hk.1.1)
      refine ⟨_, rfl, ⟨_, _, _, _, _, rfl, mv hI.r1, mv hI.r2, mv hI.r3, mv hI.r4, E', ?_, ?_, fun e he => ⟨mv (hI.each e he).1, mv (hI.each e he).2⟩⟩, hI.below.trans ((hy.below (by omega) (fun k e => by omega)).trans (hyz.below (by omega) (fun k e => by omega)))⟩
      · rw [hI.same, List.take_of_length_le (by simp)]
      · rw [hI.len]
        exact ((hI.own.chg hy (fun k hk e => (hI.new k hk).2.1 e)).chg hyz (fun k hk e => (hI.new k hk).2.2 e)).sliceIn HE4.out (fun k hk => (hI.new k hk).1)
end Go.Proofs.Ytcfhkpjheemkgaa
