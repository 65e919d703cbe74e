/-
  A slice literal of one element, told at once.
-/
import Derived.Test.YtjllejlgclfahaaNet
namespace Go.Proofs.Ytjllejlgclfahaa
open Go.RowKit Go.MapKept

theorem fill_all (cs : List Value) : ∀ (o : Nat) (init : Array Value), (cs.zipIdx o).foldl (fun acc p => acc.setIfInBounds p.2 p.1) init = setAll init o cs := by
  induction cs with
  | nil => intro o init; rfl
  | cons v r ih => intro o init; simp only [List.zipIdx_cons, List.foldl_cons, setAll]; exact ih _ _
theorem setAll_whole (cs : List Value) (init : Array Value) (h : init.size = cs.length) : setAll init 0 cs = cs.toArray := by
  apply Array.ext_getElem?
  intro j
  by_cases hj : j < cs.length
  · have := setAll_in cs init 0 j hj (by omega)
    rw [Nat.zero_add] at this
    rw [this]; simp
  · rw [Array.getElem?_eq_none (by rw [setAll_size]; omega), Array.getElem?_eq_none (by simp; omega)]
theorem run_buildSlice_one {P : Program} (w : World) (T E s : Nat) (i : TypeInfo) (z : Value) (hT : P.underlying T = some (.slice E)) (hi : P.info? E = some i) (hs : i.size = s) (hz : i.zero = some z) (h0 : 0 < s) (h1 : s ≤ 1000) (cs : List Value) (hc : cs.length = s) :
    (Instr.buildSlice T 1 #[(0, .agg cs.toArray)]).run P w = .ok (.slice (some ⟨w.heap.size, 0, none⟩) 1 1) (w.alloc (.cells cs.toArray E)) := by
  have hsz : ∀ x, (sizeOf E).run P x = .ok s x := fun x => by simp [sizeOf, typeInfo, hi, hs]
  have hzv : ∀ x, (zeroValue E).run P x = .ok z x := fun x => by simp [zeroValue, typeInfo, hi, hz]
  have hfill : ∀ init : Array Value, init.size = s → Instr.fill (fun i => some (i * s, s)) init [(0, .agg cs.toArray)] = some cs.toArray := fun init hini => by
    have hcs : (Value.agg cs.toArray).cells = cs.toArray := rfl
    simp only [Instr.fill, hcs]
    rw [if_neg (by simp; omega)]
    simp only [Nat.zero_mul, Nat.zero_add]
    have := (fill_all cs 0 init).trans (setAll_whole cs init (by omega))
    refine congrArg some ?_
    simpa using this
  unfold Instr.buildSlice
  simp only [Sem.run_bind, run_underlying hT, Result.andThen, hsz]
  rw [if_neg (by omega), if_neg (by omega)]
  simp only [Sem.run_bind, hzv, Result.andThen, Sem.run_pure]
  rw [hfill _ (by simp)]
  simp [newRow]
theorem wp_buildSlice_one {P : Program} {o : Oper} {a : Act} {w : World} {K : Act → World → Prop} {Q : Exit → Act → World → Prop} (T E s : Nat) (x : Operand) (ho : o.op = .buildSlice T 1 #[(0, x)]) (cs : List Value) (hx : a.eval x = .agg cs.toArray)
    (i : TypeInfo) (z : Value) (hT : P.underlying T = some (.slice E)) (hi : P.info? E = some i) (hs : i.size = s) (hz : i.zero = some z) (h0 : 0 < s) (h1 : s ≤ 1000) (hc : cs.length = s)
    (h : K (a.put o.dst (.slice (some ⟨w.heap.size, 0, none⟩) 1 1)) (w.alloc (.cells cs.toArray E))) : o.wp P a w K Q := by
  have hrun := run_buildSlice_one (P := P) w T E s i z hT hi hs hz h0 h1 cs hc
  unfold Oper.wp execOp
  simp only [ho, List.map_toArray, List.map_cons, List.map_nil, hx, Sem.run_bind, hrun, Result.andThen]
  exact h
theorem if_wanted {P : Program} {ops : Array Oper} {o : Oper} {a : Act} {w : World} {K : Act → World → Prop} {Q : Exit → Act → World → Prop} {D : Prop} (hgd : o.guard = none) (h : o.wp P a w K Q) : if Region.wanted o (yielded ops a.tmps) = true then Oper.wp P o a w K Q else D := by
  have hw : Region.wanted o (yielded ops a.tmps) = true := by simp [Region.wanted, hgd]
  rw [if_pos hw]; exact h
theorem setAll_two (c1 c2 : List Value) (init : Array Value) (h : init.size = c1.length + c2.length) : setAll (setAll init 0 c1) c1.length c2 = (c1 ++ c2).toArray := by
  apply Array.ext_getElem?
  intro j
  have e0 : (c1 ++ c2).toArray[j]? = (c1 ++ c2)[j]? := by simp
  rw [e0]
  by_cases hj : j < c1.length
  · rw [setAll_out _ _ _ _ (.inl hj), List.getElem?_append_left hj]
    have := setAll_in c1 init 0 j hj (by omega)
    rwa [Nat.zero_add] at this
  · rw [List.getElem?_append_right (by omega)]
    by_cases hk : j < c1.length + c2.length
    · obtain ⟨r, rfl⟩ : ∃ r, j = c1.length + r := ⟨j - c1.length, by omega⟩
      rw [setAll_in c2 _ c1.length r (by omega) (by rw [setAll_size]; omega), Nat.add_sub_cancel_left]
    · rw [Array.getElem?_eq_none (by rw [setAll_size, setAll_size]; omega), List.getElem?_eq_none (by omega)]
theorem run_buildSlice_two {P : Program} (w : World) (T E s : Nat) (i : TypeInfo) (z : Value) (hT : P.underlying T = some (.slice E)) (hi : P.info? E = some i) (hs : i.size = s) (hz : i.zero = some z) (h0 : 0 < s) (h1 : s ≤ 1000) (c1 c2 : List Value) (hc1 : c1.length = s) (hc2 : c2.length = s) :
    (Instr.buildSlice T 2 #[(0, .agg c1.toArray), (1, .agg c2.toArray)]).run P w = .ok (.slice (some ⟨w.heap.size, 0, none⟩) 2 2) (w.alloc (.cells (c1 ++ c2).toArray E)) := by
  have hsz : ∀ x, (sizeOf E).run P x = .ok s x := fun x => by simp [sizeOf, typeInfo, hi, hs]
  have hzv : ∀ x, (zeroValue E).run P x = .ok z x := fun x => by simp [zeroValue, typeInfo, hi, hz]
  have hfill : ∀ init : Array Value, init.size = 2 * s → Instr.fill (fun i => some (i * s, s)) init [(0, .agg c1.toArray), (1, .agg c2.toArray)] = some (c1 ++ c2).toArray := fun init hini => by
    have hcs1 : (Value.agg c1.toArray).cells = c1.toArray := rfl
    have hcs2 : (Value.agg c2.toArray).cells = c2.toArray := rfl
    have e1 : (Array.foldl (fun cs x => cs.setIfInBounds x.2 x.1) init c1.toArray.zipIdx) = setAll init 0 c1 := by
      have := fill_all c1 0 init
      simpa using this
    have e2 : ∀ a : Array Value, (Array.foldl (fun cs x => cs.setIfInBounds (s + x.2) x.1) a c2.toArray.zipIdx) = setAll a s c2 := fun a => by
      have h : ∀ (l : List Value) (o : Nat) (a : Array Value), (l.zipIdx o).foldl (fun acc p => acc.setIfInBounds (s + p.2) p.1) a = setAll a (s + o) l := by
        intro l
        induction l with
        | nil => intro o a; rfl
        | cons v r ih => intro o a; simp only [List.zipIdx_cons, List.foldl_cons, setAll]; rw [ih]; rfl
      have := h c2 0 a
      simpa using this
    simp only [Instr.fill, hcs1, hcs2]
    rw [if_neg (by simp; omega)]
    simp only [Nat.zero_mul, Nat.zero_add, Nat.one_mul]
    rw [e1, if_neg (by simp [setAll_size]; omega), e2]
    refine congrArg some ?_
    have := setAll_two c1 c2 init (by omega)
    rw [hc1] at this
    exact this
  unfold Instr.buildSlice
  simp only [Sem.run_bind, run_underlying hT, Result.andThen, hsz]
  rw [if_neg (by omega), if_neg (by omega)]
  simp only [Sem.run_bind, hzv, Result.andThen, Sem.run_pure]
  rw [hfill _ (by simp)]
  simp [newRow]
theorem wp_buildSlice_two {P : Program} {o : Oper} {a : Act} {w : World} {K : Act → World → Prop} {Q : Exit → Act → World → Prop} (T E s : Nat) (x y : Operand) (ho : o.op = .buildSlice T 2 #[(0, x), (1, y)]) (c1 c2 : List Value) (hx : a.eval x = .agg c1.toArray) (hy : a.eval y = .agg c2.toArray)
    (i : TypeInfo) (z : Value) (hT : P.underlying T = some (.slice E)) (hi : P.info? E = some i) (hs : i.size = s) (hz : i.zero = some z) (h0 : 0 < s) (h1 : s ≤ 1000) (hc1 : c1.length = s) (hc2 : c2.length = s)
    (h : K (a.put o.dst (.slice (some ⟨w.heap.size, 0, none⟩) 2 2)) (w.alloc (.cells (c1 ++ c2).toArray E))) : o.wp P a w K Q := by
  have hrun := run_buildSlice_two (P := P) w T E s i z hT hi hs hz h0 h1 c1 c2 hc1 hc2
  unfold Oper.wp execOp
  simp only [ho, List.map_toArray, List.map_cons, List.map_nil, hx, hy, Sem.run_bind, hrun, Result.andThen]
  exact h

/-- A message of a kind and a number alone. -/
def plainM (kind num : Int) : MsgX := ⟨⟨kind, 0, 0, 0, num, 0, 0, 0, 0, 0, 0, 0, 0, 0⟩, [], [], [], [], []⟩
def plainC (kind num : Int) : List Value := msgCells ⟨kind, 0, 0, 0, num, 0, 0, 0, 0, 0, 0, 0, 0, 0⟩ (.slice none 0 0) (.slice none 0 0) (.slice none 0 0) (.slice none 0 0) (.slice none 0 0)
theorem plainV (S : Nat → Prop) (w : World) (kind num : Int) : MsgV S w (plainC kind num) (plainM kind num) :=
  ⟨_, _, _, _, _, rfl, SliceIn.nil S w, SliceIn.nil S w, SliceIn.nil S w, SliceIn.nil S w, [], rfl, SliceIn.nil S w, fun e he => by cases he⟩
theorem MsgV.kind {S : Nat → Prop} {w : World} {cs : List Value} {x : MsgX} (h : MsgV S w cs x) : cs.toArray[0]? = some (.int .i64 x.i.kind) := by
  obtain ⟨a, b, c, d, e, rfl, _⟩ := h; rfl
theorem MsgV.num {S : Nat → Prop} {w : World} {cs : List Value} {x : MsgX} (h : MsgV S w cs x) : cs.toArray[4]? = some (.int .i64 x.i.num) := by
  obtain ⟨a, b, c, d, e, rfl, _⟩ := h; rfl
theorem MsgV.qby {S : Nat → Prop} {w : World} {cs : List Value} {x : MsgX} (h : MsgV S w cs x) : ∃ v, cs.toArray[7]? = some v ∧ IntsIn S w v x.qby := by
  obtain ⟨a, b, c, d, e, rfl, h1, _⟩ := h; exact ⟨a, rfl, h1⟩
end Go.Proofs.Ytjllejlgclfahaa
