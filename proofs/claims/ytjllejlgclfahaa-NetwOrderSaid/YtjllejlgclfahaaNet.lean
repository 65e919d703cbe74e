/-
  The net: what its memory holds; its methods.
-/
import Derived.Test.YtjllejlgclfahaaDelete
namespace Go.Proofs.Ytjllejlgclfahaa
open Go.RowKit Go.MapKept

theorem run_loadVar_at {P : Program} (w : World) (b off : Nat) (ty : TypeId) (cs : List Value) (d : TypeDesc) (hc : ∀ (j : Nat) (v : Value), cs[j]? = some v → w.cell? ⟨b, off + j, none⟩ = some v)
    (hu : P.underlying ty = some d) (hd : (match d with | .struct _ | .array _ _ => true | _ => false) = true) (hi : (P.info? ty).map (·.size) = some cs.length) :
    (loadVar ty ⟨b, off, none⟩).run P w = .ok (.agg cs.toArray) w := by
  have hl : (loadCells ⟨b, off, none⟩ cs.length).run P w = .ok cs.toArray w :=
    run_loadCells_list (P := P) w ⟨b, off, none⟩ cs (fun j v hv => by
      have hadd : (⟨b, off, none⟩ : Addr).add j = ⟨b, off + j, none⟩ := by unfold Addr.add; split <;> simp_all
      rw [hadd]; exact hc j v hv)
  cases hq : P.info? ty with
  | none => simp [hq] at hi
  | some i =>
    have hs : i.size = cs.length := by simpa [hq] using hi
    have hagg : (isAgg ty).run P w = .ok true w := by
      unfold isAgg
      rw [Sem.run_bind, run_underlying hu w]
      cases d <;> simp_all
    simp [loadVar, Sem.run_bind, hagg, sizeOf, typeInfo, hq, hs, hl]
theorem wpList_load_at {P : Program} {ops : Array Oper} {rest : List Oper} {o : Oper} {a : Act} {w : World} {Q : Exit → Act → World → Prop} (hgd : o.guard = none) (ty : TypeId) (x : Operand) (ho : o.op = .load ty x)
    (b off : Nat) (hx : a.eval x = .pointer (some ⟨b, off, none⟩)) (cs : List Value) (d : TypeDesc) (hc : ∀ (j : Nat) (v : Value), cs[j]? = some v → w.cell? ⟨b, off + j, none⟩ = some v)
    (hu : P.underlying ty = some d) (hd : (match d with | .struct _ | .array _ _ => true | _ => false) = true) (hi : (P.info? ty).map (·.size) = some cs.length)
    (h : wpList P ops Q rest (a.put o.dst (.agg cs.toArray)) w) : wpList P ops Q (o :: rest) a w :=
  wpList_plain hgd fun K hK => by
    unfold Oper.wp execOp
    simp only [ho, hx, Instr.loadAt, Instr.sureAddr, Sem.run_bind, Sem.run_pure, Result.andThen_ok, run_loadVar_at w b off ty cs d hc hu hd hi]
    exact hK _ _ h
/-- Two results, the first a struct's variable. -/
theorem results_cell_tmp {P : Program} {fn : Func} {p q : Tmp} {ty : TypeId} (h : fn.results = #[.cell p ty, .tmp q]) (tmps : Array Value) (w : World) (g : Nat) (t : TypeId) (cs : Array Value) (fr : Nat × Nat) (d : TypeDesc)
    (hp : tmps.getD p undef = .pointer (some ⟨g, 0, none⟩)) (hg : w.heap[g]? = some (.cells cs t fr))
    (hu : P.underlying ty = some d) (hd : (match d with | .struct _ | .array _ _ => true | _ => false) = true) (hi : (P.info? ty).map (·.size) = some cs.size) :
    (results fn tmps).run P w = .ok (.tuple #[.agg cs, tmps.getD q undef]) w := by
  have hp' : tmps[p]?.getD undef = .pointer (some ⟨g, 0, none⟩) := by simpa using hp
  simp [results, h, hp', asAddr, run_loadVar_row w g t ty cs fr d hg hu hd hi]

def flatM (E : List (MsgX × List Value)) : List Value := E.flatMap (·.2)
theorem flatM_snoc (E : List (MsgX × List Value)) (e : MsgX × List Value) : flatM (E ++ [e]) = flatM E ++ e.2 := by simp [flatM]
theorem flatM_length (E : List (MsgX × List Value)) (h : ∀ e ∈ E, e.2.length = 19) : (flatM E).length = E.length * 19 := by
  induction E with
  | nil => rfl
  | cons e L ih =>
    simp only [flatM, List.flatMap_cons, List.length_append, List.length_cons] at *
    rw [ih (fun e he => h e (List.mem_cons_of_mem _ he)), h e List.mem_cons_self]; omega
theorem flatM_at (E : List (MsgX × List Value)) (h : ∀ e ∈ E, e.2.length = 19) (i : Nat) (hi : i < E.length) (j : Nat) (hj : j < 19) : (flatM E)[i * 19 + j]? = E[i].2[j]? := by
  induction E generalizing i with
  | nil => simp at hi
  | cons e L ih =>
    have hl : e.2.length = 19 := h e List.mem_cons_self
    cases i with
    | zero =>
      simp only [flatM, List.flatMap_cons, List.getElem_cons_zero]
      rw [Nat.zero_mul, Nat.zero_add, List.getElem?_append_left (by omega)]
    | succ i =>
      have := ih (fun e he => h e (List.mem_cons_of_mem _ he)) i (by simpa using hi)
      simp only [flatM, List.flatMap_cons, List.getElem_cons_succ] at *
      rw [List.getElem?_append_right (by omega), hl, show (i + 1) * 19 + j - 19 = i * 19 + j by omega]
      exact this
theorem flatM_erase (E : List (MsgX × List Value)) (h : ∀ e ∈ E, e.2.length = 19) (i : Nat) (hi : i < E.length) : (flatM E).take (i * 19) ++ (flatM E).drop ((i + 1) * 19) = flatM (E.eraseIdx i) := by
  induction E generalizing i with
  | nil => simp at hi
  | cons e L ih =>
    have hl : e.2.length = 19 := h e List.mem_cons_self
    have hf : flatM (e :: L) = e.2 ++ flatM L := by simp [flatM]
    cases i with
    | zero =>
      rw [hf, Nat.zero_mul, List.take_zero, Nat.zero_add, Nat.one_mul, List.nil_append, ← hl, List.drop_left]
      rfl
    | succ i =>
      have := ih (fun e he => h e (List.mem_cons_of_mem _ he)) i (by simpa using hi)
      rw [hf, List.eraseIdx_cons_succ, show flatM (e :: L.eraseIdx i) = e.2 ++ flatM (L.eraseIdx i) by simp [flatM], ← this]
      rw [List.take_append, List.drop_append, hl, List.take_of_length_le (by omega), List.drop_eq_nil_of_le (by omega), List.nil_append, List.append_assoc]
      congr 3 <;> omega
theorem map_erase (E : List (MsgX × List Value)) (i : Nat) : (E.map (·.1)).eraseIdx i = (E.eraseIdx i).map (·.1) := by
  induction E generalizing i with
  | nil => simp
  | cons e L ih =>
    cases i with
    | zero => rfl
    | succ i => simp [ih i]
theorem flatM_one (E : List (MsgX × List Value)) (h : ∀ e ∈ E, ∀ u ∈ e.2, u.oneCell' = true) : ∀ u ∈ flatM E, u.oneCell' = true := by
  intro u hu
  obtain ⟨e, he, hu⟩ := List.mem_flatMap.1 hu
  exact h e he u hu

/-- The net behind p: its messages L; its memory lies in F. -/
def NetAt (w : World) (p : Nat) (F : Nat → Prop) (v : Value) (E : List (MsgX × List Value)) : Prop :=
  w.heap[p]? = some (.cells #[v] 95 (0, 0)) ∧ Own 51 19 w v E.length (flatM E) ∧ v.ownBlock ≠ some p ∧ F p ∧ (∀ k, v.ownBlock = some k → F k) ∧ (∀ k, F k → k < w.heap.size) ∧ ∀ e ∈ E, MsgV (fun k => F k ∧ k ≠ p ∧ v.ownBlock ≠ some k) w e.2 e.1
def NetV (w : World) (p : Nat) (F : Nat → Prop) (L : List MsgX) : Prop := ∃ v E, L = E.map (·.1) ∧ NetAt w p F v E
section
variable {w w' x y z : World} {p : Nat} {F : Nat → Prop} {L : List MsgX} {v : Value} {E : List (MsgX × List Value)}
theorem NetAt.len19 (h : NetAt w p F v E) : ∀ e ∈ E, e.2.length = 19 := fun e he => (h.2.2.2.2.2.2 e he).length
theorem NetAt.chg {S : Nat → Prop} (h : NetAt w p F v E) (hc : Chg S w w') (hs : ∀ k, F k → ¬ S k) : NetAt w' p F v E := by
  obtain ⟨h1, h2, h3, h4, h5, h6, h7⟩ := h
  exact ⟨hc.blk h1 (hs p h4), h2.chg hc (fun k hk => hs k (h5 k hk)), h3, h4, h5, fun k hk => Nat.lt_of_lt_of_le (h6 k hk) hc.size, fun e he => (h7 e he).chg hc (fun k hk => hs k hk.1)⟩
theorem NetV.chg {S : Nat → Prop} (h : NetV w p F L) (hc : Chg S w w') (hs : ∀ k, F k → ¬ S k) : NetV w' p F L := by
  obtain ⟨v, E, e, h⟩ := h
  exact ⟨v, E, e, h.chg hc hs⟩
theorem NetV.chg0 (h : NetV w p F L) (hc : Chg none_ w w') : NetV w' p F L := h.chg hc fun _ _ h => h
theorem NetV.lt (h : NetV w p F L) : ∀ k, F k → k < w.heap.size := by obtain ⟨v, E, e, h⟩ := h; exact h.2.2.2.2.2.1
theorem NetV.here (h : NetV w p F L) : F p := by obtain ⟨v, E, e, h⟩ := h; exact h.2.2.2.1
/-- One more message, whose memory was made since B. -/
theorem NetAt.push (h : NetAt x p F v E) {B : Nat} (hB : B = x.heap.size) (hy : Chg none_ x y) {cs : List Value} {m : MsgX} (hm : MsgV (fun k => B ≤ k) y cs m)
    {v' : Value} (ho : Own 51 19 z v' (E.length + 1) (flatM E ++ cs)) (hz : Chg (fun k => v.ownBlock = some k) y z) (hb : v'.ownBlock = v.ownBlock ∨ ∃ k, v'.ownBlock = some k ∧ y.heap.size ≤ k) :
    ∃ F', NetAt (z.setCell ⟨p, 0, none⟩ v') p F' v' (E ++ [(m, cs)]) ∧ (∀ k, F' k → F k ∨ x.heap.size ≤ k) ∧ Chg F x (z.setCell ⟨p, 0, none⟩ v') := by
  obtain ⟨h1, h2, h3, h4, h5, h6, h7⟩ := h
  have hp := blk_lt h1
  have hsy := hy.size
  have hsz := hz.size
  have hv'p : v'.ownBlock ≠ some p := fun e => by
    rcases hb with hb | ⟨k, hk, hle⟩
    · exact h3 (hb ▸ e)
    · rw [hk] at e; cases e; omega
  have hzp : z.heap[p]? = some (.cells #[v] 95 (0, 0)) := hz.blk (hy.blk h1 (fun e => e)) h3
  have hc : Chg F x z := (hy.mono fun _ _ e => e.elim).step hz (fun k hk => .inl (h5 k hk))
  have hcp := (Chg.refl (· = p) z).put 0 v'
  have hs9 : (z.setCell ⟨p, 0, none⟩ v').heap.size = z.heap.size := by simp
  refine ⟨fun k => F k ∨ (x.heap.size ≤ k ∧ k < z.heap.size), ⟨setCell_same (i := 0) v' hzp, ?_, hv'p, .inl h4, fun k hk => ?_, fun k hk => ?_, fun e he => ?_⟩, fun k hk => hk.imp id (·.1), hc.setCell (.inl h4) v'⟩
  · rw [flatM_snoc, List.length_append, List.length_singleton]
    exact ho.chg hcp (fun k hk e => hv'p (e ▸ hk))
  · have hlt := ho.lt hk
    rcases hb with hb | ⟨k', hk', hle⟩
    · exact .inl (h5 k (hb ▸ hk))
    · rw [hk'] at hk; cases hk; exact .inr ⟨by omega, hlt⟩
  · rw [hs9]
    rcases hk with hk | hk
    · have := h6 k hk; omega
    · exact hk.2
  · rcases List.mem_append.1 he with he | he
    · refine ((((h7 e he).chg0 hy).mono (S' := fun k => (F k ∧ k ≠ p ∧ v.ownBlock ≠ some k) ∧ k < y.heap.size) (fun k hk hlt => ⟨hk, hlt⟩)).chg hz (fun k hk => hk.1.2.2)).chg hcp (fun k hk => hk.1.2.1) |>.mono (fun k hk _ => ⟨.inl hk.1.1, hk.1.2.1, fun e => ?_⟩)
      rcases hb with hb | ⟨k', hk', hle⟩
      · exact hk.1.2.2 (hb ▸ e)
      · rw [hk'] at e; cases e; have := hk.2; omega
    · simp at he; subst he
      refine ((hm.mono (S' := fun k => x.heap.size ≤ k ∧ k < y.heap.size) (fun k hk hlt => ⟨by omega, hlt⟩)).chg hz (fun k hk e => by have := h2.lt e; omega)).chg hcp (fun k hk e => by omega) |>.mono (fun k hk _ => ⟨.inr ⟨hk.1, by omega⟩, by omega, fun e => ?_⟩)
      rcases hb with hb | ⟨k', hk', hle⟩
      · have := h2.lt (hb ▸ e : v.ownBlock = some k); omega
      · rw [hk'] at e; cases e; omega
end
/-- The net has turned to L'. -/
def NetTo (w : World) (p : Nat) (F : Nat → Prop) (L' : List MsgX) (w' : World) : Prop := ∃ F', NetV w' p F' L' ∧ (∀ k, F' k → F k ∨ w.heap.size ≤ k) ∧ Chg F w w'

theorem net_new (w : World) : Calls Try.prog 24 #[] w fun e w' => ∃ p, e = .returned (.pointer (some ⟨p, 0, none⟩)) ∧ NetV w' p (fun k => w.heap.size ≤ k ∧ k < w'.heap.size) [] ∧ Below w.heap.size w w' := by
  go_enter Try.func24, Try.ntmps24
  go_wp2_with fail
  go_ret
  exact ⟨w.heap.size, rfl, ⟨.slice none 0 0, [], rfl, alloc_new w _ _ rfl, Own.nil _ _ _, (by intro h; cases h), ⟨Nat.le_refl _, by simp⟩, (by intro k h; cases h), fun k hk => hk.2, (by intro e h; cases h)⟩, (Below.refl _ _).alloc (Nat.le_refl _) _⟩
theorem net_len (p : Nat) (F : Nat → Prop) (L : List MsgX) (w : World) (h : NetV w p F L) : Calls Try.prog 28 #[.pointer (some ⟨p, 0, none⟩)] w fun e w' => e = .returned (.int .i64 L.length) ∧ w = w' := by
  obtain ⟨v, E, rfl, h1, h2, -⟩ := h
  obtain ⟨a, cap, rfl, -⟩ := h2.open
  have c0 : w.cell? ⟨p, 0, none⟩ = some (.slice a E.length cap) := (cell_of_blk h1 0).trans rfl
  rw [List.length_map]
  clear h1 h2
  go_enter Try.func28, Try.ntmps28
  go_wp2_with fail
  go_ret
  exact ⟨rfl, rfl⟩

theorem size19 : (Try.prog.info? 51).map (·.size) = some 19 := by kernel_rfl
set_option maxRecDepth 100000 in
set_option maxHeartbeats 2000000 in
theorem net_at_no (p : Nat) (F : Nat → Prop) (L : List MsgX) (i : Int) (w : World) (h : NetV w p F L) (hi : ¬ (0 ≤ i ∧ i < (L.length : Int))) :
    Calls Try.prog 30 #[.pointer (some ⟨p, 0, none⟩), .int .i64 i] w fun e w' => e = .returned (.tuple #[.agg zeroMsg.toArray, .bool false]) ∧ Below w.heap.size w w' := by
  obtain ⟨v, E, rfl, h1, h2, -⟩ := h
  obtain ⟨a, cap, rfl, -⟩ := h2.open
  have c0 : (w.alloc (.cells #[.int .i64 0, .int .i64 0, .int .i64 0, .int .i64 0, .int .i64 0, .int .i64 0, .int .i64 0, .slice none 0 0, .int .i64 0, .slice none 0 0, .slice none 0 0, .int .i64 0, .int .i64 0, .slice none 0 0, .int .i64 0, .int .u64 0, .int .u64 0, .int .i64 0, .slice none 0 0] 51 (0, 0))).cell? ⟨p, 0, none⟩ = some (.slice a E.length cap) := ((Chg.refl none_ w).alloc _).cell ((cell_of_blk h1 0).trans rfl) (fun h => h)
  rw [List.length_map] at hi
  clear h1 h2
  by_cases hn : i < 0
  · have hd : decide (i < 0) = true := by simpa using hn
    clear hi
    obtain ⟨wa, hwa⟩ : ∃ wa, wa = w.alloc (.cells #[.int .i64 0, .int .i64 0, .int .i64 0, .int .i64 0, .int .i64 0, .int .i64 0, .int .i64 0, .slice none 0 0, .int .i64 0, .slice none 0 0, .slice none 0 0, .int .i64 0, .int .i64 0, .slice none 0 0, .int .i64 0, .int .u64 0, .int .u64 0, .int .i64 0, .slice none 0 0] 51 (0, 0)) := ⟨_, rfl⟩
    obtain ⟨n4, hn4⟩ : ∃ n4, n4 = w.heap.size := ⟨_, rfl⟩
    have HWA := Lib.hid hwa
    have HN4 := Lib.hid hn4
    have hb4 : wa.heap[n4]? = some (.cells #[.int .i64 0, .int .i64 0, .int .i64 0, .int .i64 0, .int .i64 0, .int .i64 0, .int .i64 0, .slice none 0 0, .int .i64 0, .slice none 0 0, .slice none 0 0, .int .i64 0, .int .i64 0, .slice none 0 0, .int .i64 0, .int .u64 0, .int .u64 0, .int .i64 0, .slice none 0 0] 51 (0, 0)) := by rw [hwa]; exact alloc_new w _ _ hn4
    rw [← hwa] at c0
    clear hwa hn4
    have hzz := setRow_heap _ n4 _ #[.int .i64 0, .int .i64 0, .int .i64 0, .int .i64 0, .int .i64 0, .int .i64 0, .int .i64 0, .slice none 0 0, .int .i64 0, .slice none 0 0, .slice none 0 0, .int .i64 0, .int .i64 0, .slice none 0 0, .int .i64 0, .int .u64 0, .int .u64 0, .int .i64 0, .slice none 0 0] _ _ hb4
    have hyz := (Chg.refl (· = n4) wa).row #[.int .i64 0, .int .i64 0, .int .i64 0, .int .i64 0, .int .i64 0, .int .i64 0, .int .i64 0, .slice none 0 0, .int .i64 0, .slice none 0 0, .slice none 0 0, .int .i64 0, .int .i64 0, .slice none 0 0, .int .i64 0, .int .u64 0, .int .u64 0, .int .i64 0, .slice none 0 0]
    go_enter Try.func30, Try.ntmps30
    go_upto_region 1 with fail
    rw [← HWA.out, ← HN4.out]
    go_wp2_with (refine wpList_store_row rfl 51 _ _ rfl n4 #[.int .i64 0, .int .i64 0, .int .i64 0, .int .i64 0, .int .i64 0, .int .i64 0, .int .i64 0, .slice none 0 0, .int .i64 0, .slice none 0 0, .slice none 0 0, .int .i64 0, .int .i64 0, .slice none 0 0, .int .i64 0, .int .u64 0, .int .u64 0, .int .i64 0, .slice none 0 0] rfl rfl _ _ hb4 size19 rfl (by simp [Value.oneCell']) ?_)
    (try simp only [Exit.inBlock, Exit.then])
    refine bodyPost_ret (results_cell_tmp (cs := #[.int .i64 0, .int .i64 0, .int .i64 0, .int .i64 0, .int .i64 0, .int .i64 0, .int .i64 0, .slice none 0 0, .int .i64 0, .slice none 0 0, .slice none 0 0, .int .i64 0, .int .i64 0, .slice none 0 0, .int .i64 0, .int .u64 0, .int .u64 0, .int .i64 0, .slice none 0 0]) rfl _ _ n4 _ _ _ rfl hzz Try.underlying51 rfl size19) rfl ?_
    have hn := HN4.out
    have hw := HWA.out
    have hB : Below w.heap.size w wa := by rw [hw]; exact (Below.refl _ _).alloc (Nat.le_refl _) _
    exact ⟨rfl, hB.trans (hyz.below hB.size (fun k e => by omega))⟩
  · have hd : decide (i < 0) = false := by simpa using hn
    have hd2 : decide ((E.length : Int) ≤ i) = true := by simp; omega
    clear hi
    obtain ⟨wa, hwa⟩ : ∃ wa, wa = w.alloc (.cells #[.int .i64 0, .int .i64 0, .int .i64 0, .int .i64 0, .int .i64 0, .int .i64 0, .int .i64 0, .slice none 0 0, .int .i64 0, .slice none 0 0, .slice none 0 0, .int .i64 0, .int .i64 0, .slice none 0 0, .int .i64 0, .int .u64 0, .int .u64 0, .int .i64 0, .slice none 0 0] 51 (0, 0)) := ⟨_, rfl⟩
    obtain ⟨n4, hn4⟩ : ∃ n4, n4 = w.heap.size := ⟨_, rfl⟩
    have HWA := Lib.hid hwa
    have HN4 := Lib.hid hn4
    have hb4 : wa.heap[n4]? = some (.cells #[.int .i64 0, .int .i64 0, .int .i64 0, .int .i64 0, .int .i64 0, .int .i64 0, .int .i64 0, .slice none 0 0, .int .i64 0, .slice none 0 0, .slice none 0 0, .int .i64 0, .int .i64 0, .slice none 0 0, .int .i64 0, .int .u64 0, .int .u64 0, .int .i64 0, .slice none 0 0] 51 (0, 0)) := by rw [hwa]; exact alloc_new w _ _ hn4
    rw [← hwa] at c0
    clear hwa hn4
    have hzz := setRow_heap _ n4 _ #[.int .i64 0, .int .i64 0, .int .i64 0, .int .i64 0, .int .i64 0, .int .i64 0, .int .i64 0, .slice none 0 0, .int .i64 0, .slice none 0 0, .slice none 0 0, .int .i64 0, .int .i64 0, .slice none 0 0, .int .i64 0, .int .u64 0, .int .u64 0, .int .i64 0, .slice none 0 0] _ _ hb4
    have hyz := (Chg.refl (· = n4) wa).row #[.int .i64 0, .int .i64 0, .int .i64 0, .int .i64 0, .int .i64 0, .int .i64 0, .int .i64 0, .slice none 0 0, .int .i64 0, .slice none 0 0, .slice none 0 0, .int .i64 0, .int .i64 0, .slice none 0 0, .int .i64 0, .int .u64 0, .int .u64 0, .int .i64 0, .slice none 0 0]
    go_enter Try.func30, Try.ntmps30
    go_upto_region 1 with fail
    rw [← HWA.out, ← HN4.out]
    go_wp2_with (refine wpList_store_row rfl 51 _ _ rfl n4 #[.int .i64 0, .int .i64 0, .int .i64 0, .int .i64 0, .int .i64 0, .int .i64 0, .int .i64 0, .slice none 0 0, .int .i64 0, .slice none 0 0, .slice none 0 0, .int .i64 0, .int .i64 0, .slice none 0 0, .int .i64 0, .int .u64 0, .int .u64 0, .int .i64 0, .slice none 0 0] rfl rfl _ _ hb4 size19 rfl (by simp [Value.oneCell']) ?_)
    (try simp only [Exit.inBlock, Exit.then])
    refine bodyPost_ret (results_cell_tmp (cs := #[.int .i64 0, .int .i64 0, .int .i64 0, .int .i64 0, .int .i64 0, .int .i64 0, .int .i64 0, .slice none 0 0, .int .i64 0, .slice none 0 0, .slice none 0 0, .int .i64 0, .int .i64 0, .slice none 0 0, .int .i64 0, .int .u64 0, .int .u64 0, .int .i64 0, .slice none 0 0]) rfl _ _ n4 _ _ _ rfl hzz Try.underlying51 rfl size19) rfl ?_
    have hn := HN4.out
    have hw := HWA.out
    have hB : Below w.heap.size w wa := by rw [hw]; exact (Below.refl _ _).alloc (Nat.le_refl _) _
    exact ⟨rfl, hB.trans (hyz.below hB.size (fun k e => by omega))⟩

set_option maxRecDepth 100000 in
set_option maxHeartbeats 2000000 in
theorem net_at_yes (p : Nat) (F : Nat → Prop) (L : List MsgX) (i : Nat) (m : MsgX) (w : World) (h : NetV w p F L) (hm : L[i]? = some m) :
    Calls Try.prog 30 #[.pointer (some ⟨p, 0, none⟩), .int .i64 i] w fun e w' => ∃ cs, e = .returned (.tuple #[.agg cs.toArray, .bool true]) ∧ MsgV (fun k => w.heap.size ≤ k) w' cs m ∧ Below w.heap.size w w' := by
  obtain ⟨v, E, rfl, hN⟩ := h
  have h19 := hN.len19
  obtain ⟨h1, h2, h3, h4, h5, h6, h7⟩ := hN
  obtain ⟨a, cap, rfl, hcap, hcm, hl, ha⟩ := h2.open
  obtain ⟨hiL, hmi⟩ := List.getElem?_eq_some_iff.1 hm
  rw [List.length_map] at hiL
  rw [List.getElem_map] at hmi
  rcases ha with ⟨_, h0, _⟩ | ⟨g, cs, rfl, hg, _, ht⟩
  · omega
  have hsrc : ∀ (j : Nat) (u : Value), (E[i].2)[j]? = some u → (w.alloc (.cells #[.int .i64 0, .int .i64 0, .int .i64 0, .int .i64 0, .int .i64 0, .int .i64 0, .int .i64 0, .slice none 0 0, .int .i64 0, .slice none 0 0, .slice none 0 0, .int .i64 0, .int .i64 0, .slice none 0 0, .int .i64 0, .int .u64 0, .int .u64 0, .int .i64 0, .slice none 0 0] 51 (0, 0))).cell? ⟨g, i * 19 + j, none⟩ = some u := fun j u hu => by
    have hj : j < 19 := by have := (List.getElem?_eq_some_iff.1 hu).1; rw [h19 _ (List.getElem_mem hiL)] at this; exact this
    refine ((Chg.refl none_ w).alloc _).cell (own_cell hg ht ?_ ?_) (fun h => h)
    · have : (i + 1) * 19 ≤ E.length * 19 := Nat.mul_le_mul_right _ hiL; omega
    · rw [flatM_at E h19 i hiL j hj]; exact hu
  have hmv := (h7 _ (List.getElem_mem hiL)).chg0 ((Chg.refl none_ w).alloc (.cells #[.int .i64 0, .int .i64 0, .int .i64 0, .int .i64 0, .int .i64 0, .int .i64 0, .int .i64 0, .slice none 0 0, .int .i64 0, .slice none 0 0, .slice none 0 0, .int .i64 0, .int .i64 0, .slice none 0 0, .int .i64 0, .int .u64 0, .int .u64 0, .int .i64 0, .slice none 0 0] 51 (0, 0)))
  have hl19 : (Try.prog.info? 51).map (·.size) = some (E[i].2).length := size19.trans (congrArg some (h19 _ (List.getElem_mem hiL)).symm)
  rw [hmi] at hmv
  have c0 : (w.alloc (.cells #[.int .i64 0, .int .i64 0, .int .i64 0, .int .i64 0, .int .i64 0, .int .i64 0, .int .i64 0, .slice none 0 0, .int .i64 0, .slice none 0 0, .slice none 0 0, .int .i64 0, .int .i64 0, .slice none 0 0, .int .i64 0, .int .u64 0, .int .u64 0, .int .i64 0, .slice none 0 0] 51 (0, 0))).cell? ⟨p, 0, none⟩ = some (.slice (some ⟨g, 0, none⟩) E.length cap) := ((Chg.refl none_ w).alloc _).cell ((cell_of_blk h1 0).trans rfl) (fun h => h)
  have hin : (i : Int) < (E.length : Int) := by omega
  have hd : decide ((i : Int) < 0) = false := by simp
  have hd2 : decide ((E.length : Int) ≤ (i : Int)) = false := by simp; omega
  have HSRC := Lib.hid hsrc
  have HMV := Lib.hid hmv
  have HL := Lib.hid hl19
  obtain ⟨es, hes⟩ : ∃ es, es = E[i].2 := ⟨_, rfl⟩
  rw [← hes] at HSRC HMV HL
  obtain ⟨n4, hn4⟩ : ∃ n4, n4 = w.heap.size := ⟨_, rfl⟩
  have hb4 : (w.alloc (.cells #[.int .i64 0, .int .i64 0, .int .i64 0, .int .i64 0, .int .i64 0, .int .i64 0, .int .i64 0, .slice none 0 0, .int .i64 0, .slice none 0 0, .slice none 0 0, .int .i64 0, .int .i64 0, .slice none 0 0, .int .i64 0, .int .u64 0, .int .u64 0, .int .i64 0, .slice none 0 0] 51 (0, 0))).heap[n4]? = some (.cells #[.int .i64 0, .int .i64 0, .int .i64 0, .int .i64 0, .int .i64 0, .int .i64 0, .int .i64 0, .slice none 0 0, .int .i64 0, .slice none 0 0, .slice none 0 0, .int .i64 0, .int .i64 0, .slice none 0 0, .int .i64 0, .int .u64 0, .int .u64 0, .int .i64 0, .slice none 0 0] 51 (0, 0)) := alloc_new w _ _ hn4
  have HB4 := Lib.hid hb4
  have HN4 := Lib.hid hn4
  have hszw : (w.alloc (.cells #[.int .i64 0, .int .i64 0, .int .i64 0, .int .i64 0, .int .i64 0, .int .i64 0, .int .i64 0, .slice none 0 0, .int .i64 0, .slice none 0 0, .slice none 0 0, .int .i64 0, .int .i64 0, .slice none 0 0, .int .i64 0, .int .u64 0, .int .u64 0, .int .i64 0, .slice none 0 0] 51 (0, 0))).heap.size = n4 + 1 := by rw [hn4]; simp
  have HSZ := Lib.hid hszw
  clear hsrc hmv hl19 h1 h2 h3 h4 h5 h6 h7 hg ht hl hm hmi h19 hes hcap hcm hb4 hszw hn4
  generalize E.length = n at *
  go_enter Try.func30, Try.ntmps30
  go_wp2_with (refine wpList_load_at rfl 51 _ rfl g (i * 19) rfl es _ HSRC.out Try.underlying51 rfl HL.out ?_)
  refine (mess_still _ es m _ HMV.out).mono ?_
  rintro e y ⟨cs', rfl, hm', hB'⟩
  have hb4 := (Chg.of_below (S := none_) hB').blk HB4.out (fun h => h)
  have hone : cs'.toArray.all (·.oneCell') = true := by rw [List.all_toArray]; exact List.all_eq_true.2 hm'.one
  have hcl : (Try.prog.info? 51).map (·.size) = some cs'.toArray.size := size19.trans (congrArg some (by rw [List.size_toArray, hm'.length]))
  have hcz : (#[.int .i64 0, .int .i64 0, .int .i64 0, .int .i64 0, .int .i64 0, .int .i64 0, .int .i64 0, .slice none 0 0, .int .i64 0, .slice none 0 0, .slice none 0 0, .int .i64 0, .int .i64 0, .slice none 0 0, .int .i64 0, .int .u64 0, .int .u64 0, .int .i64 0, .slice none 0 0] : Array Value).size = cs'.toArray.size := by show 19 = cs'.toArray.size; rw [List.size_toArray, hm'.length]
  have hzz := setRow_heap _ n4 _ cs'.toArray _ _ hb4
  have hyz := (Chg.refl (· = n4) y).row cs'.toArray
  rw [← HN4.out]
  go_wp2_with (refine wpList_store_row rfl 51 _ _ rfl n4 cs'.toArray rfl rfl _ _ hb4 hcl hcz hone ?_)
  (try simp only [Exit.inBlock, Exit.then])
  refine bodyPost_ret (results_cell_tmp rfl _ _ n4 _ _ _ _ rfl hzz Try.underlying51 rfl hcl) rfl ?_
  have hn := HN4.out
  have hsz := HSZ.out
  have hsy := hB'.size
  refine ⟨cs', rfl, (hm'.chg hyz (fun k hk e => by omega)).mono (fun k hk _ => by omega), ?_⟩
  exact ((Below.refl _ _).alloc (Nat.le_refl _) _).trans ((hB'.mono (by omega)).trans (hyz.below (by omega) (fun k e => by omega)))

set_option maxRecDepth 100000 in
set_option maxHeartbeats 2000000 in
theorem net_take_no (p : Nat) (F : Nat → Prop) (L : List MsgX) (i : Int) (w : World) (h : NetV w p F L) (hi : ¬ (0 ≤ i ∧ i < (L.length : Int))) :
    Calls Try.prog 27 #[.pointer (some ⟨p, 0, none⟩), .int .i64 i] w fun e w' => e = .returned (.tuple #[.agg zeroMsg.toArray, .bool false]) ∧ Below w.heap.size w w' := by
  obtain ⟨wa, hwa⟩ : ∃ wa, wa = w.alloc (.cells #[.int .i64 0, .int .i64 0, .int .i64 0, .int .i64 0, .int .i64 0, .int .i64 0, .int .i64 0, .slice none 0 0, .int .i64 0, .slice none 0 0, .slice none 0 0, .int .i64 0, .int .i64 0, .slice none 0 0, .int .i64 0, .int .u64 0, .int .u64 0, .int .i64 0, .slice none 0 0] 51 (0, 0)) := ⟨_, rfl⟩
  obtain ⟨n4, hn4⟩ : ∃ n4, n4 = w.heap.size := ⟨_, rfl⟩
  have HWA := Lib.hid hwa
  have HN4 := Lib.hid hn4
  have hca : Chg none_ w wa := by rw [hwa]; exact (Chg.refl none_ w).alloc _
  have hb4 : wa.heap[n4]? = some (.cells #[.int .i64 0, .int .i64 0, .int .i64 0, .int .i64 0, .int .i64 0, .int .i64 0, .int .i64 0, .slice none 0 0, .int .i64 0, .slice none 0 0, .slice none 0 0, .int .i64 0, .int .i64 0, .slice none 0 0, .int .i64 0, .int .u64 0, .int .u64 0, .int .i64 0, .slice none 0 0] 51 (0, 0)) := by rw [hwa]; exact alloc_new w _ _ hn4
  have HB4 := Lib.hid hb4
  have HAT := Lib.hid (net_at_no p F L i wa (h.chg0 hca) hi)
  have HCA := Lib.hid hca
  clear hwa hn4 hb4 h hi hca
  go_enter Try.func27, Try.ntmps27
  go_upto_region 1 with fail
  rw [← HWA.out, ← HN4.out]
  go_wp2_with fail
  refine HAT.out.mono ?_
  rintro e y ⟨rfl, hB'⟩
  have hb6 : (y.alloc (.cells #[.int .i64 0, .int .i64 0, .int .i64 0, .int .i64 0, .int .i64 0, .int .i64 0, .int .i64 0, .slice none 0 0, .int .i64 0, .slice none 0 0, .slice none 0 0, .int .i64 0, .int .i64 0, .slice none 0 0, .int .i64 0, .int .u64 0, .int .u64 0, .int .i64 0, .slice none 0 0] 51 (0, 0))).heap[y.heap.size]? = some (.cells #[.int .i64 0, .int .i64 0, .int .i64 0, .int .i64 0, .int .i64 0, .int .i64 0, .int .i64 0, .slice none 0 0, .int .i64 0, .slice none 0 0, .slice none 0 0, .int .i64 0, .int .i64 0, .slice none 0 0, .int .i64 0, .int .u64 0, .int .u64 0, .int .i64 0, .slice none 0 0] 51 (0, 0)) := alloc_new y _ _ rfl
  have hb6' := setRow_heap _ y.heap.size _ #[.int .i64 0, .int .i64 0, .int .i64 0, .int .i64 0, .int .i64 0, .int .i64 0, .int .i64 0, .slice none 0 0, .int .i64 0, .slice none 0 0, .slice none 0 0, .int .i64 0, .int .i64 0, .slice none 0 0, .int .i64 0, .int .u64 0, .int .u64 0, .int .i64 0, .slice none 0 0] _ _ hb6
  have hcy : Chg none_ wa (y.alloc (.cells #[.int .i64 0, .int .i64 0, .int .i64 0, .int .i64 0, .int .i64 0, .int .i64 0, .int .i64 0, .slice none 0 0, .int .i64 0, .slice none 0 0, .slice none 0 0, .int .i64 0, .int .i64 0, .slice none 0 0, .int .i64 0, .int .u64 0, .int .u64 0, .int .i64 0, .slice none 0 0] 51 (0, 0))) := (Chg.of_below hB').alloc _
  have hc6 := (Chg.refl (· = y.heap.size) (y.alloc (.cells #[.int .i64 0, .int .i64 0, .int .i64 0, .int .i64 0, .int .i64 0, .int .i64 0, .int .i64 0, .slice none 0 0, .int .i64 0, .slice none 0 0, .slice none 0 0, .int .i64 0, .int .i64 0, .slice none 0 0, .int .i64 0, .int .u64 0, .int .u64 0, .int .i64 0, .slice none 0 0] 51 (0, 0)))).row #[.int .i64 0, .int .i64 0, .int .i64 0, .int .i64 0, .int .i64 0, .int .i64 0, .int .i64 0, .slice none 0 0, .int .i64 0, .slice none 0 0, .slice none 0 0, .int .i64 0, .int .i64 0, .slice none 0 0, .int .i64 0, .int .u64 0, .int .u64 0, .int .i64 0, .slice none 0 0]
  have hsz := hB'.size
  have hn4 := blk_lt HB4.out
  have hb4' := hc6.blk (hcy.blk HB4.out (fun h => h)) (by omega)
  have hzz := setRow_heap _ n4 _ #[.int .i64 0, .int .i64 0, .int .i64 0, .int .i64 0, .int .i64 0, .int .i64 0, .int .i64 0, .slice none 0 0, .int .i64 0, .slice none 0 0, .slice none 0 0, .int .i64 0, .int .i64 0, .slice none 0 0, .int .i64 0, .int .u64 0, .int .u64 0, .int .i64 0, .slice none 0 0] _ _ hb4'
  have hc4 := (Chg.refl (· = n4) ((y.alloc (.cells #[.int .i64 0, .int .i64 0, .int .i64 0, .int .i64 0, .int .i64 0, .int .i64 0, .int .i64 0, .slice none 0 0, .int .i64 0, .slice none 0 0, .slice none 0 0, .int .i64 0, .int .i64 0, .slice none 0 0, .int .i64 0, .int .u64 0, .int .u64 0, .int .i64 0, .slice none 0 0] 51 (0, 0))).setRow y.heap.size #[.int .i64 0, .int .i64 0, .int .i64 0, .int .i64 0, .int .i64 0, .int .i64 0, .int .i64 0, .slice none 0 0, .int .i64 0, .slice none 0 0, .slice none 0 0, .int .i64 0, .int .i64 0, .slice none 0 0, .int .i64 0, .int .u64 0, .int .u64 0, .int .i64 0, .slice none 0 0])).row #[.int .i64 0, .int .i64 0, .int .i64 0, .int .i64 0, .int .i64 0, .int .i64 0, .int .i64 0, .slice none 0 0, .int .i64 0, .slice none 0 0, .slice none 0 0, .int .i64 0, .int .i64 0, .slice none 0 0, .int .i64 0, .int .u64 0, .int .u64 0, .int .i64 0, .slice none 0 0]
  have HC6 := Lib.hid hc6
  have HC4 := Lib.hid hc4
  have HCY := Lib.hid hcy
  clear hc6 hc4 hcy hsz hn4
  go_wp2_with (first
    | (refine wpList_store_row rfl 51 _ _ rfl y.heap.size #[.int .i64 0, .int .i64 0, .int .i64 0, .int .i64 0, .int .i64 0, .int .i64 0, .int .i64 0, .slice none 0 0, .int .i64 0, .slice none 0 0, .slice none 0 0, .int .i64 0, .int .i64 0, .slice none 0 0, .int .i64 0, .int .u64 0, .int .u64 0, .int .i64 0, .slice none 0 0] rfl rfl _ _ hb6 size19 rfl (by simp [Value.oneCell']) ?_)
    | (refine wpList_load_row rfl 51 _ rfl y.heap.size rfl _ #[.int .i64 0, .int .i64 0, .int .i64 0, .int .i64 0, .int .i64 0, .int .i64 0, .int .i64 0, .slice none 0 0, .int .i64 0, .slice none 0 0, .slice none 0 0, .int .i64 0, .int .i64 0, .slice none 0 0, .int .i64 0, .int .u64 0, .int .u64 0, .int .i64 0, .slice none 0 0] _ _ hb6' Try.underlying51 rfl size19 ?_)
    | (refine wpList_store_row rfl 51 _ _ rfl n4 #[.int .i64 0, .int .i64 0, .int .i64 0, .int .i64 0, .int .i64 0, .int .i64 0, .int .i64 0, .slice none 0 0, .int .i64 0, .slice none 0 0, .slice none 0 0, .int .i64 0, .int .i64 0, .slice none 0 0, .int .i64 0, .int .u64 0, .int .u64 0, .int .i64 0, .slice none 0 0] rfl rfl _ _ hb4' size19 rfl (by simp [Value.oneCell']) ?_))
  (try simp only [Exit.inBlock, Exit.then])
  refine bodyPost_ret (results_cell_tmp (cs := #[.int .i64 0, .int .i64 0, .int .i64 0, .int .i64 0, .int .i64 0, .int .i64 0, .int .i64 0, .slice none 0 0, .int .i64 0, .slice none 0 0, .slice none 0 0, .int .i64 0, .int .i64 0, .slice none 0 0, .int .i64 0, .int .u64 0, .int .u64 0, .int .i64 0, .slice none 0 0]) rfl _ _ n4 _ _ _ rfl hzz Try.underlying51 rfl size19) rfl ?_
  have hn := HN4.out
  have h1 := HCA.out.size
  have h2 := HCY.out.size
  have h3 := HC6.out.size
  have h4 := hB'.size
  exact ⟨rfl, (HCA.out.below (B := w.heap.size) (by omega) (fun _ e => e.elim)).trans ((HCY.out.below (by omega) (fun _ e => e.elim)).trans ((HC6.out.below (by omega) (fun k e => by omega)).trans (HC4.out.below (by omega) (fun k e => by omega))))⟩

set_option maxRecDepth 100000 in
set_option maxHeartbeats 4000000 in
theorem net_take_yes (p : Nat) (F : Nat → Prop) (L : List MsgX) (i : Nat) (m : MsgX) (w : World) (h : NetV w p F L) (hm : L[i]? = some m) (hL : L.length ≤ 1000000) :
    Calls Try.prog 27 #[.pointer (some ⟨p, 0, none⟩), .int .i64 i] w fun e w' => ∃ cs, e = .returned (.tuple #[.agg cs.toArray, .bool true]) ∧ MsgV (fun k => w.heap.size ≤ k) w' cs m ∧ NetV w' p F (L.eraseIdx i) ∧ Chg F w w' := by
  obtain ⟨wa, hwa⟩ : ∃ wa, wa = w.alloc (.cells #[.int .i64 0, .int .i64 0, .int .i64 0, .int .i64 0, .int .i64 0, .int .i64 0, .int .i64 0, .slice none 0 0, .int .i64 0, .slice none 0 0, .slice none 0 0, .int .i64 0, .int .i64 0, .slice none 0 0, .int .i64 0, .int .u64 0, .int .u64 0, .int .i64 0, .slice none 0 0] 51 (0, 0)) := ⟨_, rfl⟩
  obtain ⟨n4, hn4⟩ : ∃ n4, n4 = w.heap.size := ⟨_, rfl⟩
  have HWA := Lib.hid hwa
  have HN4 := Lib.hid hn4
  have hca : Chg none_ w wa := by rw [hwa]; exact (Chg.refl none_ w).alloc _
  have hb4 : wa.heap[n4]? = some (.cells #[.int .i64 0, .int .i64 0, .int .i64 0, .int .i64 0, .int .i64 0, .int .i64 0, .int .i64 0, .slice none 0 0, .int .i64 0, .slice none 0 0, .slice none 0 0, .int .i64 0, .int .i64 0, .slice none 0 0, .int .i64 0, .int .u64 0, .int .u64 0, .int .i64 0, .slice none 0 0] 51 (0, 0)) := by rw [hwa]; exact alloc_new w _ _ hn4
  have hsza : wa.heap.size = n4 + 1 := by rw [hwa, hn4]; simp
  have HSZA := Lib.hid hsza
  have HB4 := Lib.hid hb4
  have HAT := Lib.hid (net_at_yes p F L i m wa (h.chg0 hca) hm)
  have HCA := Lib.hid hca
  obtain ⟨v, E, rfl, hN⟩ := h
  have hwf := hN.2.2.2.2.2.1
  have hNa := hN.chg hca (fun _ _ h => h)
  have h19 := hN.len19
  obtain ⟨_, h2, _⟩ := hN
  obtain ⟨a, cap, rfl, hcap, hcm, hl, ha⟩ := h2.open
  obtain ⟨hiL, _⟩ := List.getElem?_eq_some_iff.1 hm
  rw [List.length_map] at hiL hL
  rcases ha with ⟨_, h0, _⟩ | ⟨g, cs, rfl, hg, _, ht⟩
  · omega
  have HNA := Lib.hid hNa
  have H19 := Lib.hid h19
  have HWF := Lib.hid hwf
  have hwr : IntKind.i64.wrap ((i : Int) + 1) = (i : Int) + 1 := by rw [IntKind.wrap_i64]; omega
  clear hwa hn4 hb4 hca hNa h19 h2 hg ht hl hcap hcm hsza hm hwf
  have HiL := Lib.hid hiL
  have hiL1 : (i : Int) < (E.length : Int) := by omega
  go_enter Try.func27, Try.ntmps27
  go_upto_region 1 with fail
  rw [← HWA.out, ← HN4.out]
  go_wp2_with fail
  refine HAT.out.mono ?_
  rintro e y ⟨cs, rfl, hmv, hB'⟩
  have hone : cs.toArray.all (·.oneCell') = true := by rw [List.all_toArray]; exact List.all_eq_true.2 hmv.one
  have hcl : (Try.prog.info? 51).map (·.size) = some cs.toArray.size := size19.trans (congrArg some (by rw [List.size_toArray, hmv.length]))
  have hcz : (#[.int .i64 0, .int .i64 0, .int .i64 0, .int .i64 0, .int .i64 0, .int .i64 0, .int .i64 0, .slice none 0 0, .int .i64 0, .slice none 0 0, .slice none 0 0, .int .i64 0, .int .i64 0, .slice none 0 0, .int .i64 0, .int .u64 0, .int .u64 0, .int .i64 0, .slice none 0 0] : Array Value).size = cs.toArray.size := by show 19 = cs.toArray.size; rw [List.size_toArray, hmv.length]
  obtain ⟨n6, hn6⟩ : ∃ n6, n6 = y.heap.size := ⟨_, rfl⟩
  obtain ⟨ya, hya⟩ : ∃ ya, ya = y.alloc (.cells #[.int .i64 0, .int .i64 0, .int .i64 0, .int .i64 0, .int .i64 0, .int .i64 0, .int .i64 0, .slice none 0 0, .int .i64 0, .slice none 0 0, .slice none 0 0, .int .i64 0, .int .i64 0, .slice none 0 0, .int .i64 0, .int .u64 0, .int .u64 0, .int .i64 0, .slice none 0 0] 51 (0, 0)) := ⟨_, rfl⟩
  have hb6 : ya.heap[n6]? = some (.cells #[.int .i64 0, .int .i64 0, .int .i64 0, .int .i64 0, .int .i64 0, .int .i64 0, .int .i64 0, .slice none 0 0, .int .i64 0, .slice none 0 0, .slice none 0 0, .int .i64 0, .int .i64 0, .slice none 0 0, .int .i64 0, .int .u64 0, .int .u64 0, .int .i64 0, .slice none 0 0] 51 (0, 0)) := by rw [hya]; exact alloc_new y _ _ hn6
  have hcy0 : Chg none_ y ya := by rw [hya]; exact (Chg.refl none_ y).alloc _
  have hcy : Chg none_ wa ya := (Chg.of_below hB').trans hcy0
  have hsz := hB'.size
  have hsya : ya.heap.size = n6 + 1 := by rw [hya, hn6]; simp
  have hn4 := blk_lt HB4.out
  obtain ⟨yb, hyb⟩ : ∃ yb, yb = ya.setRow n6 cs.toArray := ⟨_, rfl⟩
  have hb6' : yb.heap[n6]? = some (.cells cs.toArray 51 (0, 0)) := by rw [hyb]; exact setRow_heap _ n6 _ cs.toArray _ _ hb6
  have hc6 : Chg (· = n6) ya yb := by rw [hyb]; exact (Chg.refl (· = n6) ya).row cs.toArray
  have hb4' := hc6.blk (hcy.blk HB4.out (fun h => h)) (by omega)
  have hcw : Chg none_ wa yb := hcy.step hc6 (fun k e => .inr (by omega))
  have hNy := HNA.out.chg hcw (fun _ _ h => h)
  have hmy : MsgV (fun k => wa.heap.size ≤ k ∧ k < n6) yb cs m := ((hmv.mono (S' := fun k => wa.heap.size ≤ k ∧ k < n6) (fun k hk hlt => ⟨hk, by omega⟩)).chg0 hcy0).chg hc6 (fun k hk e => by omega)
  have hgy : ∀ k, F k → k < n4 := fun k hk => by have := HWF.out k hk; have := HN4.out; omega
  have hpF := hNy.2.2.2.1
  have hgF := hNy.2.2.2.2.1 g rfl
  have hp4 := hgy p hpF
  have hg4 := hgy g hgF
  have hpg : p ≠ g := fun e => hNy.2.2.1 (by rw [e]; rfl)
  have c0 : yb.cell? ⟨p, 0, none⟩ = some (.slice (some ⟨g, 0, none⟩) E.length cap) := (cell_of_blk hNy.1 0).trans rfl
  have hn46 : n4 < n6 := by omega
  have HYA := Lib.hid hya
  have HYB := Lib.hid hyb
  have HN6 := Lib.hid hn6
  have HNY := Lib.hid hNy
  have HMY := Lib.hid hmy
  have HGY := Lib.hid hgy
  have HCW := Lib.hid hcw
  have HB6 := Lib.hid hb6'
  have HB4' := Lib.hid hb4'
  clear hya hyb hn6 hNy hmy hgy hcw hcy hcy0 hc6 hmv hB' hb6' hb4'
  go_wp2_with (first
    | (rw [← HYA.out, ← HN6.out]; refine wpList_store_row rfl 51 _ _ rfl n6 cs.toArray rfl rfl _ _ hb6 hcl hcz hone ?_; rw [← HYB.out]))
  refine (slices_delete g E.length cap i (flatM E) yb HNY.out.2.1 HiL.out hL (flatM_one E (fun e he => (HNY.out.2.2.2.2.2.2 e he).one))).mono ?_
  rintro e wd ⟨rfl, hod, hcd⟩
  rw [flatM_erase E H19.out i HiL.out] at hod
  have hpd := hcd.blk HNY.out.1 hpg
  have c0d : wd.cell? ⟨p, 0, none⟩ = some (.slice (some ⟨g, 0, none⟩) E.length cap) := (cell_of_blk hpd 0).trans rfl
  have f0d := frozen_of_blk hpd 0
  obtain ⟨we, hwe⟩ : ∃ we, we = wd.setCell ⟨p, 0, none⟩ (.slice (some ⟨g, 0, none⟩) (E.length - 1) cap) := ⟨_, rfl⟩
  have hce : Chg (· = p) wd we := by rw [hwe]; exact (Chg.refl (· = p) wd).put 0 _
  have hpe : we.heap[p]? = some (.cells #[.slice (some ⟨g, 0, none⟩) (E.length - 1) cap] 95 (0, 0)) := by rw [hwe]; exact setCell_same (i := 0) _ hpd
  have hs6 := blk_lt HB6.out
  have hb6e := hce.blk (hcd.blk HB6.out (by show ¬ (n6 = g); omega)) (by show ¬ (n6 = p); omega)
  have hb4e := hce.blk (hcd.blk HB4'.out (by show ¬ (n4 = g); omega)) (by show ¬ (n4 = p); omega)
  obtain ⟨wf, hwf⟩ : ∃ wf, wf = we.setRow n4 cs.toArray := ⟨_, rfl⟩
  have hcf : Chg (· = n4) we wf := by rw [hwf]; exact (Chg.refl (· = n4) we).row cs.toArray
  have hzz : wf.heap[n4]? = some (.cells cs.toArray 51 (0, 0)) := by rw [hwf]; exact setRow_heap _ n4 _ cs.toArray _ _ hb4e
  have HWE := Lib.hid hwe
  have HWFF := Lib.hid hwf
  have HOD := Lib.hid hod
  have HCE := Lib.hid hce
  have HCF := Lib.hid hcf
  have HPE := Lib.hid hpe
  have HCD := Lib.hid hcd
  clear hwe hwf hod hce hcf hpe hcd hpd c0
  go_wp2_with (first
    | (rw [← HWE.out]; refine wpList_load_row rfl 51 _ rfl n6 rfl _ cs.toArray _ _ hb6e Try.underlying51 rfl hcl ?_)
    | (refine wpList_store_row rfl 51 _ _ rfl n4 cs.toArray rfl rfl _ _ hb4e hcl hcz hone ?_; rw [← HWFF.out]))
  (try simp only [Exit.inBlock, Exit.then])
  refine bodyPost_ret (results_cell_tmp rfl _ _ n4 _ _ _ _ rfl hzz Try.underlying51 rfl hcl) rfl ?_
  have hn := HN4.out
  have hn6 := HN6.out
  have hsza := HSZA.out
  have hN := HNY.out
  have hmem : ∀ e ∈ E.eraseIdx i, e ∈ E := fun e he => List.mem_of_mem_eraseIdx he
  have hel : (E.eraseIdx i).length = E.length - 1 := by rw [List.length_eraseIdx, if_pos HiL.out]
  have h1 := HCW.out.size
  have h2 := HCD.out.size
  have h3 := HCE.out.size
  have h4 := HCF.out.size
  have h5 := HCA.out.size
  have hall : Chg F w wf := ((((((HCA.out.trans HCW.out).mono fun _ _ e => e.elim).step HCD.out (fun k e => .inl (by subst e; exact hgF))).step HCE.out (fun k e => .inl (by subst e; exact hpF)))).step HCF.out (fun k e => .inr (by omega)))
  refine ⟨cs, rfl, ?_, ⟨_, E.eraseIdx i, map_erase E i, HCF.out.blk HPE.out (by omega), ?_, hN.2.2.1, hpF, fun k hk => hN.2.2.2.2.1 k hk, fun k hk => ?_, fun e he => ?_⟩, hall⟩
  · refine (((HMY.out.chg HCD.out (fun k hk e => by omega)).chg HCE.out (fun k hk e => by omega)).chg HCF.out (fun k hk e => by omega)).mono (fun k hk _ => by omega)
  · rw [hel]
    refine (HOD.out.chg HCE.out (fun k hk e => ?_)).chg HCF.out (fun k hk e => ?_)
    · cases hk; exact hpg (show g = p from e).symm
    · cases hk; have e' : g = n4 := e; omega
  · have := HWF.out k hk; omega
  · refine (((hN.2.2.2.2.2.2 e (hmem e he)).chg HCD.out (fun k hk e => hk.2.2 (by rw [e]; rfl))).chg HCE.out (fun k hk e => hk.2.1 e)).chg HCF.out (fun k hk e => by have := HGY.out k hk.1; omega)
end Go.Proofs.Ytjllejlgclfahaa
