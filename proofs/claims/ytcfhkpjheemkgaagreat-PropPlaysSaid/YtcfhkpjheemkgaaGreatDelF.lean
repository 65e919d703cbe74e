/-
  slices.DeleteFunc of envelopes, over any closure.
-/
import Derived.Test.YtcfhkpjheemkgaaGreatIdx
namespace Go.Proofs.YtcfhkpjheemkgaaGreat
set_option linter.unusedSectionVars false
set_option linter.unnecessarySimpa false
set_option linter.unusedSimpArgs false
set_option linter.unusedVariables false
open Go.RowKit Go.MapKept

section
variable {P : Program} {w : World}
theorem zeroCells_one {cs : Array Value} {k : Nat} (h : ∀ v ∈ cs.toList, v.oneCell' = true) (h0 : 0 < cs.size) : ∀ v ∈ (Builtin.zeroCells cs k).toList, v.oneCell' = true := by
  intro v hv
  simp [Builtin.zeroCells] at hv
  obtain ⟨i, _, rfl⟩ := hv
  have hm := Nat.mod_lt i h0
  apply h
  rw [getElem!_pos cs _ hm]
  simp
theorem zeroCells_size (cs : Array Value) (k : Nat) : (Builtin.zeroCells cs k).toList.length = k * cs.size := by simp [Builtin.zeroCells]
theorem run_clear_many (w : World) (t e ty : TypeId) (z : Value) (k : Nat) (ht : P.underlying t = some (.slice e)) (hv : (zeroValue e).run P w = .ok z w) (hk : 0 < k) (h0 : 0 < z.cells.size) (h1 : ∀ v ∈ z.cells.toList, v.oneCell' = true) (b o c : Nat)
    (hc : ∀ j, j < k * z.cells.size → (w.cell? ⟨b, o + j, none⟩).isSome = true) (hf : ∀ j, j < k * z.cells.size → w.frozen? ⟨b, o + j, none⟩ = false) :
    (Builtin.clear_ #[t] ty #[.slice (some ⟨b, o, none⟩) k c]).run P w = .ok (.tuple #[]) (w.setCells b o (Builtin.zeroCells z.cells k).toList) := by
  have hst := run_storeCells_cells (P := P) b o (Builtin.zeroCells z.cells k).toList 0 w (by rw [zeroCells_size]; simpa using hc) (by rw [zeroCells_size]; simpa using hf) (zeroCells_one h1 h0)
  simp only [Nat.add_zero] at hst
  obtain ⟨k, rfl⟩ : ∃ k', k = k' + 1 := ⟨k - 1, by omega⟩
  simp [Builtin.clear_, run_underlying ht, hv, hst]
theorem wpList_store_at {ops : Array Oper} {rest : List Oper} {o : Oper} {a : Act} {Q : Exit → Act → World → Prop} (hgd : o.guard = none) (ty : TypeId) (x y : Operand) (ho : o.op = .store ty x y)
    (b off : Nat) (hx : a.eval x = .pointer (some ⟨b, off, none⟩)) (cs : List Value) (hy : a.eval y = .agg cs.toArray) (hi : (P.info? ty).map (·.size) = some cs.length)
    (hc : ∀ j, j < cs.length → (w.cell? ⟨b, off + j, none⟩).isSome = true) (hf : ∀ j, j < cs.length → w.frozen? ⟨b, off + j, none⟩ = false) (h1 : ∀ v ∈ cs, v.oneCell' = true)
    (h : wpList P ops Q rest (a.put o.dst undef) (w.setCells b off cs)) : wpList P ops Q (o :: rest) a w :=
  wpList_plain hgd fun K hK => by
    have hst := run_storeCells_cells (P := P) b off cs 0 w (by simpa using hc) (by simpa using hf) h1
    simp only [Nat.add_zero] at hst
    have hsv : (storeVar ty ⟨b, off, none⟩ (.agg cs.toArray)).run P w = .ok () (w.setCells b off cs) := by
      cases hq : P.info? ty with
      | none => simp [hq] at hi
      | some i =>
        have hs : i.size = cs.length := by simpa [hq] using hi
        simp [storeVar, Sem.run_bind, sizeOf, typeInfo, hq, hs, Value.cells, hst]
    unfold Oper.wp execOp
    simp only [ho, hx, hy, Instr.storeAt, Instr.sureAddr, Sem.run_bind, Sem.run_pure, Result.andThen_ok, hsv]
    exact hK _ _ h
end
section
variable {w w' : World} {m : Nat → Thing} {r : List Thing} {g n cap size E' : Nat} {xs vs : List Value} {E : List EnvX}
theorem Own.at_ (h : Own E' size w (.slice (some ⟨g, 0, none⟩) n cap) n xs) : ∀ (j : Nat) (u : Value), xs[j]? = some u → w.cell? ⟨g, j, none⟩ = some u ∧ w.frozen? ⟨g, j, none⟩ = false := by
  obtain ⟨_, _, e, hnc, hcm, hxl, ha⟩ := h.open
  cases e
  rcases ha with ⟨e, _⟩ | ⟨_, cs, e, hg, hcs, ht⟩
  · cases e
  · cases e
    intro j u hu
    have hj : j < n * size := by rw [← hxl]; exact (List.getElem?_eq_some_iff.1 hu).1
    exact ⟨own_cell hg ht hj hu, frozen_of_blk hg j⟩
theorem Own.setAt {off : Nat} (h : Own E' size w (.slice (some ⟨g, 0, none⟩) n cap) n xs) (hl : off + vs.length ≤ n * size) : Own E' size (w.setCells g off vs) (.slice (some ⟨g, 0, none⟩) n cap) n (xs.take off ++ vs ++ xs.drop (off + vs.length)) := by
  obtain ⟨_, _, e, hnc, hcm, hxl, ha⟩ := h.open
  cases e
  rcases ha with ⟨e, _⟩ | ⟨_, cs, e, hg, hcs, ht⟩
  · cases e
  · cases e
    have hle : n * size ≤ cap * size := Nat.mul_le_mul_right _ hnc
    refine ⟨by simp only [List.length_append, List.length_take, List.length_drop, hxl]; omega, .inr ⟨g, cap, _, rfl, Nat.zero_le _, setCells_blk g _ _ vs w off cs hg, hnc, hcm, by rw [setAll_size, hcs], ?_⟩⟩
    refine List.ext_getElem? fun j => ?_
    rw [List.getElem?_take]
    by_cases hj : j < n * size
    · rw [if_pos hj, Array.getElem?_toList]
      have hx : cs[j]? = xs[j]? := by rw [← ht, List.getElem?_take, if_pos hj, Array.getElem?_toList]
      by_cases h1 : j < off
      · rw [setAll_out _ _ _ _ (.inl h1), hx, List.append_assoc, List.getElem?_append_left (by rw [List.length_take, hxl]; omega), List.getElem?_take, if_pos h1]
      · by_cases h2 : j < off + vs.length
        · obtain ⟨k, rfl⟩ : ∃ k, j = off + k := ⟨j - off, by omega⟩
          rw [setAll_in _ _ _ _ (by omega) (by rw [hcs]; omega), List.append_assoc, List.getElem?_append_right (by rw [List.length_take, hxl]; omega), List.length_take, hxl, Nat.min_eq_left (by omega), List.getElem?_append_left (by omega)]
          congr 1; omega
        · rw [setAll_out _ _ _ _ (.inr (by omega)), hx, List.getElem?_append_right (by rw [List.length_append, List.length_take, hxl]; omega), List.length_append, List.length_take, hxl, Nat.min_eq_left (by omega), List.getElem?_drop]
          congr 1; omega
    · rw [if_neg hj]
      exact (List.getElem?_eq_none (by simp only [List.length_append, List.length_take, List.length_drop, hxl]; omega)).symm
theorem Own.shrink {k : Nat} (h : Own E' size w (.slice (some ⟨g, 0, none⟩) n cap) n xs) (hk : k ≤ n) : Own E' size w (.slice (some ⟨g, 0, none⟩) k cap) k (xs.take (k * size)) := by
  obtain ⟨_, _, e, hnc, hcm, hxl, ha⟩ := h.open
  cases e
  rcases ha with ⟨e, _⟩ | ⟨_, cs, e, hg, hcs, ht⟩
  · cases e
  · cases e
    have hle : k * size ≤ n * size := Nat.mul_le_mul_right _ hk
    exact ⟨by rw [List.length_take, hxl]; omega, .inr ⟨g, cap, cs, rfl, Nat.zero_le _, hg, by omega, hcm, hcs, by rw [← ht, List.take_take, Nat.min_eq_left hle]⟩⟩
theorem Own.envsAt {a : Option Addr} {k c : Nat} (h : Own 55 4 w (.slice a k c) n (flatE E)) : EnvsAt w a E := by
  obtain ⟨_, _, e, hnc, hcm, hxl, ha⟩ := h.open
  cases e
  rcases ha with ⟨_, h0, _⟩ | ⟨g, cs, rfl, hg, hcs, ht⟩
  · exact .inl (List.length_eq_zero_iff.1 (by rw [flatE_length] at hxl; omega))
  · refine .inr ⟨g, 0, rfl, fun i hi j u hu => ?_⟩
    have := (h.at_ _ _ (flatE_cells E i hi j u hu)).1
    rw [Nat.zero_add]; exact this
theorem flat_drop {j c : Nat} {u : Value} (h : xs.drop (j * 4) = flatE (E.drop j)) (hj : j < E.length) (hu : (E.getD j default).cells[c]? = some u) : xs[j * 4 + c]? = some u := by
  have h1 := flatE_cells (E.drop j) 0 (by rw [List.length_drop]; omega) c u (by
    have : (E.drop j).getD 0 default = E.getD j default := by simp [List.getD_eq_getElem?_getD]
    rw [this]; exact hu)
  rw [← h, List.getElem?_drop, Nat.zero_mul, Nat.zero_add] at h1
  exact h1
def DelRes (q : EnvX → Bool) (E : List EnvX) (M : Nat → (Nat → Thing) → Prop) (r : List Thing) (a : Option Addr) (cap k0 n : Nat) (e : Ending) (w' : World) : Prop :=
  e = .returned (.slice a (E.filter fun x => !q x).length cap) ∧ ∃ j m', j ≤ k0 + 2 * n ∧ M j m' ∧ Sys w' m' (own 55 4 (.slice a (E.filter fun x => !q x).length cap) (E.filter fun x => !q x).length (flatE (E.filter fun x => !q x)) :: r)
def DelInv (q : EnvX → Bool) (E : List EnvX) (j k : Nat) (xs : List Value) : Prop := xs.length = E.length * 4 ∧ k = ((E.take j).filter fun x => !q x).length ∧ xs.take (k * 4) = flatE ((E.take j).filter fun x => !q x) ∧ xs.drop (j * 4) = flatE (E.drop j) ∧ k < j ∧ j ≤ E.length
theorem filter_take_snoc (q : EnvX → Bool) {j : Nat} (hj : j < E.length) : (E.take (j + 1)).filter (fun x => !q x) = (E.take j).filter (fun x => !q x) ++ (if q (E.getD j default) then [] else [E.getD j default]) := by
  rw [List.take_succ_eq_append_getElem hj, List.filter_append, List.getD_eq_getElem?_getD, List.getElem?_eq_getElem hj]
  simp only [Option.getD_some, List.filter_cons, List.filter_nil]
  cases q E[j] <;> simp
theorem flatE_split (E : List EnvX) (j : Nat) : flatE E = flatE (E.take j) ++ flatE (E.drop j) := by
  have h : flatE (E.take j ++ E.drop j) = flatE (E.take j) ++ flatE (E.drop j) := by unfold flatE; rw [List.flatMap_append]
  rwa [List.take_append_drop] at h
theorem zeroEnvV (w : World) : (zeroValue 55).run Tryz.prog w = .ok (.agg #[.int .i64 0, .int .u64 0, .int .u64 0, .int .i64 0]) w := by kernel_rfl
theorem Chg.own (h : Chg (· = g) w w') : Chg (fun k => (Value.slice (some ⟨g, 0, none⟩) n cap).ownBlock = some k) w w' := ⟨h.os, h.tape, h.output, h.size, fun k hk hs => h.block k hk (fun e => hs (by rw [e]; rfl))⟩
theorem DelInv.start {q : EnvX → Bool} {j : Nat} (hj : j < E.length) (hq : q (E.getD j default) = true) (hb : ∀ i, i < j → q (E.getD i default) = false) : DelInv q E (j + 1) j (flatE E) := by
  have hf : ∀ i, i ≤ j → (E.take i).filter (fun x => !q x) = E.take i := by
    intro i hi
    rw [List.filter_eq_self]
    intro x hx
    obtain ⟨k, hk, rfl⟩ := List.getElem_of_mem hx
    rw [List.length_take] at hk
    have := hb k (by omega)
    rw [List.getD_eq_getElem?_getD, List.getElem?_eq_getElem (by omega)] at this
    simp only [List.getElem_take]
    simpa using this
  have h2 := filter_take_snoc q hj
  rw [hf j (Nat.le_refl _), hq, if_pos rfl, List.append_nil] at h2
  have hl : (E.take j).length = j := by rw [List.length_take]; omega
  refine ⟨flatE_length E, by rw [h2, hl], ?_, ?_, Nat.lt_succ_self j, hj⟩
  · rw [h2]
    have : flatE E = flatE (E.take j) ++ flatE (E.drop j) := flatE_split E j
    rw [this, List.take_append_of_le_length (by rw [flatE_length, hl]; exact Nat.le_refl _), List.take_of_length_le (by rw [flatE_length, hl]; exact Nat.le_refl _)]
  · have : flatE E = flatE (E.take (j + 1)) ++ flatE (E.drop (j + 1)) := flatE_split E (j + 1)
    have hl1 : (flatE (E.take (j + 1))).length = (j + 1) * 4 := by rw [flatE_length, List.length_take]; omega
    rw [this, ← hl1, List.drop_left]
theorem DelInv.drop {q : EnvX → Bool} {j k : Nat} (h : DelInv q E j k xs) (hj : j < E.length) (hq : q (E.getD j default) = true) : DelInv q E (j + 1) k xs := by
  obtain ⟨h1, h2, h3, h4, h5, h6⟩ := h
  have hf := filter_take_snoc q hj
  rw [hq, if_pos rfl, List.append_nil] at hf
  refine ⟨h1, by rw [hf]; exact h2, by rw [hf]; exact h3, ?_, by omega, hj⟩
  have : flatE (E.drop j) = (E.getD j default).cells ++ flatE (E.drop (j + 1)) := by
    rw [List.drop_eq_getElem_cons hj, List.getD_eq_getElem?_getD, List.getElem?_eq_getElem hj]; rfl
  rw [this] at h4
  rw [show (j + 1) * 4 = j * 4 + 4 by omega, ← List.drop_drop, h4]
  rfl
theorem DelInv.keep {q : EnvX → Bool} {j k : Nat} (h : DelInv q E j k xs) (hj : j < E.length) (hq : q (E.getD j default) = false) : DelInv q E (j + 1) (k + 1) (xs.take (k * 4) ++ (E.getD j default).cells ++ xs.drop (k * 4 + 4)) := by
  obtain ⟨h1, h2, h3, h4, h5, h6⟩ := h
  have hf := filter_take_snoc q hj
  rw [hq, if_neg (by simp)] at hf
  have hc : (E.getD j default).cells.length = 4 := rfl
  have ht : (xs.take (k * 4)).length = k * 4 := by rw [List.length_take, h1]; omega
  refine ⟨?_, by rw [hf, List.length_append, ← h2]; rfl, ?_, ?_, by omega, hj⟩
  · simp only [List.length_append, ht, hc, List.length_drop, h1]; omega
  · rw [hf, List.take_append_of_le_length (by rw [List.length_append, ht, hc]; omega), List.take_of_length_le (by rw [List.length_append, ht, hc]; omega), h3]
    simp [flatE]
  · have hd : flatE (E.drop j) = (E.getD j default).cells ++ flatE (E.drop (j + 1)) := by
      rw [List.drop_eq_getElem_cons hj, List.getD_eq_getElem?_getD, List.getElem?_eq_getElem hj]; rfl
    rw [hd] at h4
    have e1 : xs.drop ((j + 1) * 4) = flatE (E.drop (j + 1)) := by rw [show (j + 1) * 4 = j * 4 + 4 by omega, ← List.drop_drop, h4]; rfl
    have hal : (xs.take (k * 4) ++ (E.getD j default).cells).length = (k + 1) * 4 := by rw [List.length_append, ht, hc]; omega
    rw [show (j + 1) * 4 = (xs.take (k * 4) ++ (E.getD j default).cells).length + ((j - k) * 4) by rw [hal]; omega, List.drop_append, List.drop_drop]
    rw [← e1]
    simp only [Nat.add_sub_cancel_left, List.drop_eq_nil_of_le (Nat.le_add_right _ _), List.nil_append]
    congr 1; omega
theorem DelInv.end_ {q : EnvX → Bool} {k : Nat} (h : DelInv q E E.length k xs) : k = (E.filter fun x => !q x).length ∧ xs.take (k * 4) = flatE (E.filter fun x => !q x) ∧ k < E.length := by
  obtain ⟨h1, h2, h3, h4, h5, h6⟩ := h
  rw [List.take_of_length_le (Nat.le_refl _)] at h2 h3
  exact ⟨h2, h3, h5⟩
set_option maxRecDepth 100000 in
set_option maxHeartbeats 4000000 in
theorem env_delfunc2 (fn : Nat) (hfn : ∀ (zs : Array Value) (x : World), (callFunc fn zs).run Tryz.prog x = .ok (.enter fn zs) x) (c1 c2 : Value) (q : EnvX → Bool) (E : List EnvX) (a : Option Addr) (cap n : Nat) (HN : Hid (E.length = n)) (hn : n ≤ 1000000) (M : Nat → (Nat → Thing) → Prop) (k0 : Nat)
    (HF : ∀ e ∈ E, ∀ j w ts m', j < k0 + 2 * n → M j m' → Sys w m' (ts ++ r) → Calls Tryz.prog fn #[.agg #[.int .i64 e.client, .int .u64 e.nonce, .int .u64 e.fee, .int .i64 e.cipher], c1, c2] w fun r' w' => r' = .returned (.bool (q e)) ∧ ∃ m'', M (j + 1) m'' ∧ Sys w' m'' (ts ++ r)) (hM : M k0 m) (h : Sys w m (own 55 4 (.slice a n cap) n (flatE E) :: r)) :
    Calls Tryz.prog 68 #[.slice a n cap, .func (.func fn) #[] #[c1, c2]] w (DelRes q E M r a cap k0 n) := by
  have HIX := Lib.hid (env_index2 fn hfn c1 c2 q E a cap n HN hn (fun j w => ∃ m', M j m' ∧ Sys w m' (own 55 4 (.slice a n cap) n (flatE E) :: r)) k0 (fun j w ⟨m', _, hs⟩ => hs.getOwn.envsAt) (fun e he j w hj ⟨m', hm', hs⟩ => (HF e he j w [own 55 4 (.slice a n cap) n (flatE E)] m' (by omega) hm' hs).mono fun _ _ ⟨h1, m'', h2, h3⟩ => ⟨h1, m'', h2, h3⟩) ⟨m, hM, h⟩)
  have HF := Lib.hid HF
  clear h hM
  go_enter Tryz.func68, Tryz.ntmps68
  go_wp2_with fail
  refine HIX.out.mono ?_
  rintro e w1 ⟨rfl, j1, hj1, m1, hm1, h1⟩
  rw [HN.out] at hj1
  have H1 := Lib.hid h1
  have HM1 := Lib.hid hm1
  clear h1 HIX hm1
  cases hx : E.findIdx? q with
  | none =>
    have HI : Hid (idxI q E = -1) := by show _ = _; unfold idxI; rw [hx]
    rw [HI.out]
    have HE : Hid ((E.filter fun x => !q x) = E) := by
      show _ = _
      rw [List.filter_eq_self]
      intro x hm
      rw [List.findIdx?_eq_none_iff] at hx
      simp [hx x hm]
    clear hx
    go_wp2_with fail
    go_ret
    unfold DelRes
    rw [HE.out, HN.out]
    exact ⟨rfl, _, m1, by omega, HM1.out, H1.out⟩
  | some i0 =>
    rw [List.findIdx?_eq_some_iff_getElem] at hx
    obtain ⟨hi0, hq0, hb0⟩ := hx
    have hgd : ∀ i, (hi : i < E.length) → E.getD i default = E[i] := fun i hi => by rw [List.getD_eq_getElem?_getD, List.getElem?_eq_getElem hi]; rfl
    have hb : ∀ i, i < i0 → q (E.getD i default) = false := fun i hi => by rw [hgd i (by omega)]; simpa using hb0 i hi
    have hq : q (E.getD i0 default) = true := by rw [hgd i0 hi0]; exact hq0
    have HI : Hid (idxI q E = (i0 : Int)) := idx_found hi0 hq hb
    have HD0 := Lib.hid (DelInv.start hi0 hq hb)
    rw [HI.out]
    obtain ⟨g, rfl⟩ : ∃ g, a = some ⟨g, 0, none⟩ := by
      obtain ⟨_, _, e, hnc, hcm, hxl, ha⟩ := H1.out.getOwn.open
      cases e
      rcases ha with ⟨_, h0, _⟩ | ⟨g, cs, rfl, hg, hcs, ht⟩
      · have := HN.out; omega
      · exact ⟨g, rfl⟩
    have hin : i0 < n := by rw [← HN.out]; exact hi0
    have hne : ((i0 : Int) == -1) = false := by simp
    have hwi : IntKind.i64.wrap ((i0 : Int) + 1) = (i0 : Int) + 1 := by rw [IntKind.wrap_i64]; omega
    clear hi0 hq0 hb0 hgd hb hq
    go_wp2_with fail
    go_loopw [5, 6] (fun i j' wr => ∃ (j k : Nat) (xs : List Value) (jm : Nat) (m' : Nat → Thing), j ≤ n ∧ i = .int .i64 k ∧ j' = .int .i64 j ∧ Hid (DelInv q E j k xs) ∧ Hid (M jm m') ∧ Hid (jm ≤ k0 + n + j) ∧ Sys wr m' (own 55 4 (.slice (some ⟨g, 0, none⟩) n cap) n xs :: r)) (fun _ j' _ => n - (intOf j').toNat)
    case atStart => exact ⟨i0 + 1, i0, flatE E, _, m1, by omega, rfl, by go_num, HD0.out, HM1.out, (by show _ ≤ _; omega), H1.out⟩
    case round =>
      obtain ⟨j, k, xs, jm, m', hj, rfl, rfl, HD, HM, HJ, hR⟩ := hrel
      by_cases hlt : j < n
      · have hjl : (j : Int) < (n : Int) := by omega
        have hjE : j < E.length := by rw [HN.out]; exact hlt
        have hw1 : IntKind.i64.wrap ((j : Int) + 1) = (j : Int) + 1 := by rw [IntKind.wrap_i64]; omega
        have hkj : k < j := HD.out.2.2.2.2.1
        have hkl : (k : Int) < (n : Int) := by omega
        have hw2 : IntKind.i64.wrap ((k : Int) + 1) = (k : Int) + 1 := by rw [IntKind.wrap_i64]; omega
        obtain ⟨x, hx⟩ : ∃ x, x = E.getD j default := ⟨_, rfl⟩
        have HX : Hid (x ∈ E) := by show _ ∈ _; rw [hx, List.getD_eq_getElem?_getD, List.getElem?_eq_getElem hjE]; exact List.getElem_mem hjE
        have HCE : Hid (∀ (c : Nat) (u : Value), ([.int .i64 x.client, .int .u64 x.nonce, .int .u64 x.fee, .int .i64 x.cipher] : List Value)[c]? = some u → wr.cell? ⟨g, j * 4 + c, none⟩ = some u) := fun c u hu => (hR.getOwn.at_ _ _ (flat_drop HD.out.2.2.2.1 hjE (by rw [← hx]; exact hu))).1
        have HXE := Lib.hid hx
        obtain ⟨ne, y1, EN3, EX3, ES3, H3⟩ := hR.box (.cells #[.int .i64 x.client, .int .u64 x.nonce, .int .u64 x.fee, .int .i64 x.cipher] 55 (0, 0))
        have HJE := Lib.hid hjE
        clear hR hx hjE
        go_upto_region 8 with (refine wpList_load_at rfl 55 _ rfl g (j * 4) rfl [.int .i64 x.client, .int .u64 x.nonce, .int .u64 x.fee, .int .i64 x.cipher] _ HCE.out Tryz.underlying55 rfl size4 ?_)
        rw [EX3.out, EN3.out]
        have hbe := H3.out.nth 0 rfl
        go_wp2_with (refine wpList_load_row rfl 55 _ rfl ne rfl _ _ _ _ hbe Tryz.underlying55 rfl size4 ?_)
        refine (HF.out x HX.out jm y1 [blk ne (.cells #[.int .i64 x.client, .int .u64 x.nonce, .int .u64 x.fee, .int .i64 x.cipher] 55 (0, 0)), own 55 4 (.slice (some ⟨g, 0, none⟩) n cap) n xs] m' (by have := HJ.out; omega) HM.out H3.out).mono ?_
        rintro e y2 ⟨rfl, m2, hm2, h2⟩
        have H4 : Hid (Sys y2 m2 (blk ne (.cells #[.int .i64 x.client, .int .u64 x.nonce, .int .u64 x.fee, .int .i64 x.cipher] 55 (0, 0)) :: own 55 4 (.slice (some ⟨g, 0, none⟩) n cap) n xs :: r)) := h2
        have HM2 := Lib.hid hm2
        clear h2 hbe hm2 HCE
        cases hq : q x with
        | true =>
          have HDN := Lib.hid (HD.out.drop HJE.out (by rw [← HXE.out]; exact hq))
          clear hq
          go_wp2_with fail
          go_roundw
          case rel => exact ⟨j + 1, k, xs, jm + 1, m2, by omega, rfl, by go_num, HDN.out, HM2.out, (by have := HJ.out; show _ ≤ _; omega), H4.out.tail⟩
          case measure => simp [intOf]; omega
        | false =>
          have hbe := H4.out.nth 0 rfl
          have HDN := Lib.hid (HD.out.keep HJE.out (by rw [← HXE.out]; exact hq))
          have hxl : xs.length = n * 4 := by rw [HD.out.1, HN.out]
          have hcs : ∀ c, c < ([.int .i64 x.client, .int .u64 x.nonce, .int .u64 x.fee, .int .i64 x.cipher] : List Value).length → (y2.cell? ⟨g, k * 4 + c, none⟩).isSome = true := fun c hc => by
            have hc4 : c < 4 := hc
            rw [(H4.out.tail.getOwn.at_ (k * 4 + c) _ (List.getElem?_eq_getElem (by omega))).1]; rfl
          have hfs : ∀ c, c < ([.int .i64 x.client, .int .u64 x.nonce, .int .u64 x.fee, .int .i64 x.cipher] : List Value).length → y2.frozen? ⟨g, k * 4 + c, none⟩ = false := fun c hc => by
            have hc4 : c < 4 := hc
            exact (H4.out.tail.getOwn.at_ (k * 4 + c) _ (List.getElem?_eq_getElem (by omega))).2
          have ho2 := H4.out.tail.getOwn.setAt (vs := [.int .i64 x.client, .int .u64 x.nonce, .int .u64 x.fee, .int .i64 x.cipher]) (off := k * 4) (by show k * 4 + 4 ≤ _; omega)
          obtain ⟨y3, hy3⟩ : ∃ y, y = y2.setCells g (k * 4) [.int .i64 x.client, .int .u64 x.nonce, .int .u64 x.fee, .int .i64 x.cipher] := ⟨_, rfl⟩
          have h5 := H4.out.swap.ownTo (by rw [← hy3] at ho2; exact ho2) (by rw [hy3]; exact (Chg.cells _ _ ((Chg.refl (· = g) y2))).own) (.inl rfl)
          rw [← HXE.out] at HDN
          have H5 : Hid (Sys y3 m2 (own 55 4 (.slice (some ⟨g, 0, none⟩) n cap) n (xs.take (k * 4) ++ x.cells ++ xs.drop (k * 4 + 4)) :: blk ne (.cells #[.int .i64 x.client, .int .u64 x.nonce, .int .u64 x.fee, .int .i64 x.cipher] 55 (0, 0)) :: r)) := h5
          have HCS := Lib.hid hcs
          have HFS := Lib.hid hfs
          have HY3 := Lib.hid hy3
          clear hq ho2 h5 hcs hfs hxl hy3
          go_upto_region 9 with fail
          go_wp2_with (first | (refine wpList_load_row rfl 55 _ rfl ne rfl _ _ _ _ hbe Tryz.underlying55 rfl size4 ?_) | (refine wpList_store_at rfl 55 _ _ rfl g (k * 4) rfl [.int .i64 x.client, .int .u64 x.nonce, .int .u64 x.fee, .int .i64 x.cipher] rfl size4 HCS.out HFS.out (by intro v hv; simp at hv; rcases hv with rfl | rfl | rfl | rfl <;> rfl) ?_; rw [← HY3.out]; clear hbe))
          go_roundw
          case rel => exact ⟨j + 1, k + 1, _, jm + 1, m2, by omega, by go_num, by go_num, HDN.out, HM2.out, (by have := HJ.out; show _ ≤ _; omega), H5.out.swap.tail⟩
          case measure => simp [intOf]; omega
      · obtain rfl : j = n := by omega
        have hd := HD.out
        rw [← HN.out] at hd
        obtain ⟨hk1, hk2, hk3⟩ := hd.end_
        have hkn : k < j := by rw [← HN.out]; exact hk3
        have hxl : xs.length = j * 4 := by rw [hd.1, HN.out]
        have hsz : (Value.agg #[.int .i64 0, .int .u64 0, .int .u64 0, .int .i64 0]).cells.size = 4 := rfl
        have hclr := run_clear_many (P := Tryz.prog) wr 39 55 0 (.agg #[.int .i64 0, .int .u64 0, .int .u64 0, .int .i64 0]) (j - k) Tryz.underlying39 (zeroEnvV wr) (by omega) (by decide) (by intro v hv; simp [Value.cells] at hv; rcases hv with rfl | rfl | rfl <;> rfl) g (k * 4) (cap - k)
          (fun c hc => by rw [hsz] at hc; rw [(hR.getOwn.at_ (k * 4 + c) _ (List.getElem?_eq_getElem (by omega))).1]; rfl) (fun c hc => by rw [hsz] at hc; exact (hR.getOwn.at_ (k * 4 + c) _ (List.getElem?_eq_getElem (by omega))).2)
        obtain ⟨y3, hy3⟩ : ∃ y, y = wr.setCells g (k * 4) (Builtin.zeroCells (Value.agg #[.int .i64 0, .int .u64 0, .int .u64 0, .int .i64 0]).cells (j - k)).toList := ⟨_, rfl⟩
        have hzl := zeroCells_size (Value.agg #[.int .i64 0, .int .u64 0, .int .u64 0, .int .i64 0]).cells (j - k)
        rw [hsz] at hzl
        have ho2 := (hR.getOwn.setAt (vs := (Builtin.zeroCells (Value.agg #[.int .i64 0, .int .u64 0, .int .u64 0, .int .i64 0]).cells (j - k)).toList) (off := k * 4) (by rw [hzl]; omega)).shrink (k := k) (by omega)
        rw [List.append_assoc, List.take_append_of_le_length (by rw [List.length_take, hxl]; omega), List.take_of_length_le (by rw [List.length_take]; omega), hk2] at ho2
        rw [← hy3] at hclr ho2
        have h5 := hR.ownTo ho2 (by rw [hy3]; exact (Chg.cells _ _ ((Chg.refl (· = g) wr))).own) (.inl rfl)
        have H5 := Lib.hid h5
        have HK1 := Lib.hid hk1
        have hcap : j ≤ cap := by
          obtain ⟨_, _, e, hnc, _⟩ := hR.getOwn.open
          cases e
          exact hnc
        have hkl : (k : Int) ≤ (j : Int) := by omega
        clear hR h5 ho2 hzl hk1 hk2 hk3 hd hxl hy3 hsz
        go_wp2_with fail
        go_ret
        refine ⟨by rw [← HK1.out]; rfl, jm, m', by have := HJ.out; omega, HM.out, ?_⟩
        rw [← HK1.out]
        exact H5.out
end
end Go.Proofs.YtcfhkpjheemkgaaGreat
