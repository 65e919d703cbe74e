/-
  An argument that is read: its rows of numbers, of envelopes.
-/
import Derived.Test.YtcfhkpjheemkgaaMessAll
import Derived.Deep.Slices
import Derived.ProofKit
import Derived.OpenShut
import Derived.ChangeOld
import Derived.SizedLaws
namespace Go.Proofs.Ytcfhkpjheemkgaa
set_option linter.unusedSectionVars false
set_option linter.unnecessarySimpa false
set_option linter.unusedSimpArgs false
set_option linter.unusedVariables false
open Go.RowKit Go.ChangeShapes Go.WideShapes

instance : Inhabited BlkX := ⟨⟨0, 0, 0, 0, [], []⟩⟩
instance : Inhabited Value := ⟨.bool false⟩
/-- A slice that is read: its cells, not frozen. -/
def RawSl (w : World) (v : Value) (n : Nat) (xs : List Value) : Prop :=
  ∃ a cap, v = .slice a n cap ∧ Src w a xs ∧ (∀ b off, a = some ⟨b, off, none⟩ → xs ≠ [] → b < w.heap.size) ∧ (a = none → n = 0) ∧ n ≤ maxLen ∧ n ≤ cap
theorem RawSl.sliceIn {w : World} {v : Value} {n : Nat} {xs : List Value} (h : RawSl w v n xs) (hn : n ≤ 2000000) : SliceIn (fun _ => True) w v n xs := by
  obtain ⟨a, c, e, h1, h2, h3, _⟩ := h
  exact ⟨a, c, e, h1, fun b off e hx => ⟨trivial, h2 b off e hx⟩, h3, hn⟩
theorem spot_none {w : World} {b off s : Nat} {v : Value} (h : w.cell? ⟨b, off, some s⟩ = some v) : False := by
  simp [World.cell?] at h
  split at h <;> cases h
theorem addr_addA (b off i : Nat) : (⟨b, off, none⟩ : Addr).add i = ⟨b, off + i, none⟩ := by unfold Addr.add; split <;> simp_all
theorem bulkAll_len {H : Type} : ∀ l : List (DataW H), l.length ≤ Rows.uptoBulkAll l
  | [] => Nat.le_refl _
  | d :: r => by
    have h1 := bulkAll_len r
    have h2 : 1 ≤ Rows.uptoBulk d := by
      cases d with
      | lit x => cases x <;> simp [Rows.uptoBulk]
      | _ => simp [Rows.uptoBulk]
    simp only [Rows.uptoBulkAll, List.length_cons]
    omega
section
variable {H : Type} {enc : TypeId × Value → H} {W : World}
theorem arg_ints {fuel : Nat} {cs : List Value} {x : DataW H × List MemPlace} (h : DataW.trod enc Try.prog W 0 (fun _ => true) true fuel 23 cs = some x) (hf : W.noneFrozen x.2) :
    ∃ (v : Value) (L : List Int), cs = [v] ∧ RawSl W v L.length (L.map (Value.int .i64)) ∧ L.length ≤ Rows.uptoBulk x.1 := by
  rcases open_ints Try.underlying23 Try.underlying3 (by kernel_rfl) h with ⟨hcs, _⟩ | ⟨a, len, c, zs, hcs, _, hl, hm, hzl, hx, hcell, _⟩
  · exact ⟨_, [], hcs, ⟨none, 0, rfl, .inl rfl, fun _ _ e => (by cases e), fun _ => rfl, Nat.zero_le _, Nat.le_refl _⟩, Nat.zero_le _⟩
  · have hzc : zs.length = c := by simpa using hzl
    have hL : (zs.take len).length = len := by rw [List.length_take]; omega
    refine ⟨_, zs.take len, hcs, ?_, ?_⟩
    · rw [hL]
      obtain ⟨b, off, sp⟩ := a
      cases sp with
      | some s =>
        have h0 : len = 0 := by
          rcases Nat.eq_zero_or_pos len with h | h
          · exact h
          · exact (spot_none (by simpa [Addr.add] using hcell 0 (by omega))).elim
        subst h0
        exact ⟨_, c, rfl, .inl (by simp), fun _ _ e => (by cases e), fun e => (by cases e), Nat.zero_le _, Nat.zero_le _⟩
      | none =>
        refine ⟨_, c, rfl, .inr ⟨b, off, rfl, fun j u hu => ?_⟩, fun b' off' e hne => ?_, fun e => (by cases e), by omega, by omega⟩
        · have hj : j < len := by
            have := (List.getElem?_eq_some_iff.1 hu).1
            rw [List.length_map, hL] at this
            exact this
          have h1 := hcell j (by omega)
          rw [addr_addA] at h1
          rw [List.getElem?_map, List.getElem?_take, if_pos hj, List.getElem?_eq_getElem (by omega)] at hu
          rw [List.getD_eq_getElem?_getD, List.getElem?_eq_getElem (by omega)] at h1
          refine ⟨h1.trans hu, hf b (off + j) ?_⟩
          rw [hx]
          exact List.mem_map.2 ⟨j, List.mem_range.2 (by omega), rfl⟩
        · cases e
          have hlen : 0 < len := by
            rcases Nat.eq_zero_or_pos len with h | h
            · subst h; simp at hne
            · exact h
          exact World.block_lt_of_cell? _ _ (by have := hcell 0 (by omega); rw [addr_addA] at this; exact this)
    · rw [hx, hL]
      show len ≤ Rows.uptoBulkAll _ + Rows.uptoBulkAll _ + 1
      have := bulkAll_len (lits (H := H) .i64 (zs.take len))
      rw [show (lits (H := H) .i64 (zs.take len)).length = len by simp [lits]; omega] at this
      omega
theorem bulkAll_append {H : Type} (a b : List (DataW H)) : Rows.uptoBulkAll (a ++ b) = Rows.uptoBulkAll a + Rows.uptoBulkAll b := by
  induction a with
  | nil => simp [Rows.uptoBulkAll]
  | cons d a ih => simp only [List.cons_append, Rows.uptoBulkAll, ih]; omega
theorem bulkAll_range (D : Nat → DataW H) (f : Nat → Nat) : ∀ n, (∀ i, i < n → f i ≤ Rows.uptoBulk (D i)) → ((List.range n).map f).sum ≤ Rows.uptoBulkAll ((List.range n).map D)
  | 0, _ => by simp [Rows.uptoBulkAll]
  | n + 1, h => by
    have h1 := bulkAll_range D f n (fun i hi => h i (by omega))
    have h2 := h n (by omega)
    rw [List.range_succ, List.map_append, List.map_append, List.sum_append, bulkAll_append]
    simp only [List.map_cons, List.map_nil, List.sum_cons, List.sum_nil, Rows.uptoBulkAll]
    omega
theorem flat_at {α : Type} (cells : α → List Value) (size : Nat) (hs : 0 < size) (hl : ∀ a, (cells a).length = size) : ∀ (L : List α) (j : Nat) (u : Value), (L.flatMap cells)[j]? = some u → ∃ (i k : Nat) (h : i < L.length), j = i * size + k ∧ k < size ∧ (cells L[i])[k]? = some u
  | [], j, u, h => by simp at h
  | a :: L, j, u, h => by
    rw [List.flatMap_cons] at h
    by_cases hj : j < size
    · rw [List.getElem?_append_left (by rw [hl]; exact hj)] at h
      exact ⟨0, j, by simp, by omega, hj, h⟩
    · rw [List.getElem?_append_right (by rw [hl]; omega), hl] at h
      obtain ⟨i, k, hi, e, hk, h2⟩ := flat_at cells size hs hl L _ _ h
      exact ⟨i + 1, k, by simp; omega, by rw [Nat.add_mul]; omega, hk, h2⟩
/-- A row of structs that is read. -/
theorem arg_row {T E : TypeId} {size : Nat} {α : Type} [Inhabited α] (cells : α → List Value) (ht : Try.prog.underlying T = some (.slice E)) (hce : Try.prog.cellsOf E = size) (hs : 0 < size) (hl : ∀ a, (cells a).length = size) (Q : α → Prop) (wt : α → Nat)
    (hel : ∀ (n : Nat) (cs' : List Value) (y : DataW H × List MemPlace), DataW.trod enc Try.prog W 0 (fun _ => true) true n E cs' = some y → W.noneFrozen y.2 → ∃ a, cs' = cells a ∧ Q a ∧ wt a ≤ Rows.uptoBulk y.1)
    {fuel : Nat} {cs : List Value} {x : DataW H × List MemPlace} (h : DataW.trod enc Try.prog W 0 (fun _ => true) true fuel T cs = some x) (hf : W.noneFrozen x.2) :
    ∃ (v : Value) (L : List α), cs = [v] ∧ RawSl W v L.length (L.flatMap cells) ∧ (∀ a ∈ L, Q a) ∧ (L.map wt).sum ≤ Rows.uptoBulk x.1 := by
  rcases Deep.open_slice ht h with ⟨hcs, _⟩ | ⟨a, len, c, m, n, D, Pl, hcs, _, hlc, hm, hmm, hdd, hx⟩
  · exact ⟨_, [], hcs, ⟨none, 0, rfl, .inl rfl, fun _ _ e => (by cases e), fun _ => rfl, Nat.zero_le _, Nat.le_refl _⟩, fun _ h => (by cases h), Nat.zero_le _⟩
  · have hmc : m = c := by rw [hmm]; rfl
    subst hmc
    have hpl : ∀ i, i < m → W.noneFrozen (Pl i) := fun i hi b off hm => hf b off (by
      rw [hdd]
      exact List.mem_append_right _ (List.mem_flatMap.2 ⟨i, List.mem_range.2 hi, hm⟩))
    have hrow : ∀ j, j < m * size → W.frozen? ⟨a.block, a.off + j, none⟩ = false := fun j hj => hf _ _ (by
      rw [hdd, hce]
      exact List.mem_append_left _ (List.mem_map.2 ⟨j, List.mem_range.2 hj, rfl⟩))
    obtain ⟨f, hfp⟩ := Deep.choose_lt (n := len) (p := fun i (e : α) => (∀ k u, (cells e)[k]? = some u → W.cell? (a.add (i * size + k)) = some u) ∧ Q e ∧ wt e ≤ Rows.uptoBulk (D i)) (fun i hi => by
      obtain ⟨cs', h1, h2⟩ := hx i (by omega)
      rw [hce] at h1
      obtain ⟨_, hlen, hcell⟩ := World.cells?_some h1
      obtain ⟨e, rfl, hq, hw⟩ := hel n cs' _ h2 (hpl i (by omega))
      refine ⟨e, fun k u hu => ?_, hq, hw⟩
      have hk : k < size := by have := (List.getElem?_eq_some_iff.1 hu).1; rw [hl] at this; exact this
      have h3 := hcell k (by omega)
      rw [Deep.add_add] at h3
      rw [h3]
      exact hu)
    have hget : ∀ i (hi : i < ((List.range len).map f).length), ((List.range len).map f)[i] = f i := fun i hi => by simp
    refine ⟨_, (List.range len).map f, hcs, ?_, fun e he => ?_, ?_⟩
    · rw [List.length_map, List.length_range]
      obtain ⟨b, off, sp⟩ := a
      cases sp with
      | some s =>
        have h0 : len = 0 := by
          rcases Nat.eq_zero_or_pos len with h | h
          · exact h
          · obtain ⟨h1, _⟩ := hfp 0 h
            obtain ⟨u, hu⟩ : ∃ u, (cells (f 0))[0]? = some u := ⟨_, List.getElem?_eq_getElem (by rw [hl]; exact hs)⟩
            exact (spot_none (by simpa [Addr.add] using h1 0 u hu)).elim
        subst h0
        exact ⟨_, m, rfl, .inl (by simp), fun _ _ e => (by cases e), fun e => (by cases e), Nat.zero_le _, Nat.zero_le _⟩
      | none =>
        refine ⟨_, m, rfl, .inr ⟨b, off, rfl, fun j u hu => ?_⟩, fun b' off' e hne => ?_, fun e => (by cases e), by omega, by omega⟩
        · obtain ⟨i, k, hi, rfl, hk, h1⟩ := flat_at cells size hs hl _ _ _ hu
          rw [hget i hi] at h1
          have hi' : i < len := by simpa using hi
          have h2 := (hfp i hi').1 k u h1
          rw [addr_addA] at h2
          refine ⟨h2, hrow (i * size + k) ?_⟩
          have : (i + 1) * size ≤ m * size := Nat.mul_le_mul_right _ (by omega)
          rw [Nat.add_mul] at this
          omega
        · cases e
          have hlen : 0 < len := by
            rcases Nat.eq_zero_or_pos len with h | h
            · subst h; simp at hne
            · exact h
          obtain ⟨u, hu⟩ : ∃ u, (cells (f 0))[0]? = some u := ⟨_, List.getElem?_eq_getElem (by rw [hl]; exact hs)⟩
          have := (hfp 0 hlen).1 0 u hu
          rw [addr_addA] at this
          exact World.block_lt_of_cell? _ _ this
    · obtain ⟨i, hi, rfl⟩ := List.mem_map.1 he
      exact (hfp i (List.mem_range.1 hi)).2.1
    · rw [List.map_map, hdd]
      have h1 := bulkAll_range D (wt ∘ f) len (fun i hi => (hfp i hi).2.2)
      show _ ≤ Rows.uptoBulkAll _ + Rows.uptoBulkAll _ + 1
      omega
theorem sum_ones {α : Type} : ∀ L : List α, (L.map fun _ => 1).sum = L.length
  | [] => rfl
  | a :: L => by rw [List.map_cons, List.sum_cons, sum_ones L, List.length_cons]; omega
theorem three_ {α : Type} {l : List α} (h : l.length = 3) : ∃ a b c, l = [a, b, c] := by
  match l, h with
  | [a, b, c], _ => exact ⟨a, b, c, rfl⟩
theorem six_ {α : Type} {l : List α} (h : l.length = 6) : ∃ a b c d e f, l = [a, b, c, d, e, f] := by
  match l, h with
  | [a, b, c, d, e, f], _ => exact ⟨a, b, c, d, e, f, rfl⟩
theorem four_ {α : Type} {l : List α} (h : l.length = 4) : ∃ a b c d, l = [a, b, c, d] := by
  match l, h with
  | [a, b, c, d], _ => exact ⟨a, b, c, d, rfl⟩
/-- An envelope that is read. -/
theorem el_env (n : Nat) (cs' : List Value) (y : DataW H × List MemPlace) (h : DataW.trod enc Try.prog W 0 (fun _ => true) true n 33 cs' = some y) (_ : W.noneFrozen y.2) : ∃ e : EnvX, cs' = e.cells ∧ e.wf ∧ 1 ≤ Rows.uptoBulk y.1 := by
  obtain ⟨xs, k, hk, hxy, hcl, hxl, hfl⟩ := DataW.trod_struct Try.underlying33 h
  have ce : Try.prog.cellsOf 33 = 4 := by kernel_rfl
  have ci : Try.prog.cellsOf 3 = 1 := by kernel_rfl
  have cu : Try.prog.cellsOf 31 = 1 := by kernel_rfl
  rw [ce] at hcl
  obtain ⟨v0, v1, v2, v3, rfl⟩ := four_ hcl
  obtain ⟨y0, y1, y2, y3, rfl⟩ := four_ (show xs.length = 4 from hxl)
  have g0 : DataW.trod enc Try.prog W 0 (fun _ => true) true k 3 (List.take (Try.prog.cellsOf 3) (List.drop 0 [v0, v1, v2, v3])) = some y0 := hfl 0 _ rfl
  have g1 : DataW.trod enc Try.prog W 0 (fun _ => true) true k 31 (List.take (Try.prog.cellsOf 31) (List.drop 1 [v0, v1, v2, v3])) = some y1 := hfl 1 _ rfl
  have g2 : DataW.trod enc Try.prog W 0 (fun _ => true) true k 31 (List.take (Try.prog.cellsOf 31) (List.drop 2 [v0, v1, v2, v3])) = some y2 := hfl 2 _ rfl
  have g3 : DataW.trod enc Try.prog W 0 (fun _ => true) true k 3 (List.take (Try.prog.cellsOf 3) (List.drop 3 [v0, v1, v2, v3])) = some y3 := hfl 3 _ rfl
  rw [ci] at g0 g3
  rw [cu] at g1 g2
  obtain ⟨n0, e0, _, hw0⟩ := DataW.trod_int Try.underlying3 g0
  obtain ⟨n1, e1, _, hw1⟩ := DataW.trod_int Try.underlying31 g1
  obtain ⟨n2, e2, _, hw2⟩ := DataW.trod_int Try.underlying31 g2
  obtain ⟨n3, e3, _, hw3⟩ := DataW.trod_int Try.underlying3 g3
  have e0' : v0 = .int .i64 n0 := by simpa using e0
  have e1' : v1 = .int .u64 n1 := by simpa using e1
  have e2' : v2 = .int .u64 n2 := by simpa using e2
  have e3' : v3 = .int .i64 n3 := by simpa using e3
  subst e0' e1' e2' e3'
  have b1 := bounds_u64 hw1
  have b2 := bounds_u64 hw2
  refine ⟨⟨n0, n1, n2, n3⟩, rfl, ⟨⟨b1.1, by show n1 < _; omega⟩, ⟨b2.1, by show n2 < _; omega⟩, hw0, hw3⟩, ?_⟩
  rw [hxy]
  simp [Rows.uptoBulk]
theorem arg_envs {fuel : Nat} {cs : List Value} {x : DataW H × List MemPlace} (h : DataW.trod enc Try.prog W 0 (fun _ => true) true fuel 63 cs = some x) (hf : W.noneFrozen x.2) :
    ∃ (v : Value) (L : List EnvX), cs = [v] ∧ RawSl W v L.length (flatE L) ∧ (∀ e ∈ L, e.wf) ∧ L.length ≤ Rows.uptoBulk x.1 := by
  obtain ⟨v, L, e, h1, h2, h3⟩ := arg_row (size := 4) EnvX.cells Try.underlying63 (by kernel_rfl) (by decide) (fun _ => rfl) EnvX.wf (fun _ => 1) el_env h hf
  exact ⟨v, L, e, h1, h2, by rw [sum_ones] at h3; exact h3⟩
theorem nf_mem {xs : List (DataW H × List MemPlace)} {y z : DataW H × List MemPlace} (hz : z = (.agg (xs.map (·.1)), xs.flatMap (·.2))) (hf : W.noneFrozen z.2) (hy : y ∈ xs) : W.noneFrozen y.2 := fun b off hm => hf b off (by
  rw [hz]; exact List.mem_flatMap.2 ⟨y, hy, hm⟩)
/-- A certificate that is read. -/
theorem el_qc (n : Nat) (cs' : List Value) (y : DataW H × List MemPlace) (h : DataW.trod enc Try.prog W 0 (fun _ => true) true n 28 cs' = some y) (hf : W.noneFrozen y.2) : ∃ (v b : Int) (u : Value) (L : List Int), cs' = [.int .i64 v, .int .i64 b, u] ∧ RawSl W u L.length (L.map (Value.int .i64)) ∧ L.length + 1 ≤ Rows.uptoBulk y.1 := by
  obtain ⟨xs, k, hk, hxy, hcl, hxl, hfl⟩ := DataW.trod_struct Try.underlying28 h
  have ce : Try.prog.cellsOf 28 = 3 := by kernel_rfl
  have ci : Try.prog.cellsOf 3 = 1 := by kernel_rfl
  have cu : Try.prog.cellsOf 23 = 1 := by kernel_rfl
  rw [ce] at hcl
  obtain ⟨v0, v1, v2, rfl⟩ := three_ hcl
  obtain ⟨y0, y1, y2, rfl⟩ := three_ (show xs.length = 3 from hxl)
  have g0 : DataW.trod enc Try.prog W 0 (fun _ => true) true k 3 (List.take (Try.prog.cellsOf 3) (List.drop 0 [v0, v1, v2])) = some y0 := hfl 0 _ rfl
  have g1 : DataW.trod enc Try.prog W 0 (fun _ => true) true k 3 (List.take (Try.prog.cellsOf 3) (List.drop 1 [v0, v1, v2])) = some y1 := hfl 1 _ rfl
  have g2 : DataW.trod enc Try.prog W 0 (fun _ => true) true k 23 (List.take (Try.prog.cellsOf 23) (List.drop 2 [v0, v1, v2])) = some y2 := hfl 2 _ rfl
  rw [ci] at g0 g1
  rw [cu] at g2
  obtain ⟨n0, e0, _, hw0⟩ := DataW.trod_int Try.underlying3 g0
  obtain ⟨n1, e1, _, hw1⟩ := DataW.trod_int Try.underlying3 g1
  obtain ⟨u, L, e2, h2, h3⟩ := arg_ints g2 (nf_mem hxy hf (by simp))
  have e0' : v0 = .int .i64 n0 := by simpa using e0
  have e1' : v1 = .int .i64 n1 := by simpa using e1
  have e2' : v2 = u := by simpa using e2
  subst e0' e1' e2'
  refine ⟨n0, n1, v2, L, rfl, h2, ?_⟩
  rw [hxy]
  simp only [Rows.uptoBulk, Rows.uptoBulkAll, List.map_cons, List.map_nil]
  omega
def BlkQ (W : World) (a : BlkX × Value × Value) : Prop := RawSl W a.2.1 a.1.by_.length (a.1.by_.map (Value.int .i64)) ∧ RawSl W a.2.2 a.1.envs.length (flatE a.1.envs) ∧ ∀ e ∈ a.1.envs, e.wf
/-- A block that is read. -/
theorem el_blk (n : Nat) (cs' : List Value) (y : DataW H × List MemPlace) (h : DataW.trod enc Try.prog W 0 (fun _ => true) true n 65 cs' = some y) (hf : W.noneFrozen y.2) : ∃ a : BlkX × Value × Value, cs' = blkCells a.1 a.2.1 a.2.2 ∧ BlkQ W a ∧ a.1.by_.length + a.1.envs.length + 1 ≤ Rows.uptoBulk y.1 := by
  obtain ⟨xs, k, hk, hxy, hcl, hxl, hfl⟩ := DataW.trod_struct Try.underlying65 h
  have ce : Try.prog.cellsOf 65 = 6 := by kernel_rfl
  have ci : Try.prog.cellsOf 3 = 1 := by kernel_rfl
  have cq : Try.prog.cellsOf 28 = 3 := by kernel_rfl
  have cu : Try.prog.cellsOf 63 = 1 := by kernel_rfl
  rw [ce] at hcl
  obtain ⟨v0, v1, v2, v3, v4, v5, rfl⟩ := six_ hcl
  obtain ⟨y0, y1, y2, y3, rfl⟩ := four_ (show xs.length = 4 from hxl)
  have g0 : DataW.trod enc Try.prog W 0 (fun _ => true) true k 3 (List.take (Try.prog.cellsOf 3) (List.drop 0 [v0, v1, v2, v3, v4, v5])) = some y0 := hfl 0 _ rfl
  have g1 : DataW.trod enc Try.prog W 0 (fun _ => true) true k 3 (List.take (Try.prog.cellsOf 3) (List.drop 1 [v0, v1, v2, v3, v4, v5])) = some y1 := hfl 1 _ rfl
  have g2 : DataW.trod enc Try.prog W 0 (fun _ => true) true k 28 (List.take (Try.prog.cellsOf 28) (List.drop 2 [v0, v1, v2, v3, v4, v5])) = some y2 := hfl 2 _ rfl
  have g3 : DataW.trod enc Try.prog W 0 (fun _ => true) true k 63 (List.take (Try.prog.cellsOf 63) (List.drop 5 [v0, v1, v2, v3, v4, v5])) = some y3 := hfl 3 _ rfl
  rw [ci] at g0 g1
  rw [cq] at g2
  rw [cu] at g3
  obtain ⟨n0, e0, _, hw0⟩ := DataW.trod_int Try.underlying3 g0
  obtain ⟨n1, e1, _, hw1⟩ := DataW.trod_int Try.underlying3 g1
  obtain ⟨qv, qb, u, L, e2, h2, h3⟩ := el_qc k _ y2 g2 (nf_mem hxy hf (by simp))
  obtain ⟨w_, E, e3, h4, h5, h6⟩ := arg_envs g3 (nf_mem hxy hf (by simp))
  have e0' : v0 = .int .i64 n0 := by simpa using e0
  have e1' : v1 = .int .i64 n1 := by simpa using e1
  obtain ⟨e2a, e2b, e2c⟩ : v2 = .int .i64 qv ∧ v3 = .int .i64 qb ∧ v4 = u := by simpa using e2
  have e3' : v5 = w_ := by simpa using e3
  subst e0' e1' e2a e2b e2c e3'
  refine ⟨(⟨n0, n1, qv, qb, L, E⟩, v4, v5), rfl, ⟨h2, h4, h5⟩, ?_⟩
  rw [hxy]
  simp only [Rows.uptoBulk, Rows.uptoBulkAll, List.map_cons, List.map_nil]
  omega
theorem arg_blks {fuel : Nat} {cs : List Value} {x : DataW H × List MemPlace} (h : DataW.trod enc Try.prog W 0 (fun _ => true) true fuel 34 cs = some x) (hf : W.noneFrozen x.2) :
    ∃ (v : Value) (E : List (BlkX × Value × Value)), cs = [v] ∧ RawSl W v E.length (flatB E) ∧ (∀ a ∈ E, BlkQ W a) ∧ (E.map fun a => a.1.by_.length + a.1.envs.length + 1).sum ≤ Rows.uptoBulk x.1 :=
  arg_row (size := 6) (fun a : BlkX × Value × Value => blkCells a.1 a.2.1 a.2.2) Try.underlying34 (by kernel_rfl) (by decide) (fun _ => rfl) (BlkQ W) _ el_blk h hf
/-- A certificate of views given up that is read. -/
theorem el_tc (n : Nat) (cs' : List Value) (y : DataW H × List MemPlace) (h : DataW.trod enc Try.prog W 0 (fun _ => true) true n 30 cs' = some y) (hf : W.noneFrozen y.2) : ∃ (tv hv hb : Int) (u1 u2 u3 : Value) (L1 L2 L3 : List Int), cs' = [.int .i64 tv, u1, u2, .int .i64 hv, .int .i64 hb, u3] ∧ RawSl W u1 L1.length (L1.map (Value.int .i64)) ∧ RawSl W u2 L2.length (L2.map (Value.int .i64)) ∧ RawSl W u3 L3.length (L3.map (Value.int .i64)) ∧ L1.length + L2.length + L3.length + 1 ≤ Rows.uptoBulk y.1 := by
  obtain ⟨xs, k, hk, hxy, hcl, hxl, hfl⟩ := DataW.trod_struct Try.underlying30 h
  have ce : Try.prog.cellsOf 30 = 6 := by kernel_rfl
  have ci : Try.prog.cellsOf 3 = 1 := by kernel_rfl
  have cq : Try.prog.cellsOf 28 = 3 := by kernel_rfl
  have cu : Try.prog.cellsOf 23 = 1 := by kernel_rfl
  rw [ce] at hcl
  obtain ⟨v0, v1, v2, v3, v4, v5, rfl⟩ := six_ hcl
  obtain ⟨y0, y1, y2, y3, rfl⟩ := four_ (show xs.length = 4 from hxl)
  have g0 : DataW.trod enc Try.prog W 0 (fun _ => true) true k 3 (List.take (Try.prog.cellsOf 3) (List.drop 0 [v0, v1, v2, v3, v4, v5])) = some y0 := hfl 0 _ rfl
  have g1 : DataW.trod enc Try.prog W 0 (fun _ => true) true k 23 (List.take (Try.prog.cellsOf 23) (List.drop 1 [v0, v1, v2, v3, v4, v5])) = some y1 := hfl 1 _ rfl
  have g2 : DataW.trod enc Try.prog W 0 (fun _ => true) true k 23 (List.take (Try.prog.cellsOf 23) (List.drop 2 [v0, v1, v2, v3, v4, v5])) = some y2 := hfl 2 _ rfl
  have g3 : DataW.trod enc Try.prog W 0 (fun _ => true) true k 28 (List.take (Try.prog.cellsOf 28) (List.drop 3 [v0, v1, v2, v3, v4, v5])) = some y3 := hfl 3 _ rfl
  rw [ci] at g0
  rw [cu] at g1 g2
  rw [cq] at g3
  obtain ⟨n0, e0, _, hw0⟩ := DataW.trod_int Try.underlying3 g0
  obtain ⟨u1, L1, e1, a1, b1⟩ := arg_ints g1 (nf_mem hxy hf (by simp))
  obtain ⟨u2, L2, e2, a2, b2⟩ := arg_ints g2 (nf_mem hxy hf (by simp))
  obtain ⟨qv, qb, u3, L3, e3, a3, b3⟩ := el_qc k _ y3 g3 (nf_mem hxy hf (by simp))
  have e0' : v0 = .int .i64 n0 := by simpa using e0
  have e1' : v1 = u1 := by simpa using e1
  have e2' : v2 = u2 := by simpa using e2
  obtain ⟨e3a, e3b, e3c⟩ : v3 = .int .i64 qv ∧ v4 = .int .i64 qb ∧ v5 = u3 := by simpa using e3
  subst e0' e1' e2' e3a e3b e3c
  refine ⟨n0, qv, qb, v1, v2, v5, L1, L2, L3, rfl, a1, a2, a3, ?_⟩
  rw [hxy]
  simp only [Rows.uptoBulk, Rows.uptoBulkAll, List.map_cons, List.map_nil]
  omega
/-- What a message shows, as it was read: its rows without a bound. -/
structure MsgP.Raw (P : MsgP) (W : World) : Prop where
  q : RawSl W (.slice P.qa P.q.length P.qc) P.q.length (P.q.map (Value.int .i64))
  t : RawSl W (.slice P.ta P.t.length P.tc) P.t.length (P.t.map (Value.int .i64))
  h : RawSl W (.slice P.ha P.h.length P.hc) P.h.length (P.h.map (Value.int .i64))
  g : RawSl W (.slice P.ga P.g.length P.gc) P.g.length (P.g.map (Value.int .i64))
  b : RawSl W (.slice P.ba P.E.length P.bc) P.E.length (flatB P.E)
  e : ∀ a ∈ P.E, BlkQ W a
  wf : P.wf
/-- How much a message holds. -/
def MsgP.size (P : MsgP) : Nat := P.q.length + P.t.length + P.h.length + P.g.length + (P.E.map fun a => a.1.by_.length + a.1.envs.length + 1).sum + 1
theorem nine_ {α : Type} {l : List α} (h : l.length = 9) : ∃ a b c d e f g i j, l = [a, b, c, d, e, f, g, i, j] := by
  match l, h with
  | [a, b, c, d, e, f, g, i, j], _ => exact ⟨a, b, c, d, e, f, g, i, j, rfl⟩
theorem nineteen_ {α : Type} {l : List α} (h : l.length = 19) : ∃ v0 v1 v2 v3 v4 v5 v6 v7 v8 v9 v10 v11 v12 v13 v14 v15 v16 v17 v18, l = [v0, v1, v2, v3, v4, v5, v6, v7, v8, v9, v10, v11, v12, v13, v14, v15, v16, v17, v18] := by
  match l, h with
  | [v0, v1, v2, v3, v4, v5, v6, v7, v8, v9, v10, v11, v12, v13, v14, v15, v16, v17, v18], _ => exact ⟨v0, v1, v2, v3, v4, v5, v6, v7, v8, v9, v10, v11, v12, v13, v14, v15, v16, v17, v18, rfl⟩
set_option maxRecDepth 100000 in
/-- A message that is read. -/
theorem el_msg (n : Nat) (cs' : List Value) (y : DataW H × List MemPlace) (h : DataW.trod enc Try.prog W 0 (fun _ => true) true n 36 cs' = some y) (hf : W.noneFrozen y.2) : ∃ P : MsgP, cs' = P.cells ∧ P.Raw W ∧ P.size ≤ Rows.uptoBulk y.1 := by
  obtain ⟨xs, k, hk, hxy, hcl, hxl, hfl⟩ := DataW.trod_struct Try.underlying36 h
  have ce : Try.prog.cellsOf 36 = 19 := by kernel_rfl
  have ci : Try.prog.cellsOf 3 = 1 := by kernel_rfl
  have cq : Try.prog.cellsOf 28 = 3 := by kernel_rfl
  have ct : Try.prog.cellsOf 30 = 6 := by kernel_rfl
  have cv : Try.prog.cellsOf 33 = 4 := by kernel_rfl
  have cu : Try.prog.cellsOf 34 = 1 := by kernel_rfl
  rw [ce] at hcl
  obtain ⟨v0, v1, v2, v3, v4, v5, v6, v7, v8, v9, v10, v11, v12, v13, v14, v15, v16, v17, v18, rfl⟩ := nineteen_ hcl
  obtain ⟨y0, y1, y2, y3, y4, y5, y6, y7, y8, rfl⟩ := nine_ (show xs.length = 9 from hxl)
  have g0 : DataW.trod enc Try.prog W 0 (fun _ => true) true k 3 (List.take (Try.prog.cellsOf 3) (List.drop 0 [v0, v1, v2, v3, v4, v5, v6, v7, v8, v9, v10, v11, v12, v13, v14, v15, v16, v17, v18])) = some y0 := hfl 0 _ rfl
  have g1 : DataW.trod enc Try.prog W 0 (fun _ => true) true k 3 (List.take (Try.prog.cellsOf 3) (List.drop 1 [v0, v1, v2, v3, v4, v5, v6, v7, v8, v9, v10, v11, v12, v13, v14, v15, v16, v17, v18])) = some y1 := hfl 1 _ rfl
  have g2 : DataW.trod enc Try.prog W 0 (fun _ => true) true k 3 (List.take (Try.prog.cellsOf 3) (List.drop 2 [v0, v1, v2, v3, v4, v5, v6, v7, v8, v9, v10, v11, v12, v13, v14, v15, v16, v17, v18])) = some y2 := hfl 2 _ rfl
  have g3 : DataW.trod enc Try.prog W 0 (fun _ => true) true k 3 (List.take (Try.prog.cellsOf 3) (List.drop 3 [v0, v1, v2, v3, v4, v5, v6, v7, v8, v9, v10, v11, v12, v13, v14, v15, v16, v17, v18])) = some y3 := hfl 3 _ rfl
  have g4 : DataW.trod enc Try.prog W 0 (fun _ => true) true k 3 (List.take (Try.prog.cellsOf 3) (List.drop 4 [v0, v1, v2, v3, v4, v5, v6, v7, v8, v9, v10, v11, v12, v13, v14, v15, v16, v17, v18])) = some y4 := hfl 4 _ rfl
  have g5 : DataW.trod enc Try.prog W 0 (fun _ => true) true k 28 (List.take (Try.prog.cellsOf 28) (List.drop 5 [v0, v1, v2, v3, v4, v5, v6, v7, v8, v9, v10, v11, v12, v13, v14, v15, v16, v17, v18])) = some y5 := hfl 5 _ rfl
  have g6 : DataW.trod enc Try.prog W 0 (fun _ => true) true k 30 (List.take (Try.prog.cellsOf 30) (List.drop 8 [v0, v1, v2, v3, v4, v5, v6, v7, v8, v9, v10, v11, v12, v13, v14, v15, v16, v17, v18])) = some y6 := hfl 6 _ rfl
  have g7 : DataW.trod enc Try.prog W 0 (fun _ => true) true k 33 (List.take (Try.prog.cellsOf 33) (List.drop 14 [v0, v1, v2, v3, v4, v5, v6, v7, v8, v9, v10, v11, v12, v13, v14, v15, v16, v17, v18])) = some y7 := hfl 7 _ rfl
  have g8 : DataW.trod enc Try.prog W 0 (fun _ => true) true k 34 (List.take (Try.prog.cellsOf 34) (List.drop 18 [v0, v1, v2, v3, v4, v5, v6, v7, v8, v9, v10, v11, v12, v13, v14, v15, v16, v17, v18])) = some y8 := hfl 8 _ rfl
  rw [ci] at g0 g1 g2 g3 g4
  rw [cq] at g5
  rw [ct] at g6
  rw [cv] at g7
  rw [cu] at g8
  obtain ⟨n0, e0, _, _⟩ := DataW.trod_int Try.underlying3 g0
  obtain ⟨n1, e1, _, _⟩ := DataW.trod_int Try.underlying3 g1
  obtain ⟨n2, e2, _, _⟩ := DataW.trod_int Try.underlying3 g2
  obtain ⟨n3, e3, _, _⟩ := DataW.trod_int Try.underlying3 g3
  obtain ⟨n4, e4, _, _⟩ := DataW.trod_int Try.underlying3 g4
  obtain ⟨qv, qb, uq, Lq, e5, a5, b5⟩ := el_qc k _ y5 g5 (nf_mem hxy hf (by simp))
  obtain ⟨tv, hv, hb, ut, uh, ug, Lt, Lh, Lg, e6, at6, ah6, ag6, b6⟩ := el_tc k _ y6 g6 (nf_mem hxy hf (by simp))
  obtain ⟨ev, e7, we7, b7⟩ := el_env k _ y7 g7 (nf_mem hxy hf (by simp))
  obtain ⟨ub, E, e8, a8, q8, b8⟩ := arg_blks g8 (nf_mem hxy hf (by simp))
  obtain ⟨qa, qc, rfl, -⟩ := id a5
  obtain ⟨ta, tc, rfl, -⟩ := id at6
  obtain ⟨ha, hc, rfl, -⟩ := id ah6
  obtain ⟨ga, gc, rfl, -⟩ := id ag6
  obtain ⟨ba, bc, rfl, -⟩ := id a8
  obtain ⟨ec, en, ef, ei⟩ := ev
  have e0' : v0 = .int .i64 n0 := by simpa using e0
  have e1' : v1 = .int .i64 n1 := by simpa using e1
  have e2' : v2 = .int .i64 n2 := by simpa using e2
  have e3' : v3 = .int .i64 n3 := by simpa using e3
  have e4' : v4 = .int .i64 n4 := by simpa using e4
  obtain ⟨e5a, e5b, e5c⟩ : v5 = .int .i64 qv ∧ v6 = .int .i64 qb ∧ v7 = .slice qa Lq.length qc := by simpa using e5
  obtain ⟨e6a, e6b, e6c, e6d, e6e, e6f⟩ : v8 = .int .i64 tv ∧ v9 = .slice ta Lt.length tc ∧ v10 = .slice ha Lh.length hc ∧ v11 = .int .i64 hv ∧ v12 = .int .i64 hb ∧ v13 = .slice ga Lg.length gc := by simpa using e6
  obtain ⟨e7a, e7b, e7c, e7d⟩ : v14 = .int .i64 ec ∧ v15 = .int .u64 en ∧ v16 = .int .u64 ef ∧ v17 = .int .i64 ei := by simpa [EnvX.cells] using e7
  have e8' : v18 = .slice ba E.length bc := by simpa using e8
  subst e0' e1' e2' e3' e4' e5a e5b e5c e6a e6b e6c e6d e6e e6f e7a e7b e7c e7d e8'
  refine ⟨⟨⟨n0, n1, n2, n3, n4, qv, qb, tv, hv, hb, ec, en, ef, ei⟩, Lq, Lt, Lh, Lg, E, qa, ta, ha, ga, ba, qc, tc, hc, gc, bc⟩, rfl, ⟨a5, at6, ah6, ag6, a8, q8, ⟨we7, fun e he => (q8 e he).2.2⟩⟩, ?_⟩
  rw [hxy]
  simp only [Rows.uptoBulk, Rows.uptoBulkAll, List.map_cons, List.map_nil, MsgP.size]
  omega
instance : Inhabited MsgP := ⟨⟨⟨0, 0, 0, 0, 0, 0, 0, 0, 0, 0, 0, 0, 0, 0⟩, [], [], [], [], [], none, none, none, none, none, 0, 0, 0, 0, 0⟩⟩
/-- An argument []api.Msg. -/
theorem arg_msgs {fuel : Nat} {cs : List Value} {x : DataW H × List MemPlace} (h : DataW.trod enc Try.prog W 0 (fun _ => true) true fuel 22 cs = some x) (hf : W.noneFrozen x.2) :
    ∃ (v : Value) (L : List MsgP), cs = [v] ∧ RawSl W v L.length (L.flatMap MsgP.cells) ∧ (∀ P ∈ L, P.Raw W) ∧ (L.map MsgP.size).sum ≤ Rows.uptoBulk x.1 :=
  arg_row (size := 19) MsgP.cells Try.underlying22 (by kernel_rfl) (by decide) (fun _ => rfl) (fun P => P.Raw W) MsgP.size el_msg h hf
end
end Go.Proofs.Ytcfhkpjheemkgaa
