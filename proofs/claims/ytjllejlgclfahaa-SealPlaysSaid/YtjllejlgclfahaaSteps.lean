/-
  An argument []tolseylaw5.Step: its rows; how the reading of the argument gives them.
-/
import Derived.Test.YtjllejlgclfahaaTexts
namespace Go.Proofs.Ytjllejlgclfahaa
open Go.RowKit Go.ChangeShapes Go.WideShapes

/-- A step: its kind, its two numbers, its text. -/
structure StepX where
  kind : Int
  a : Int
  b : Int
  plain : List UInt8
instance : Inhabited StepX := ⟨⟨0, 0, 0, []⟩⟩
/-- The row of steps from address ad on. -/
def StepsAt (w : World) (ad : Option Addr) (L : List StepX) : Prop :=
  ∀ i, i < L.length → ∃ b off v, ad = some ⟨b, off, none⟩ ∧ w.cell? ⟨b, off + i * 4, none⟩ = some (.int .i64 (L.getD i default).kind) ∧ w.cell? ⟨b, off + i * 4 + 1, none⟩ = some (.int .i64 (L.getD i default).a) ∧
    w.cell? ⟨b, off + i * 4 + 2, none⟩ = some (.int .i64 (L.getD i default).b) ∧ w.cell? ⟨b, off + i * 4 + 3, none⟩ = some v ∧ TextV w v (L.getD i default).plain ∧
    (Lit.int .i64 (L.getD i default).kind).wf = true ∧ (Lit.int .i64 (L.getD i default).a).wf = true ∧ (Lit.int .i64 (L.getD i default).b).wf = true
theorem StepsAt.chg0 {w w' : World} {a : Option Addr} {L : List StepX} (h : StepsAt w a L) (hc : Chg none_ w w') : StepsAt w' a L := fun i hi => by
  obtain ⟨b, off, v, e, h0, h1, h2, h3, ht, hw⟩ := h i hi
  exact ⟨b, off, v, e, hc.cell h0 (fun h => h), hc.cell h1 (fun h => h), hc.cell h2 (fun h => h), hc.cell h3 (fun h => h), ht.chg0 hc, hw⟩

theorem four {α : Type} {l : List α} (h : l.length = 4) : ∃ a b c d, l = [a, b, c, d] := by
  match l, h with
  | [a, b, c, d], _ => exact ⟨a, b, c, d, rfl⟩
section
variable {H : Type} {enc : TypeId × Value → H} {W : World}
set_option maxRecDepth 100000 in
theorem open_steps {a : Option Addr} {len cap : Nat} {d : DataW H} {p : List MemPlace} (h : DataW.Trod enc Try.prog W 0 (fun _ => true) true 81 (.slice a len cap) d p) (hz : ∀ n ∈ d.weights Try.prog 81, n ≤ reachBytes) : ∃ L : List StepX, L.length = len ∧ StepsAt W a L := by
  obtain ⟨fuel, hfu⟩ := h
  rcases Deep.open_slice Try.underlying81 hfu with ⟨hcs, _⟩ | ⟨x, l, c, m, n, D, Pl, hcs, _, hl, hm, hmm, hdd, hx⟩
  · simp [Value.cells] at hcs
    obtain ⟨rfl, rfl, rfl⟩ := hcs
    exact ⟨[], rfl, fun i hi => by cases hi⟩
  · simp [Value.cells] at hcs
    obtain ⟨rfl, rfl, rfl⟩ := hcs
    have hmc : m = cap := by rw [hmm]; rfl
    subst hmc
    have ce : Try.prog.cellsOf 84 = 4 := by kernel_rfl
    obtain ⟨f, hf⟩ := Deep.choose_lt (n := len) (p := fun i (s : StepX) => ∃ v, W.cell? (x.add (i * 4)) = some (.int .i64 s.kind) ∧ W.cell? (x.add (i * 4 + 1)) = some (.int .i64 s.a) ∧ W.cell? (x.add (i * 4 + 2)) = some (.int .i64 s.b) ∧ W.cell? (x.add (i * 4 + 3)) = some v ∧ TextV W v s.plain ∧
        (Lit.int .i64 s.kind).wf = true ∧ (Lit.int .i64 s.a).wf = true ∧ (Lit.int .i64 s.b).wf = true) (fun i hi => by
      obtain ⟨cs', h1, h2⟩ := hx i (by omega)
      rw [ce] at h1
      obtain ⟨_, hlen, hcell⟩ := World.cells?_some h1
      obtain ⟨xs, k, hk, hxy, _, hxl, hfl⟩ := DataW.trod_struct Try.underlying84 h2
      obtain ⟨v0, v1, v2, v3, rfl⟩ : ∃ v0 v1 v2 v3, cs' = [v0, v1, v2, v3] := four hlen
      obtain ⟨y0, y1, y2, y3, rfl⟩ := four (show xs.length = 4 from hxl)
      have ci : Try.prog.cellsOf 3 = 1 := by kernel_rfl
      have cb : Try.prog.cellsOf 72 = 1 := by kernel_rfl
      have g0 : DataW.trod enc Try.prog W 0 (fun _ => true) true k 3 (List.take (Try.prog.cellsOf 3) (List.drop 0 [v0, v1, v2, v3])) = some y0 := hfl 0 _ rfl
      rw [ci] at g0
      obtain ⟨n0, e0, _, hw0⟩ := DataW.trod_int Try.underlying3 g0
      have e0' : v0 = .int .i64 n0 := by simpa using e0
      have g1 : DataW.trod enc Try.prog W 0 (fun _ => true) true k 3 (List.take (Try.prog.cellsOf 3) (List.drop 1 [v0, v1, v2, v3])) = some y1 := hfl 1 _ rfl
      rw [ci] at g1
      obtain ⟨n1, e1, _, hw1⟩ := DataW.trod_int Try.underlying3 g1
      have e1' : v1 = .int .i64 n1 := by simpa using e1
      have g2 : DataW.trod enc Try.prog W 0 (fun _ => true) true k 3 (List.take (Try.prog.cellsOf 3) (List.drop 2 [v0, v1, v2, v3])) = some y2 := hfl 2 _ rfl
      rw [ci] at g2
      obtain ⟨n2, e2, _, hw2⟩ := DataW.trod_int Try.underlying3 g2
      have e2' : v2 = .int .i64 n2 := by simpa using e2
      have g3 : DataW.trod enc Try.prog W 0 (fun _ => true) true k 72 (List.take (Try.prog.cellsOf 72) (List.drop 3 [v0, v1, v2, v3])) = some y3 := hfl 3 _ rfl
      rw [cb] at g3
      obtain ⟨t, ht⟩ := open_text (show DataW.trod enc Try.prog W 0 (fun _ => true) true k 72 [v3] = some y3 from g3) (fun q hq => hz q (by
        cases hdd
        simp only [DataW.weights, Try.underlying81, List.mem_cons, List.mem_append]
        refine .inr (.inl (weights_all (List.mem_map.2 ⟨i, List.mem_range.2 hi, rfl⟩) q ?_))
        rw [(Prod.mk.inj hxy).1]
        simp only [DataW.weights, Try.underlying84]
        exact DataW.weights_mem_each (j := 3) rfl rfl q hq))
      have c0 := hcell 0 (by omega)
      have c1 := hcell 1 (by omega)
      have c2 := hcell 2 (by omega)
      have c3 := hcell 3 (by omega)
      rw [Deep.add_add] at c0 c1 c2 c3
      exact ⟨⟨n0, n1, n2, t⟩, v3, c0.trans (congrArg some e0'), c1.trans (congrArg some e1'), c2.trans (congrArg some e2'), c3, ht, hw0, hw1, hw2⟩)
    refine ⟨(List.range len).map f, by simp, fun i hi => ?_⟩
    have hi' : i < len := by simpa using hi
    obtain ⟨v, c0, c1, c2, c3, ht, hw⟩ := hf i hi'
    have e : ((List.range len).map f).getD i default = f i := by simp [List.getD, hi']
    rw [e]
    obtain ⟨v', z0, _⟩ := hf 0 (by omega)
    obtain ⟨b, off, sp⟩ := x
    have hsp : sp = none := by
      cases sp with
      | none => rfl
      | some s => exact (addr_spot (by simpa [Addr.add] using z0)).elim
    subst hsp
    rw [addr_add] at c0 c1 c2 c3
    exact ⟨b, off, v, rfl, c0, by rw [Nat.add_assoc]; exact c1, by rw [Nat.add_assoc]; exact c2, by rw [Nat.add_assoc]; exact c3, ht, hw⟩
end
/-- One step's cells, in every later world. -/
theorem steps_fix {W : World} {a : Option Addr} {L : List StepX} (h : StepsAt W a L) {k : Nat} (hk : k < L.length) : ∃ b off ab cb, a = some ⟨b, off, none⟩ ∧ (ab = none → (L.getD k default).plain = []) ∧ (L.getD k default).plain.length ≤ reachBytes ∧
    (Lit.int .i64 (L.getD k default).kind).wf = true ∧ (Lit.int .i64 (L.getD k default).a).wf = true ∧ (Lit.int .i64 (L.getD k default).b).wf = true ∧
    ∀ x, Below W.heap.size W x → x.cell? ⟨b, off + k * 4, none⟩ = some (.int .i64 (L.getD k default).kind) ∧ x.cell? ⟨b, off + k * 4 + 1, none⟩ = some (.int .i64 (L.getD k default).a) ∧ x.cell? ⟨b, off + k * 4 + 2, none⟩ = some (.int .i64 (L.getD k default).b) ∧
      x.cell? ⟨b, off + k * 4 + 3, none⟩ = some (.slice ab (L.getD k default).plain.length cb) ∧ BytesAt x ab (L.getD k default).plain := by
  obtain ⟨b, off, v, e, h0, h1, h2, h3, ⟨ab, cb, rfl, hb, hn, hmx⟩, w0, w1, w2⟩ := h k hk
  refine ⟨b, off, ab, cb, e, hn, hmx, w0, w1, w2, fun x hx => ?_⟩
  have hc : Chg none_ W x := Chg.of_below hx
  exact ⟨hc.cell h0 (fun h => h), hc.cell h1 (fun h => h), hc.cell h2 (fun h => h), hc.cell h3 (fun h => h), hb.chg0 hc⟩
end Go.Proofs.Ytjllejlgclfahaa
