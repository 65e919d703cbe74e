/-
  An argument [][]byte: its rows, told as lists of bytes; how the reading of the argument gives them.
-/
import Derived.Test.YtjllejlgclfahaaBytes
import Derived.Deep.Slices
import Derived.ProofKit
import Derived.OpenShut
import Derived.ChangeOld
import Derived.SizedLaws
namespace Go.Proofs.Ytjllejlgclfahaa
open Go.RowKit Go.ChangeShapes Go.WideShapes

/-- One slice value whose bytes are l. -/
def TextV (w : World) (v : Value) (l : List UInt8) : Prop := ∃ a cap, v = .slice a l.length cap ∧ BytesAt w a l ∧ (a = none → l = []) ∧ l.length ≤ reachBytes
theorem TextV.chg0 {w w' : World} {v : Value} {l : List UInt8} (h : TextV w v l) (hc : Chg none_ w w') : TextV w' v l := by
  obtain ⟨a, cap, e, hb, hn⟩ := h
  exact ⟨a, cap, e, hb.chg0 hc, hn⟩
/-- A row of texts from address a on. -/
def TextsAt (w : World) (a : Option Addr) (T : List (List UInt8)) : Prop :=
  ∀ i, i < T.length → ∃ b off v, a = some ⟨b, off, none⟩ ∧ w.cell? ⟨b, off + i, none⟩ = some v ∧ TextV w v (T.getD i [])
theorem TextsAt.chg0 {w w' : World} {a : Option Addr} {T : List (List UInt8)} (h : TextsAt w a T) (hc : Chg none_ w w') : TextsAt w' a T := fun i hi => by
  obtain ⟨b, off, v, e, hv, ht⟩ := h i hi
  exact ⟨b, off, v, e, hc.cell hv (fun h => h), ht.chg0 hc⟩
theorem TextsAt.below {w w' : World} {a : Option Addr} {T : List (List UInt8)} (h : TextsAt w a T) (hb : Below w.heap.size w w') : TextsAt w' a T := h.chg0 (Chg.of_below hb)

section
variable {H : Type} {enc : TypeId × Value → H} {W : World}
theorem weights_all {P : Program} {e : TypeId} : ∀ {ds : List (DataW H)} {d : DataW H}, d ∈ ds → ∀ n ∈ d.weights P e, n ∈ DataW.weightsAll P e ds
  | d0 :: ds, d, hd, n, hn => by
    simp only [DataW.weightsAll, List.mem_append]
    rcases List.mem_cons.1 hd with rfl | hd
    · exact .inl hn
    · exact .inr (weights_all hd n hn)
/-- One cell that is read as bytes. -/
theorem open_text {fuel : Nat} {v : Value} {x : DataW H × List MemPlace} (h : DataW.trod enc Try.prog W 0 (fun _ => true) true fuel 72 [v] = some x) (hz : ∀ n ∈ x.1.weights Try.prog 72, n ≤ reachBytes) : ∃ l, TextV W v l := by
  rcases open_ints Try.underlying72 Try.underlying5 (by kernel_rfl) h with ⟨hcs, _⟩ | ⟨a, l, c, zs, hcs, _, hl, hm, hzl, hx, hcell, hwz⟩
  · cases hcs
    exact ⟨[], none, 0, rfl, .inl rfl, fun _ => rfl, by simp⟩
  · cases hcs
    obtain ⟨t, ht, hb, hn, _⟩ := BytesAt.of_row (zs := zs) (w := W) (a := some a) (len := l) (cap := c) (.inr ⟨_, rfl, hl, hm, by simpa using hzl, hcell, hwz⟩)
    subst ht
    have hb1 : Try.prog.bytesOf 5 = 1 := by kernel_rfl
    have h9 := hz ((zs.take t.length).length * 1 + (zs.drop t.length).length * 1) (by rw [hx]; simp [DataW.weights, Try.underlying72, hb1, lits])
    have hz2 : zs.length = c := by simpa using hzl
    exact ⟨t, some a, c, rfl, hb, hn, by simp at h9; omega⟩
theorem addr_add (b off i : Nat) : (⟨b, off, none⟩ : Addr).add i = ⟨b, off + i, none⟩ := by unfold Addr.add; split <;> simp_all
theorem addr_spot {w : World} {b off s : Nat} {v : Value} (h : w.cell? ⟨b, off, some s⟩ = some v) : False := by
  simp [World.cell?] at h
  split at h <;> cases h
theorem open_texts {a : Option Addr} {len cap : Nat} {d : DataW H} {p : List MemPlace} (h : DataW.Trod enc Try.prog W 0 (fun _ => true) true 82 (.slice a len cap) d p) (hz : ∀ n ∈ d.weights Try.prog 82, n ≤ reachBytes) : ∃ T : List (List UInt8), T.length = len ∧ TextsAt W a T := by
  obtain ⟨fuel, hfu⟩ := h
  rcases Deep.open_slice1 Try.underlying82 (by kernel_rfl) hfu with ⟨hcs, _⟩ | ⟨x, l, c, m, n, V, D, Pl, hcs, _, hl, hm, hmm, hdd, hx⟩
  · simp [Value.cells] at hcs
    obtain ⟨rfl, rfl, rfl⟩ := hcs
    exact ⟨[], rfl, fun i hi => by cases hi⟩
  · simp [Value.cells] at hcs
    obtain ⟨rfl, rfl, rfl⟩ := hcs
    have hmc : m = cap := by rw [hmm]; rfl
    subst hmc
    obtain ⟨f, hf⟩ := Deep.choose_lt (n := len) (p := fun i (l : List UInt8) => TextV W (V i) l) (fun i hi => open_text (hx i (by omega)).2 (fun q hq => hz q (by
      cases hdd
      simp only [DataW.weights, Try.underlying82, List.mem_cons, List.mem_append]
      exact .inr (.inl (weights_all (List.mem_map.2 ⟨i, List.mem_range.2 hi, rfl⟩) q hq)))))
    refine ⟨(List.range len).map f, by simp, fun i hi => ?_⟩
    have hi' : i < len := by simpa using hi
    have h0 := (hx 0 (by omega)).1
    obtain ⟨b, off, sp⟩ := x
    have hsp : sp = none := by
      cases sp with
      | none => rfl
      | some s => exact (addr_spot (by simpa [Addr.add] using h0)).elim
    subst hsp
    refine ⟨b, off, V i, rfl, ?_, ?_⟩
    · have := (hx i (by omega)).1
      rwa [addr_add] at this
    · have := hf i hi'
      simpa [List.getD, hi'] using this
end
end Go.Proofs.Ytjllejlgclfahaa
