/-
  An argument [][]byte that is read; the world's shares.
-/
import Derived.Test.YtcfhkpjheemkgaaMsgBulk
import Derived.Test.YtcfhkpjheemkgaaFew
namespace Go.Proofs.Ytcfhkpjheemkgaa
set_option linter.unusedSectionVars false
set_option linter.unnecessarySimpa false
set_option linter.unusedSimpArgs false
set_option linter.unusedVariables false
open Go.RowKit Go.MapKept Go.ChangeShapes Go.WideShapes

/-- A text, and the slice that shows it. -/
structure TextP where
  v : Value
  t : List UInt8
instance : Inhabited TextP := ⟨⟨.bool false, []⟩⟩
def TextP.cells (P : TextP) : List Value := [P.v]
def TextP.Raw (P : TextP) (W : World) : Prop := RawSl W P.v P.t.length (bcells P.t)
def TextP.size (P : TextP) : Nat := P.t.length + 1
section
variable {H : Type} {enc : TypeId × Value → H} {W : World}
theorem el_byte (n : Nat) (cs' : List Value) (y : DataW H × List MemPlace) (h : DataW.trod enc Try.prog W 0 (fun _ => true) true n 5 cs' = some y) (_ : W.noneFrozen y.2) : ∃ b : UInt8, cs' = [Value.int .u8 (b.toNat : Int)] ∧ True ∧ 1 ≤ Rows.uptoBulk y.1 := by
  obtain ⟨k, e, hy, hw⟩ := DataW.trod_int Try.underlying5 h
  have hr : 0 ≤ k ∧ k ≤ 255 := by simpa [Lit.wf, IntKind.min, IntKind.max, IntKind.signed, IntKind.bits] using hw
  refine ⟨UInt8.ofNat k.toNat, ?_, trivial, ?_⟩
  · rw [e]
    have : ((UInt8.ofNat k.toNat).toNat : Int) = k := by
      rw [UInt8.toNat_ofNat']; omega
    rw [this]
  · rw [hy]; simp [Rows.uptoBulk]
theorem flat_bytes (L : List UInt8) : L.flatMap (fun b => [Value.int .u8 (b.toNat : Int)]) = bcells L := by
  induction L with
  | nil => rfl
  | cons a L ih => rw [List.flatMap_cons, ih]; rfl
theorem el_text (n : Nat) (cs' : List Value) (y : DataW H × List MemPlace) (h : DataW.trod enc Try.prog W 0 (fun _ => true) true n 53 cs' = some y) (hf : W.noneFrozen y.2) : ∃ P : TextP, cs' = P.cells ∧ P.Raw W ∧ P.size ≤ Rows.uptoBulk y.1 + 1 := by
  obtain ⟨v, L, e, h1, _, h3⟩ := arg_row (size := 1) (fun b : UInt8 => [Value.int .u8 (b.toNat : Int)]) Try.underlying53 (by kernel_rfl) (by decide) (fun _ => rfl) (fun _ => True) (fun _ => 1) el_byte h hf
  rw [flat_bytes] at h1
  rw [sum_ones] at h3
  exact ⟨⟨v, L⟩, e, h1, by show L.length + 1 ≤ _; omega⟩
theorem arg_texts {fuel : Nat} {cs : List Value} {x : DataW H × List MemPlace} (h : DataW.trod enc Try.prog W 0 (fun _ => true) true fuel 101 cs = some x) (hf : W.noneFrozen x.2) :
    ∃ (v : Value) (L : List TextP), cs = [v] ∧ RawSl W v L.length (L.flatMap TextP.cells) ∧ (∀ P ∈ L, P.Raw W) ∧ (L.map fun P => P.t.length).sum ≤ Rows.uptoBulk x.1 :=
  arg_row (size := 1) TextP.cells Try.underlying101 (by kernel_rfl) (by decide) (fun _ => rfl) (fun P => P.Raw W) (fun P => P.t.length) (fun n cs' y h hf => by
    obtain ⟨P, h1, h2, h3⟩ := el_text n cs' y h hf
    exact ⟨P, h1, h2, by unfold TextP.size at h3; omega⟩) h hf
end
theorem RawSl.bytesAt {W y : World} {a : Option Addr} {n c : Nat} {t : List UInt8} (h : RawSl W (.slice a n c) t.length (bcells t)) (hB : Below W.heap.size W y) : BytesAt y a t ∧ n = t.length ∧ (a = none → t = []) := by
  obtain ⟨a', c', e, hs, _, hn, _⟩ := h
  cases e
  refine ⟨?_, rfl, fun e => List.length_eq_zero_iff.1 (hn e)⟩
  rcases hs with h0 | ⟨b, off, e, h1⟩
  · refine .inl ?_
    cases t with
    | nil => rfl
    | cons x t => cases h0
  · refine .inr ⟨b, off, e, fun i hi => ?_⟩
    have h2 := h1 i (.int .u8 (t[i].toNat : Int)) (by unfold bcells; rw [List.getElem?_map, List.getElem?_eq_getElem hi]; rfl)
    have h3 := (Chg.of_below (S := none_) hB).cell h2.1 (fun h => h)
    rw [h3]
    simp [List.getD, hi]
theorem RawSl.text {w y : World} {a : Option Addr} {n cap : Nat} {L : List TextP} (h : RawSl w (.slice a n cap) L.length (L.flatMap TextP.cells)) (hB : Below w.heap.size w y) {i : Nat} (hi : i < L.length) :
    ∃ b off, a = some ⟨b, off, none⟩ ∧ y.cell? ⟨b, off + i, none⟩ = some L[i].v := by
  obtain ⟨a', cap', e, hs, -⟩ := h
  cases e
  rcases hs with h0 | ⟨b, off, e, hc⟩
  · have h1 := congrArg List.length h0
    rw [List.length_flatMap] at h1
    have h2 : (L.map fun a => (TextP.cells a).length).sum = (L.map fun _ => 1).sum := rfl
    rw [h2, sum_ones] at h1
    have h1' : L.length = 0 := h1
    omega
  · refine ⟨b, off, e, ?_⟩
    have h1 := hc (i * 1 + 0) L[i].v (by rw [flat_get TextP.cells 1 (fun _ => rfl) L i hi 0 (by decide)]; rfl)
    rw [Nat.mul_one, Nat.add_zero] at h1
    exact (Chg.of_below (S := none_) hB).cell h1.1 (fun h => h)
theorem shareC_map (C : List Ciph) (who c : Int) : (shareC C who c).map Ciph.plain = C.map Ciph.plain := by
  unfold shareC
  split
  · split
    · next x hx =>
      rw [List.map_set]
      apply List.ext_getElem?
      intro k
      rw [List.getElem?_set]
      split
      · next e =>
        subst e
        rw [List.getElem?_map, hx]
        split
        · rfl
        · next h => rw [List.length_map] at h; have := (List.getElem?_eq_some_iff.1 hx).1; omega
      · rfl
    · rfl
  · rfl
theorem shareC_shares {C : List Ciph} {who c : Int} {n : Nat} (h : ∀ x ∈ C, x.shares.length ≤ n) : ∀ x ∈ shareC C who c, x.shares.length ≤ n + 1 := by
  intro x hx
  unfold shareC at hx
  split at hx
  · split at hx
    · next z hz =>
      rcases List.mem_or_eq_of_mem_set hx with h1 | h1
      · have := h x h1; omega
      · subst h1
        have := h z (List.mem_of_getElem? hz)
        show (addTo z.shares who).length ≤ _
        unfold addTo
        split
        · omega
        · rw [List.length_append, List.length_singleton]; omega
    · have := h x hx; omega
  · have := h x hx; omega
/-- How many shared a cipher. -/
def shN (C : List Ciph) (c : Int) : Nat := if 1 ≤ c ∧ c ≤ C.length then ((C[(c - 1).toNat]?).map fun x => x.shares.length).getD 0 else 0
section
variable {w w' : World} {m : Nat → Thing} {l : List Thing} {p : Nat} {d : Wd} {X : WX}
theorem world_shares (c : Int) (hsz : ∀ x ∈ X.C, x.shares.length ≤ 1000000) (h : Sys w m l) (hw : m 0 = worldT p d X) :
    Calls Try.prog 50 #[.pointer (some ⟨d.pv, 0, none⟩), .int .i64 c] w fun e w' => ∃ a cap, e = .returned (.slice a (shN X.C c) cap) ∧ Sys w' m l := by
  obtain ⟨F, hF, _, _, hT⟩ := (h.vault hw).head
  by_cases hc : 1 ≤ c ∧ c ≤ X.C.length
  · have hj : (c - 1).toNat < X.C.length := by omega
    have hx := List.getElem?_eq_getElem hj
    refine (seal_shares_yes d.pv F X.need X.C c (c - 1).toNat _ w hF (by omega) hx (by have := hsz _ (List.getElem_mem hj); omega)).mono ?_
    intro e w' hb
    obtain ⟨a, cap, rfl, _, hB, _⟩ := hb.open
    refine ⟨a, cap, ?_, h.below hB⟩
    unfold shN
    rw [if_pos hc, hx]; rfl
  · refine (seal_shares_no d.pv F X.need X.C c w hF hc).mono ?_
    intro e w' hb
    obtain ⟨a, cap, rfl, _, hB, _⟩ := hb.open
    refine ⟨a, cap, ?_, h.below hB⟩
    unfold shN
    rw [if_neg hc]; rfl
end
theorem plainC_shN (need : Int) (C : List Ciph) (k : Nat) (hk : k < C.length) : plainC need C ((k : Int) + 1) = if need ≤ (shN C ((k : Int) + 1) : Int) then some C[k].plain else none := by
  have h1 : 1 ≤ (k : Int) + 1 ∧ (k : Int) + 1 ≤ C.length := by omega
  have h2 : ((k : Int) + 1 - 1).toNat = k := by omega
  unfold plainC shN
  rw [if_pos h1, if_pos h1, h2, List.getElem?_eq_getElem hk]
  rfl
theorem RawSl.below {W y : World} {v : Value} {n : Nat} {xs : List Value} (h : RawSl W v n xs) (hB : Below W.heap.size W y) : RawSl y v n xs := by
  obtain ⟨a, c, e, h1, h2, h3⟩ := h
  exact ⟨a, c, e, h1.chg0 (Chg.of_below hB), fun b off e hx => Nat.lt_of_lt_of_le (h2 b off e hx) hB.size, h3⟩
theorem MsgP.Raw.below {P : MsgP} {W y : World} (h : P.Raw W) (hB : Below W.heap.size W y) : P.Raw y :=
  ⟨h.q.below hB, h.t.below hB, h.h.below hB, h.g.below hB, h.b.below hB, fun a ha => ⟨(h.e a ha).1.below hB, (h.e a ha).2.1.below hB, (h.e a ha).2.2⟩, h.wf⟩
theorem MsgP.small {P : MsgP} (hs : P.size ≤ 2000000) : P.Small := by
  have hl := len_le_sum (fun a : BlkX × Value × Value => a.1.by_.length + a.1.envs.length + 1) (fun a => by omega) P.E
  unfold MsgP.size at hs
  refine ⟨by omega, by omega, by omega, by omega, by omega, fun e he => ?_⟩
  have hm := mem_sum_le (List.mem_map.2 ⟨e, he, rfl⟩ : e.1.by_.length + e.1.envs.length + 1 ∈ P.E.map fun a : BlkX × Value × Value => a.1.by_.length + a.1.envs.length + 1)
  exact ⟨by omega, by omega⟩
/-- A whole struct's load out of a row, behind a guard that holds. -/
theorem wpList_load_atG {P : Program} {ops : Array Oper} {rest : List Oper} {o : Oper} {a : Act} {w : World} {Q : Exit → Act → World → Prop} (hw : Region.wanted o (yielded ops a.tmps) = true) (ty : TypeId) (x : Operand) (ho : o.op = .load ty x)
    (b off : Nat) (hx : a.eval x = .pointer (some ⟨b, off, none⟩)) (cs : List Value) (d : TypeDesc) (hc : ∀ (j : Nat) (v : Value), cs[j]? = some v → w.cell? ⟨b, off + j, none⟩ = some v)
    (hu : P.underlying ty = some d) (hd : (match d with | .struct _ | .array _ _ => true | _ => false) = true) (hi : (P.info? ty).map (·.size) = some cs.length)
    (h : wpList P ops Q rest (a.put o.dst (.agg cs.toArray)) w) : wpList P ops Q (o :: rest) a w :=
  wpList_step fun K hK => by
    rw [if_pos hw]
    unfold Oper.wp execOp
    simp only [ho, hx, Instr.loadAt, Instr.sureAddr, Sem.run_bind, Sem.run_pure, Result.andThen_ok, run_loadVar_at w b off ty cs d hc hu hd hi]
    exact hK _ _ h
/-- Numbers that are laid with 'true'. -/
def boolM (L : List Int) : List (Int × Value) := L.map fun d => (d, Value.bool true)
theorem alook_bool (L : List Int) (x : Int) : alook (boolM L) x = if x ∈ L then some (Value.bool true) else none := by
  induction L with
  | nil => rfl
  | cons a L ih =>
    show (if a = x then some _ else alook (boolM L) x) = _
    by_cases e : a = x
    · subst e; rw [if_pos rfl, if_pos (List.mem_cons_self ..)]
    · rw [if_neg e, ih]
      by_cases hx : x ∈ L
      · rw [if_pos hx, if_pos (List.mem_cons_of_mem _ hx)]
      · rw [if_neg hx, if_neg (fun h => by rcases List.mem_cons.1 h with h | h; exact e h.symm; exact hx h)]
theorem aset_bool (L : List Int) (x : Int) (h : x ∉ L) : aset (boolM L) x (.bool true) = boolM (L ++ [x]) := by
  rw [aset_none (by rw [alook_bool, if_neg h])]
  unfold boolM
  rw [List.map_append]; rfl
theorem zeroBool (w : World) : (zeroValue 4).run Try.prog w = .ok (.bool false) w := by kernel_rfl
/-- The messages' rows of what is wanted. -/
def rowsM (S : List SeenX) : Thing := ex fun _ : Unit => S.map fun s => rowB s.mv s.m
section
variable {w w' : World} {m : Nat → Thing} {l : List Thing}
theorem Sys.mAt {SX : List SeenX} {s : SeenX} (h : Sys w m (rowsM SX :: l)) (hs : s ∈ SX) : Own 5 1 w s.mv s.m.length (bcells s.m) := by
  obtain ⟨_, h⟩ := h.open
  have h1 : rowB s.mv s.m ∈ (SX.map fun s => rowB s.mv s.m) ++ l := List.mem_append_left _ (List.mem_map.2 ⟨s, hs, rfl⟩)
  obtain ⟨F, hF⟩ := h.mem h1
  exact hF.1
theorem Sys.addM {SX : List SeenX} (s : SeenX) (h : Sys w m (rowsM SX :: rowB s.mv s.m :: l)) : Sys w m (rowsM (SX ++ [s]) :: l) := by
  obtain ⟨_, h⟩ := h.open
  have e : (SX.map fun s => rowB s.mv s.m) ++ (rowB s.mv s.m :: l) = ((SX ++ [s]).map fun s => rowB s.mv s.m) ++ l := by simp
  rw [e] at h
  exact Sys.close (f := fun _ : Unit => (SX ++ [s]).map fun s => rowB s.mv s.m) () h
theorem Sys.nilM (h : Sys w m l) : Sys w m (rowsM [] :: l) := Sys.close (f := fun _ : Unit => ([] : List SeenX).map fun s => rowB s.mv s.m) () h
theorem Sys.nilB (h : Sys w m l) : Sys w m (rowB (.slice none 0 0) [] :: l) := h.push (F := fun _ => False) (t := rowB (.slice none 0 0) []) (Chg.refl _ _) ⟨Own.nil _ _ _, by funext k; simp [Value.ownBlock]⟩ (fun _ h => h.elim)
end
end Go.Proofs.Ytcfhkpjheemkgaa
