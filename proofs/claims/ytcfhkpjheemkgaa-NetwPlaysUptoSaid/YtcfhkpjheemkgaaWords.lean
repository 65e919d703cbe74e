/-
  Rows of bytes that the program writes (plain), and digests: the number of a row in a list of rows.
-/
import Derived.Test.YtcfhkpjheemkgaaBytes
namespace Go.Proofs.Ytcfhkpjheemkgaa
set_option linter.unusedSectionVars false
set_option linter.unusedSimpArgs false
set_option linter.unusedVariables false
open Go.RowKit Go.MapKept

/-- The j-th byte of a number of eight bytes, the highest first. -/
def be (n : Int) (j : Nat) : UInt8 := UInt8.ofNat ((n / ((2 ^ (56 - 8 * j) : Nat) : Int)) % 256).toNat
def be8 (n : Int) : List UInt8 := [be n 0, be n 1, be n 2, be n 3, be n 4, be n 5, be n 6, be n 7]
theorem be8_length (n : Int) : (be8 n).length = 8 := rfl
theorem be_toNat (n : Int) (j : Nat) : ((be n j).toNat : Int) = (n / ((2 ^ (56 - 8 * j) : Nat) : Int)) % 256 := by
  unfold be
  have h0 := Int.emod_nonneg (n / ((2 ^ (56 - 8 * j) : Nat) : Int)) (show (256 : Int) ≠ 0 by decide)
  have h1 := Int.emod_lt_of_pos (n / ((2 ^ (56 - 8 * j) : Nat) : Int)) (show (0 : Int) < 256 by decide)
  rw [UInt8.toNat_ofNat']
  omega
theorem be_inj {n m : Int} (hn0 : 0 ≤ n) (hn : n < 18446744073709551616) (hm0 : 0 ≤ m) (hm : m < 18446744073709551616) (h : be8 n = be8 m) : n = m := by
  simp only [be8, List.cons.injEq, and_true] at h
  obtain ⟨h0, h1, h2, h3, h4, h5, h6, h7⟩ := h
  have g : ∀ j, be n j = be m j → (n / ((2 ^ (56 - 8 * j) : Nat) : Int)) % 256 = (m / ((2 ^ (56 - 8 * j) : Nat) : Int)) % 256 := fun j e => by rw [← be_toNat, ← be_toNat, e]
  have g0 := g 0 h0
  have g1 := g 1 h1
  have g2 := g 2 h2
  have g3 := g 3 h3
  have g4 := g 4 h4
  have g5 := g 5 h5
  have g6 := g 6 h6
  have g7 := g 7 h7
  clear g h0 h1 h2 h3 h4 h5 h6 h7
  simp at g0 g1 g2 g3 g4 g5 g6 g7
  have e0 : n / 72057594037927936 = m / 72057594037927936 := by omega
  have e1 : n / 281474976710656 = m / 281474976710656 := by omega
  have e2 : n / 1099511627776 = m / 1099511627776 := by omega
  have e3 : n / 4294967296 = m / 4294967296 := by omega
  have e4 : n / 16777216 = m / 16777216 := by omega
  have e5 : n / 65536 = m / 65536 := by omega
  have e6 : n / 256 = m / 256 := by omega
  omega
/-- uint64(n). -/
def u64 (n : Int) : Int := n % 18446744073709551616
theorem u64_range (n : Int) : 0 ≤ u64 n ∧ u64 n < 18446744073709551616 := by unfold u64; omega
def intB (n : Int) : List UInt8 := be8 (u64 n)
theorem intB_length (n : Int) : (intB n).length = 8 := rfl
theorem wf_range {n : Int} (h : (Lit.int .i64 n).wf = true) : -9223372036854775808 ≤ n ∧ n ≤ 9223372036854775807 := by
  simp [Lit.wf, IntKind.min, IntKind.max, IntKind.signed, IntKind.bits] at h
  omega
theorem wf_mk {n : Int} (h0 : -9223372036854775808 ≤ n) (h1 : n ≤ 9223372036854775807) : (Lit.int .i64 n).wf = true := by
  simp [Lit.wf, IntKind.min, IntKind.max, IntKind.signed, IntKind.bits]
  omega
theorem intB_inj {n m : Int} (hn : (Lit.int .i64 n).wf = true) (hm : (Lit.int .i64 m).wf = true) (h : intB n = intB m) : n = m := by
  have e := be_inj (u64_range n).1 (u64_range n).2 (u64_range m).1 (u64_range m).2 h
  have hn' := wf_range hn
  have hm' := wf_range hm
  unfold u64 at e
  omega
def intsB (l : List Int) : List UInt8 := l.flatMap intB
theorem intsB_length (l : List Int) : (intsB l).length = l.length * 8 := by
  induction l with
  | nil => rfl
  | cons a l ih => simp only [intsB, List.flatMap_cons, List.length_append, List.length_cons] at *; rw [ih, intB_length]; omega
theorem intsB_snoc (l : List Int) (a : Int) : intsB (l ++ [a]) = intsB l ++ intB a := by simp [intsB]
theorem intsB_append (l l' : List Int) : intsB (l ++ l') = intsB l ++ intsB l' := by simp [intsB]
theorem intsB_inj : ∀ {l m : List Int}, (∀ a ∈ l, (Lit.int .i64 a).wf = true) → (∀ a ∈ m, (Lit.int .i64 a).wf = true) → intsB l = intsB m → l = m
  | [], [], _, _, _ => rfl
  | [], b :: m, _, _, h => by have := congrArg List.length h; rw [intsB_length, intsB_length] at this; simp at this
  | a :: l, [], _, _, h => by have := congrArg List.length h; rw [intsB_length, intsB_length] at this; simp at this
  | a :: l, b :: m, hl, hm, h => by
    have h' : intB a ++ intsB l = intB b ++ intsB m := h
    have := List.append_inj h' rfl
    rw [intB_inj (hl a (by simp)) (hm b (by simp)) this.1, intsB_inj (fun x hx => hl x (by simp [hx])) (fun x hx => hm x (by simp [hx])) this.2]
def textB (t : List UInt8) : List UInt8 := intB t.length ++ t
/-- The bytes of a text and numbers. -/
def tagB (t : List UInt8) (l : List Int) : List UInt8 := textB t ++ intsB l
theorem tagB_length (t : List UInt8) (l : List Int) : (tagB t l).length = 8 + t.length + l.length * 8 := by
  unfold tagB textB; rw [List.length_append, List.length_append, intB_length, intsB_length]
theorem tagB_tag {t t' : List UInt8} {l l' : List Int} (ht : t.length ≤ 1000) (ht' : t'.length ≤ 1000) (h : tagB t l = tagB t' l') : t = t' ∧ intsB l = intsB l' := by
  unfold tagB textB at h
  rw [List.append_assoc, List.append_assoc] at h
  have h1 := List.append_inj h rfl
  have e : (t.length : Int) = t'.length := intB_inj (wf_mk (by omega) (by omega)) (wf_mk (by omega) (by omega)) h1.1
  exact List.append_inj h1.2 (by omega)
theorem tagB_inj {t t' : List UInt8} {l l' : List Int} (ht : t.length ≤ 1000) (ht' : t'.length ≤ 1000) (hl : ∀ a ∈ l, (Lit.int .i64 a).wf = true) (hl' : ∀ a ∈ l', (Lit.int .i64 a).wf = true) (h : tagB t l = tagB t' l') : t = t' ∧ l = l' := by
  obtain ⟨h1, h2⟩ := tagB_tag ht ht' h
  exact ⟨h1, intsB_inj hl hl' h2⟩

/-! ### digests -/
def dg (T : List (List UInt8)) (x : List UInt8) : Int := (T.idxOf x : Int) + 1
def addT (T : List (List UInt8)) (x : List UInt8) : List (List UInt8) := if x ∈ T then T else T ++ [x]
theorem mem_addT {T : List (List UInt8)} {x y : List UInt8} : y ∈ addT T x ↔ y ∈ T ∨ y = x := by
  unfold addT; split
  · next h => exact ⟨.inl, fun h' => h'.elim id (fun e => e ▸ h)⟩
  · simp
theorem dg_pos (T : List (List UInt8)) (x : List UInt8) : 1 ≤ dg T x ∧ dg T x ≤ T.length + 1 := by
  unfold dg
  have := List.idxOf_le_length (l := T) (a := x)
  omega
theorem addT_length (T : List (List UInt8)) (x : List UInt8) : T.length ≤ (addT T x).length ∧ (addT T x).length ≤ T.length + 1 := by
  unfold addT; split <;> simp
/-- A digest stays. -/
theorem dg_addT {T : List (List UInt8)} {x y : List UInt8} (h : y ∈ T ∨ y = x) : dg (addT T x) y = dg T y := by
  unfold addT; split
  · rfl
  · next hx =>
    unfold dg
    rcases h with h | rfl
    · rw [List.idxOf_append, if_pos h]
    · rw [List.idxOf_append, if_neg hx]
      simp [List.idxOf_eq_length hx]
theorem dg_inj {T : List (List UInt8)} {x y : List UInt8} (hx : x ∈ T) (h : dg T x = dg T y) : x = y := by
  unfold dg at h
  have e : T.idxOf x = T.idxOf y := by omega
  have hlt := List.idxOf_lt_length_iff.2 hx
  have h1 : T[T.idxOf x] = x := List.getElem_idxOf hlt
  have hlt' : T.idxOf y < T.length := by omega
  have h2 : T[T.idxOf y] = y := List.getElem_idxOf hlt'
  rw [← h1, ← h2]
  congr 1
def bstr (x : List UInt8) : ByteArray := ⟨x.toArray⟩
theorem bstr_inj {x y : List UInt8} (h : bstr x = bstr y) : x = y := by
  have : (bstr x).data.toList = (bstr y).data.toList := by rw [h]
  simpa [bstr] using this
/-- The arena's map. -/
def tmapFrom : Nat → List (List UInt8) → List (ByteArray × Value)
  | _, [] => []
  | k, x :: T => (bstr x, .int .i64 ((k : Int) + 1)) :: tmapFrom (k + 1) T
def tmap (T : List (List UInt8)) : List (ByteArray × Value) := tmapFrom 0 T
theorem tmapFrom_look (T : List (List UInt8)) (x : List UInt8) : ∀ k, alook (tmapFrom k T) (bstr x) = if x ∈ T then some (.int .i64 ((k : Int) + (T.idxOf x : Int) + 1)) else none := by
  induction T with
  | nil => intro k; simp [tmapFrom, alook]
  | cons y T ih =>
    intro k
    by_cases h : y = x
    · subst h; simp [tmapFrom, alook]
    · have h' : ¬ bstr y = bstr x := fun e => h (bstr_inj e)
      simp only [tmapFrom, alook, h', if_false, ih, List.mem_cons, Ne.symm h, false_or, List.idxOf_cons, beq_iff_eq, h]
      split
      · simp only [Option.some.injEq, Value.int.injEq, true_and]
        have : (y == x) = false := by simpa using h
        rw [this]
        simp
        omega
      · rfl
theorem tmap_look (T : List (List UInt8)) (x : List UInt8) : (alook (tmap T) (bstr x)).getD (.int .i64 0) = .int .i64 (if x ∈ T then dg T x else 0) := by
  unfold tmap; rw [tmapFrom_look]
  split
  · simp [dg]
  · rfl
theorem tmapFrom_snoc (T : List (List UInt8)) (x : List UInt8) : ∀ k, tmapFrom k (T ++ [x]) = tmapFrom k T ++ [(bstr x, .int .i64 (((k + T.length : Nat) : Int) + 1))] := by
  induction T with
  | nil => intro k; simp [tmapFrom]
  | cons y T ih =>
    intro k
    simp only [List.cons_append, tmapFrom, ih, List.cons_append, List.length_cons]
    congr 4
    simp
    omega
theorem tmap_set {T : List (List UInt8)} {x : List UInt8} (h : x ∉ T) : aset (tmap T) (bstr x) (.int .i64 ((T.length : Int) + 1)) = tmap (T ++ [x]) := by
  have hn : alook (tmap T) (bstr x) = none := by unfold tmap; rw [tmapFrom_look, if_neg h]
  rw [aset_none hn]; unfold tmap; rw [tmapFrom_snoc]; simp
end Go.Proofs.Ytcfhkpjheemkgaa
