/-
  slices.Sorted(maps.Keys(m)) at int keys, in this seat's numbers: the keys of the map, rising, in a new slice (nil where there is none).
-/
import Derived.Test.YtcfhkpjheemkgaaIter
import Derived.Test.YtcfhkpjheemkgaaMap
namespace Go.Proofs.Ytcfhkpjheemkgaa
set_option linter.unusedSectionVars false
set_option linter.unusedSimpArgs false
set_option linter.unusedVariables false
open Go.RowKit Go.MapKept Go.Shelf Go.Maps Go.Sort

/-- A list of numbers, rising. -/
def rising (l : List Int) : List Int := l.mergeSort (fun x y => decide (x ≤ y))
theorem rising_perm (l : List Int) : (rising l).Perm l := List.mergeSort_perm _ _
theorem mem_rising {l : List Int} {x : Int} : x ∈ rising l ↔ x ∈ l := (rising_perm l).mem_iff
theorem rising_length (l : List Int) : (rising l).length = l.length := (rising_perm l).length_eq
theorem rising_of_perm {l l' : List Int} (h : l.Perm l') : rising l = rising l' := mergeSort_of_perm_i h
theorem rising_le (l : List Int) : (rising l).Pairwise (fun a b => a ≤ b) := by
  have tr : ∀ a b c : Int, decide (a ≤ b) = true → decide (b ≤ c) = true → decide (a ≤ c) = true := fun a b c h1 h2 => by simp only [decide_eq_true_eq] at *; omega
  have to : ∀ a b : Int, (decide (a ≤ b) || decide (b ≤ a)) = true := fun a b => by simp only [Bool.or_eq_true, decide_eq_true_eq]; omega
  exact (List.pairwise_mergeSort tr to l).imp (fun h => by simpa using h)
theorem rising_lt {l : List Int} (h : l.Nodup) : (rising l).Pairwise (fun a b => a < b) := by
  have h1 := rising_le l
  have h2 : (rising l).Pairwise (fun a b => a ≠ b) := (rising_perm l).nodup_iff.2 h
  exact (h1.and h2).imp (fun ⟨a, b⟩ => by omega)
theorem rising_nodup {l : List Int} (h : l.Nodup) : (rising l).Nodup := (rising_perm l).nodup_iff.2 h

theorem rising_eq {l l' : List Int} (h : l.Perm l') (hs : l'.Pairwise (fun a b => a ≤ b)) : rising l = l' :=
  List.Perm.eq_of_pairwise (le := fun a b => a ≤ b) (fun _ _ _ _ h1 h2 => Int.le_antisymm h1 h2) (rising_le l) hs ((rising_perm l).trans h)

/-- A new row of whole numbers: nil where it is empty and never was more. -/
def NewInts (w : World) (base : Nat) (v : Value) (l : List Int) : Prop :=
  (v = .slice none 0 0 ∧ l = []) ∨ ∃ b cap cs, v = .slice (some ⟨b, 0, none⟩) l.length cap ∧ base ≤ b ∧ w.heap[b]? = some (.cells cs 3 (0, 0)) ∧ l.length ≤ cap ∧ cap ≤ maxLen ∧ cs.size = cap ∧ cs.toList.take l.length = l.map (Value.int .i64)
theorem NewInts.of_own {w : World} {base : Nat} {v : Value} {n : Nat} {l : List Int} (h : w.ownsRow base 3 1 v n (l.map (Value.int .i64))) : NewInts w base v l ∧ n = l.length := by
  obtain ⟨h1, h2⟩ := h
  have hn : l.length = n := by simpa using h1
  subst hn
  refine ⟨?_, rfl⟩
  rcases h2 with ⟨h2, h3⟩ | ⟨g, cap, cur, h2, h3, h4, h5, h6, h7, h8⟩
  · exact .inl ⟨h2, List.length_eq_zero_iff.1 h3⟩
  · exact .inr ⟨g, cap, cur, h2, h3, h4, h5, h6, by simpa using h7, by simpa using h8⟩

theorem keys_TryA (mb : Option Nat) (w : World) : Calls Try.prog 82 #[.map mb] w fun e w' =>
    e = .returned (.func (.func 110) #[] #[.pointer (some ⟨w.heap.size, 0, none⟩)]) ∧ w' = w.alloc (.cells #[.map mb] 75) :=
  callsIn_wide.1 (AnyZI.keys_in Try.keysA Fence.wide 5 trivial rfl mb w)

theorem sortsA (m : Nat) : AnyZI.SortsIn Try.prog Try.sortedA_ren Fence.wide m :=
  ⟨fun blk off cap ss W hH hblk hsz => callsIn_wide.2 (AnyM.slices_Sort_int Try.sortA blk off cap ss W hH hblk hsz),
   fun p cap W => callsIn_wide.2 (AnyM.slices_Sort_int_none Try.sortA p cap W)⟩

/-- How an entry reads where only its key counts. -/
def rdKey (P : Program) (k : TypeId) (x : MapEntry) : Lit × DataW Unit := Go.WideElems.rg P k (fun _ => some (.nil, [])) x
/-- Our reading of a map is one of the library's, for whatever values. -/
theorem MapOf.owns {w : World} {b : Nat} {m : List (Int × Value)} {P : Program} {k : TypeId} (h : MapOf intKey w b m) (hk : P.underlying k = some (.int .i64)) (hw : ∀ p ∈ m, (Lit.int .i64 p.1).wf = true) (hmax : m.length ≤ maxLen) :
    ∃ D0 : DataW Unit, w.ownsMap P k (fun _ => some (.nil, [])) b m.length D0 ∧ Maps.size D0 = m.length ∧ (intKeys D0).Perm (m.map (·.1)) := by
  obtain ⟨es, clock, hb, hs, hm⟩ := h
  have hsz := MapOf.size hm
  have hrd : ∀ x ∈ es.toList, ∃ a, x.key = .int .i64 a ∧ rdKey P k x = (.int .i64 a, .nil) := by
    intro x hx
    have : (x.key, x.val) ∈ m.map (fun p => (intKey.enc p.1, p.2)) := by rw [← hm]; exact List.mem_map.2 ⟨x, hx, rfl⟩
    obtain ⟨p, hp, e⟩ := List.mem_map.1 this
    simp only [Prod.mk.injEq] at e
    refine ⟨p.1, e.1.symm, ?_⟩
    have hkey := keyOf_int_mk hk (hw p hp)
    unfold rdKey Go.WideElems.rg Go.WideElems.rd
    rw [← e.1]
    show ((keyOf P k (.int .i64 p.1)).bind _).getD _ = _
    rw [hkey]; rfl
  refine ⟨.map ((es.toList.map (Go.WideElems.rg P k (fun _ => some (.nil, [])))).foldr DataW.insert []), ⟨es, clock, hb, ⟨by rw [hsz]; exact hmax, hs, fun x hx => ?_⟩, by omega, rfl⟩, ?_, ?_⟩
  · obtain ⟨a, ha, _⟩ := hrd x hx
    have : (x.key, x.val) ∈ m.map (fun p => (intKey.enc p.1, p.2)) := by rw [← hm]; exact List.mem_map.2 ⟨x, hx, rfl⟩
    obtain ⟨p, hp, e⟩ := List.mem_map.1 this
    simp only [Prod.mk.injEq] at e
    refine ⟨(.int .i64 p.1, .nil), ?_⟩
    unfold Go.WideElems.rd
    rw [← e.1]
    show (keyOf P k (.int .i64 p.1)).bind _ = _
    rw [keyOf_int_mk hk (hw p hp)]; rfl
  · rw [Maps.size_eq, (WideShapes.sorted_perm _).length_eq, List.length_map, Array.length_toList, hsz]
  · show (List.map (fun (p : Lit × DataW Unit) => Go.intOf p.1) _).Perm _
    refine ((WideShapes.sorted_perm _).map _).trans ?_
    rw [List.map_map]
    have e1 : es.toList.map ((fun (p : Lit × DataW Unit) => Go.intOf p.1) ∘ Go.WideElems.rg P k (fun _ => some (.nil, []))) = m.map (·.1) := by
      have e2 : es.toList.map (fun x => Go.intOf (match x.key with | .int _ a => .int .i64 a | _ => .bool false)) = m.map (·.1) := by
        have := congrArg (List.map fun (q : Value × Value) => Go.intOf (match q.1 with | .int _ a => .int .i64 a | _ => .bool false)) hm
        simpa [List.map_map, Function.comp_def, intKey, Go.intOf] using this
      rw [← e2]
      refine List.map_congr_left fun x hx => ?_
      obtain ⟨a, ha, hr⟩ := hrd x hx
      show Go.intOf (Go.WideElems.rg P k (fun _ => some (.nil, [])) x).1 = _
      have hr' : Go.WideElems.rg P k (fun _ => some (DataW.nil, [])) x = (Lit.int .i64 a, DataW.nil) := hr
      rw [hr', ha]
    rw [e1]

set_option maxHeartbeats 1000000 in
/-- slices.Sorted at what maps.Keys handed back of a map that is not nil. -/
theorem sorted_TryA (b : Nat) (m : List (Int × Value)) (w : World) (h : MapOf intKey w b m) (hw : ∀ p ∈ m, (Lit.int .i64 p.1).wf = true) (hmax : m.length * 8 ≤ 140737488355328) :
    Calls Try.prog 81 #[.func (.func 110) #[] #[.pointer (some ⟨w.heap.size, 0, none⟩)]] (w.alloc (.cells #[.map (some b)] 75))
      fun e w' => ∃ v, e = .returned v ∧ NewInts w' (w.heap.size + 1) v (rising (m.map (·.1))) ∧ Below (w.heap.size + 1) (w.alloc (.cells #[.map (some b)] 75)) w' := by
  have hml : m.length ≤ maxLen := by unfold maxLen; omega
  obtain ⟨D0, hown, hsz, hperm⟩ := h.owns Try.underlying3 hw hml
  have hbl := hown.lt
  have hseq : SeqGives Fence.wide 2 Try.prog 110 #[.pointer (some ⟨w.heap.size, 0, none⟩)] encZ (fun ss => ss.Perm (intKeys D0)) (Maps.size D0) (w.alloc (.cells #[.map (some b)] 75)) :=
    AnyZI.keys_gives (ρ := Try.keysA_ren) { Try.keysA with } Fence.wide _ trivial rfl (by omega) w.heap.size b _ D0 _ (by simp) (by simp) (by
      obtain ⟨es, clock, hb, Ft, hs, hD⟩ := hown
      exact ⟨es, clock, (Below.heap_alloc _ _ b hbl).trans hb, Ft, hs, hD⟩)
  have cS := AnyZI.sorted_in Try.sortedA Fence.wide 5 trivial trivial trivial trivial rfl (by omega) (sortsA _) (enters_of Try.func109 (by kernel_rfl) rfl) 110 #[.pointer (some ⟨w.heap.size, 0, none⟩)] trivial (enters_of Try.func110 (by kernel_rfl) rfl) _ _ (by rw [hsz]; exact hml) (by rw [hsz]; exact hmax) _ hseq
  change CallsIn _ _ Try.prog 81 _ _ _ at cS
  refine (callsIn_wide.1 cS).mono ?_
  rintro e w' ⟨v, ss, rfl, hS, hrow, _, hb⟩
  have hr : rising ss = rising (m.map (·.1)) := rising_of_perm (hS.trans hperm)
  have hrow' : w'.ownsRow (w.heap.size + 1) 3 1 v ss.length ((rising ss).map (Value.int .i64)) := by
    have h0 : (w.alloc (.cells #[.map (some b)] 75)).heap.size = w.heap.size + 1 := by simp
    rw [← h0]; exact hrow
  rw [hr] at hrow'
  exact ⟨v, rfl, (NewInts.of_own hrow').1, by simpa using hb⟩

set_option maxHeartbeats 1000000 in
/-- .. of a nil map: nil. -/
theorem sorted_TryA_nil (w : World) :
    Calls Try.prog 81 #[.func (.func 110) #[] #[.pointer (some ⟨w.heap.size, 0, none⟩)]] (w.alloc (.cells #[.map none] 75))
      fun e w' => e = .returned (.slice none 0 0) ∧ Below (w.heap.size + 1) (w.alloc (.cells #[.map none] 75)) w' := by
  have hseq : SeqGives Fence.wide 2 Try.prog 110 #[.pointer (some ⟨w.heap.size, 0, none⟩)] encZ (fun ss : List Int => ss = []) 0 (w.alloc (.cells #[.map none] 75)) :=
    AnyZI.keys_gives_nil (ρ := Try.keysA_ren) { Try.keysA with } Fence.wide _ trivial rfl w.heap.size _ (by simp) (by simp)
  have cS := AnyZI.sorted_in Try.sortedA Fence.wide 5 trivial trivial trivial trivial rfl (by omega) (sortsA _) (enters_of Try.func109 (by kernel_rfl) rfl) 110 #[.pointer (some ⟨w.heap.size, 0, none⟩)] trivial (enters_of Try.func110 (by kernel_rfl) rfl) _ 0 (Nat.zero_le _) (by omega) _ hseq
  change CallsIn _ _ Try.prog 81 _ _ _ at cS
  refine (callsIn_wide.1 cS).mono ?_
  rintro e w' ⟨v, ss, rfl, rfl, hrow, hnil, hb⟩
  obtain rfl : v = .slice none 0 0 := hnil.2 rfl
  exact ⟨rfl, by simpa using hb⟩
end Go.Proofs.Ytcfhkpjheemkgaa
