/-
  tree.Path: the blocks behind one on the way to another one.
-/
import Derived.Test.YtcfhkpjheemkgaaGreatMake
import Derived.Shelf.Slices.Reverse
namespace Go.Proofs.YtcfhkpjheemkgaaGreat
set_option linter.unusedSectionVars false
set_option linter.unnecessarySimpa false
set_option linter.unusedSimpArgs false
set_option linter.unusedVariables false
open Go.RowKit Go.MapKept Go.Sort

def wayF (T : List (Int × BlkX)) (R fr : Int) : Nat → Int → Option (List Int)
  | 0, _ => none
  | k + 1, x => if x = fr then some [] else if x = R then none else (wayF T R fr k (bk T x).jb).map (x :: ·)
def wayV (T : List (Int × BlkX)) (R fr x : Int) : Option (List Int) := wayF T R fr (rankT T x) x
/-- The blocks behind one on the way to another one, where there is a way. -/
def pathV (T : List (Int × BlkX)) (R fr x : Int) : Option (List Int) := if ((alook T fr).isSome && (alook T x).isSome) = true then (wayV T R fr x).map List.reverse else none
theorem wayF_eq {T : List (Int × BlkX)} {R fr : Int} (h : TreeInv T R) : ∀ (n : Nat) (x : Int) (k k' : Nat), (alook T x).isSome = true → rankT T x ≤ n → rankT T x ≤ k → rankT T x ≤ k' → wayF T R fr k x = wayF T R fr k' x := by
  intro n
  induction n with
  | zero => intro x k k' _ hx; unfold rankT at hx; omega
  | succ n ih =>
    intro x k k' hs hn hk hk'
    obtain ⟨a, rfl⟩ : ∃ a, k = a + 1 := ⟨k - 1, by unfold rankT at hk; omega⟩
    obtain ⟨b, rfl⟩ : ∃ b, k' = b + 1 := ⟨k' - 1, by unfold rankT at hk'; omega⟩
    unfold wayF
    by_cases h1 : x = fr
    · rw [if_pos h1, if_pos h1]
    · rw [if_neg h1, if_neg h1]
      by_cases h2 : x = R
      · rw [if_pos h2, if_pos h2]
      · rw [if_neg h2, if_neg h2]
        have hr := h.rank hs h2
        rw [ih _ a b (h.2 x hs h2).1 (by omega) (by omega) (by omega)]
theorem wayV_at {T : List (Int × BlkX)} {R fr : Int} : wayV T R fr fr = some [] := by
  unfold wayV; rw [show rankT T fr = (bk T fr).view.toNat + 1 from rfl, wayF, if_pos rfl]
theorem wayV_no {T : List (Int × BlkX)} {R fr : Int} (h : R ≠ fr) : wayV T R fr R = none := by
  unfold wayV; rw [show rankT T R = (bk T R).view.toNat + 1 from rfl, wayF, if_neg h, if_pos rfl]
theorem wayV_on {T : List (Int × BlkX)} {R fr x : Int} (h : TreeInv T R) (hs : (alook T x).isSome = true) (h1 : x ≠ fr) (h2 : x ≠ R) : wayV T R fr x = (wayV T R fr (bk T x).jb).map (x :: ·) := by
  have hr := h.rank hs h2
  unfold wayV
  rw [show rankT T x = (bk T x).view.toNat + 1 from rfl, wayF, if_neg h1, if_neg h2]
  congr 1
  unfold rankT at hr
  exact wayF_eq h _ _ _ _ (h.2 x hs h2).1 (Nat.le_refl _) (by unfold rankT; omega) (Nat.le_refl _)
def PathTo (m : Nat → Thing) (l : List Thing) (o : Option (List Int)) (e : Ending) (w' : World) : Prop :=
  match o with
  | none => e = .returned (.tuple #[.slice none 0 0, .bool false]) ∧ Sys w' m l
  | some L => ∃ v, e = .returned (.tuple #[v, .bool true]) ∧ Sys w' m (own 3 1 v L.length (L.map (Value.int .i64)) :: l)
theorem pathNone {m : Nat → Thing} {l : List Thing} {o : Option (List Int)} {e : Ending} {w' : World} (ho : o = none) (h : e = .returned (.tuple #[.slice none 0 0, .bool false]) ∧ Sys w' m l) : PathTo m l o e w' := by subst ho; exact h
theorem pathSome {m : Nat → Thing} {l : List Thing} {o : Option (List Int)} {L : List Int} {e : Ending} {w' : World} (ho : o = some L) (h : ∃ v, e = .returned (.tuple #[v, .bool true]) ∧ Sys w' m (own 3 1 v L.length (L.map (Value.int .i64)) :: l)) : PathTo m l o e w' := by subst ho; exact h
section
variable {w w' : World} {m : Nat → Thing} {l : List Thing} {p pt k : Nat} {R : Int} {T : List (Int × BlkX)} {L : List Int} {v : Value}
theorem ints_reverse (h : Sys w m (own 3 1 v k (L.map (Value.int .i64)) :: l)) (hk : L.length = k) (hk2 : k ≤ 1000000) :
    Calls Tryz.prog 92 #[v] w fun z w' => z = .returned (.tuple #[]) ∧ Sys w' m (own 3 1 v k (L.reverse.map (Value.int .i64)) :: l) := by
  rcases h.getOwn.shape with ⟨rfl, rfl, hx⟩ | ⟨g, cap, rfl, hg⟩
  · have hL : L = [] := by simpa using hx
    subst hL
    refine (Any.slices_Reverse_int_empty Tryz.reverseA none 0 w).mono fun z w' ⟨h1, h2⟩ => ⟨h1, ?_⟩
    subst h2
    exact h
  · have hL : (L.length : Nat) = k := hk
    have hs := Any.slices_Reverse_int Tryz.reverseA g 0 cap L w h.getOwn.holds (by omega)
    rw [hL] at hs
    refine hs.mono fun z w' ⟨h1, n, h2⟩ => ⟨h1, ?_⟩
    subst h2
    obtain ⟨ho, hc⟩ := h.getOwn.putRow (L' := L.reverse) (List.length_reverse) n #[]
    rw [grow_empty] at ho hc
    exact h.ownTo ho hc.own (.inl rfl)
set_option maxRecDepth 100000 in
set_option maxHeartbeats 8000000 in
theorem tree_path (fr x0 : Int) (hT : TreeInv T R) (hlen : ∀ L, wayV T R fr x0 = some L → L.length ≤ 100000) (hcap : ∀ x, (bk T x).view ≤ 100000) (hm1 : m 1 = treeT pt p R T) (h : Sys w m l) :
    Calls Tryz.prog 59 #[.pointer (some ⟨pt, 0, none⟩), .int .i64 fr, .int .i64 x0] w (PathTo m l (pathV T R fr x0)) := by
  have HT := Lib.hid hT
  have HLN := Lib.hid hlen
  have HM1 := Lib.hid hm1
  have HCAP := Lib.hid hcap
  have HF := Lib.hid (tree_has fr h hm1)
  clear h hT hlen hm1 hcap
  cases hf : (alook T fr).isSome with
  | false =>
    rw [hf] at HF
    have HP : Hid (pathV T R fr x0 = none) := by show _ = _; unfold pathV; rw [hf]; rfl
    clear hf
    go_enter Tryz.func59, Tryz.ntmps59
    go_wp2_with fail
    refine HF.out.mono ?_
    rintro z z1 ⟨rfl, h⟩
    have H2 := Lib.hid h
    clear h HF
    go_wp2_with fail
    go_ret2
    exact pathNone HP.out ⟨rfl, H2.out⟩
  | true =>
    rw [hf] at HF
    cases hs : (alook T x0).isSome with
    | false =>
      have HP : Hid (pathV T R fr x0 = none) := by show _ = _; unfold pathV; rw [hs, hf]; rfl
      have HS := Lib.hid hs
      clear hf hs
      go_enter Tryz.func59, Tryz.ntmps59
      go_wp2_with fail
      refine HF.out.mono ?_
      rintro z z1 ⟨rfl, h⟩
      have HX := Lib.hid (tree_has x0 h HM1.out)
      rw [HS.out] at HX
      clear h HF
      go_wp2_with fail
      refine HX.out.mono ?_
      rintro z z2 ⟨rfl, h⟩
      have H2 := Lib.hid h
      clear h HX
      go_wp2_with fail
      go_ret2
      exact pathNone HP.out ⟨rfl, H2.out⟩
    | true =>
      have HP : Hid (pathV T R fr x0 = (wayV T R fr x0).map List.reverse) := by show _ = _; unfold pathV; rw [hs, hf]; rfl
      have HS := Lib.hid hs
      clear hf hs
      go_enter Tryz.func59, Tryz.ntmps59
      go_wp2_with fail
      refine HF.out.mono ?_
      rintro z z1 ⟨rfl, h⟩
      have HX := Lib.hid (tree_has x0 h HM1.out)
      rw [HS.out] at HX
      clear h HF
      go_wp2_with fail
      refine HX.out.mono ?_
      rintro z z2 ⟨rfl, h⟩
      have H2 := Lib.hid (h.push (F := fun _ => False) (t := own 3 1 (.slice none 0 0) ([] : List Int).length (([] : List Int).map (Value.int .i64))) (Chg.refl _ _) ⟨Own.nil _ _ _, by funext k; simp [Value.ownBlock]⟩ (fun _ h => h.elim))
      clear h HX
      go_wp2_with fail
      go_loopw [2, 8] (fun bv ov wr => ∃ (x : Int) (O : List Int), bv = .int .i64 x ∧ Hid ((alook T x).isSome = true ∧ (wayV T R fr x).map (O ++ ·) = wayV T R fr x0 ∧ O.length + rankT T x ≤ rankT T x0) ∧ Sys wr m (own 3 1 ov O.length (O.map (Value.int .i64)) :: l)) (fun bv _ _ => rankT T (intOf bv))
      case atStart => exact ⟨x0, [], rfl, ⟨HS.out, by simp, by simp⟩, H2.out⟩
      case round =>
        obtain ⟨x, O, rfl, HI, hR⟩ := hrel
        have HR := Lib.hid hR
        clear hR
        by_cases h1 : x = fr
        · have d1 : (x != fr) = false := by simpa using h1
          have HO : Hid (wayV T R fr x0 = some O) := by
            have := HI.out.2.1
            rw [h1, wayV_at] at this
            show _ = _
            rw [← this]; simp
          have HOL : Hid (O.length ≤ 1000000) := by have := HLN.out O HO.out; show _ ≤ _; omega
          clear h1
          go_wp2_with fail
          refine (ints_reverse HR.out rfl HOL.out).mono ?_
          rintro z z5 ⟨rfl, h⟩
          rw [show O.length = O.reverse.length from List.length_reverse.symm] at h
          have H5 := Lib.hid h
          clear h
          go_wp2_with fail
          go_ret2
          exact pathSome (by rw [HP.out, HO.out]; rfl) ⟨_, rfl, H5.out⟩
        · have d1 : (x != fr) = true := by simpa using h1
          obtain ⟨mb, h9⟩ := (HR.out.lift 1 HM1.out).open
          replace h9 : Sys wr (upd m 1 emp) (blk pt (.cells #[.pointer (some ⟨p, 0, none⟩), .int .i64 R, .map (some mb)] 81 (0, 0)) :: blocksT mb T :: own 3 1 u8 O.length (O.map (Value.int .i64)) :: l) := h9
          obtain ⟨t0, t1, t2⟩ := cells3 (h9.nth 0 rfl)
          clear h9
          by_cases h2 : x = R
          · have d2 : (x == R) = true := by simpa using h2
            have HP2 : Hid (pathV T R fr x0 = none) := by
              have := HI.out.2.1
              rw [h2, wayV_no (by rw [← h2]; exact h1)] at this
              show _ = _
              rw [HP.out, ← this]; rfl
            clear h1 h2
            go_wp2_with fail
            go_ret2
            exact pathNone HP2.out ⟨rfl, HR.out.tail⟩
          · have d2 : (x == R) = false := by simpa using h2
            have HW := Lib.hid (wayV_on HT.out HI.out.1 h1 h2)
            have HRK := Lib.hid (HT.out.rank HI.out.1 h2)
            have HPS := Lib.hid (HT.out.2 x HI.out.1 h2).1
            have HB : Hid (rankT T x0 ≤ 100001) := by have := HCAP.out x0; show _ ≤ _; unfold rankT; omega
            clear h1 h2
            have h4 := HR.out.alloc (.cells #[.int .i64 x] 3 (0, 0)) rfl
            obtain ⟨v5, z5, hap, h5⟩ := (h4.front 1 rfl).appInts (k := 1) (some ⟨wr.heap.size, 0, none⟩) 1 [x] rfl (ints_const (t := [x]) h4.getBlk) (by have := HI.out.2.2; have := HB.out; omega) 32
            have h6 := h5.drop 1 rfl
            rw [show O.length + 1 = (O ++ [x]).length by simp] at h6
            have H6 := Lib.hid h6
            clear h4 h5 h6
            go_upto_region 8 with (at_builtin; refine wpl_append rfl _ _ _ rfl rfl rfl hap ?_)
            clear hap t0 t1 t2
            go_wp2_with fail
            refine (tree_parent x H6.out HM1.out).mono ?_
            rintro z z7 ⟨rfl, rfl⟩
            go_wp2_with fail
            go_roundw
            case rel =>
              refine ⟨(bk T x).jb, O ++ [x], rfl, ⟨HPS.out, ?_, ?_⟩, H6.out⟩
              · have := HI.out.2.1
                rw [HW.out, Option.map_map] at this
                rw [← this]
                congr 1
                funext y
                simp
              · have := HI.out.2.2; have := HRK.out; simp only [List.length_append, List.length_singleton]; omega
            case measure => simp [intOf]; exact HRK.out
end
end Go.Proofs.YtcfhkpjheemkgaaGreat
