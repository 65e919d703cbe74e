/-
  Accounts, and a new ledger.
-/
import Derived.Test.YtcfhkpjheemkgaaGreatDelF
import Derived.Laws.Externs
import Derived.Laws.OwnMore
namespace Go.Proofs.YtcfhkpjheemkgaaGreat
set_option linter.unusedSectionVars false
set_option linter.unnecessarySimpa false
set_option linter.unusedSimpArgs false
set_option linter.unusedVariables false
open Go.RowKit Go.MapKept

def rowsA (A : List (Int × Int)) : List Value := A.flatMap fun x => [.int .u64 x.1, .int .u64 x.2]
theorem rowsA_length (A : List (Int × Int)) : (rowsA A).length = A.length * 2 := by
  induction A with
  | nil => rfl
  | cons a A ih => simp only [rowsA, List.flatMap_cons, List.length_append, List.length_cons, List.length_nil] at *; omega
theorem rowsA_get (A : List (Int × Int)) (i : Nat) (h : i < A.length) : (rowsA A)[i * 2]? = some (.int .u64 (A.getD i (0, 0)).1) ∧ (rowsA A)[i * 2 + 1]? = some (.int .u64 (A.getD i (0, 0)).2) := by
  induction A generalizing i with
  | nil => simp at h
  | cons a A ih =>
    cases i with
    | zero => exact ⟨rfl, rfl⟩
    | succ i =>
      have := ih i (by simpa using h)
      simp only [rowsA, List.flatMap_cons] at *
      rw [List.getElem?_append_right (by simp; omega), List.getElem?_append_right (by simp; omega)]
      simp only [List.length_cons, List.length_nil]
      rw [show (i + 1) * 2 - (0 + 1 + 1) = i * 2 by omega, show (i + 1) * 2 + 1 - (0 + 1 + 1) = i * 2 + 1 by omega]
      exact this
theorem rowsA_set (A : List (Int × Int)) (i : Nat) (h : i < A.length) (x y : Int) : rowsA (A.set i (x, y)) = (rowsA A).take (i * 2) ++ [.int .u64 x, .int .u64 y] ++ (rowsA A).drop (i * 2 + 2) := by
  induction A generalizing i with
  | nil => simp at h
  | cons a A ih =>
    cases i with
    | zero => simp [rowsA]
    | succ i =>
      have := ih i (by simpa using h)
      simp only [rowsA, List.set_cons_succ, List.flatMap_cons] at *
      rw [this, show (i + 1) * 2 = i * 2 + 2 by omega]
      simp
theorem rowsA_zero (n : Nat) : rowsA (List.replicate n (0, 0)) = List.replicate (n * 2) (.int .u64 0) := by
  induction n with
  | zero => rfl
  | succ n ih =>
    simp only [rowsA, List.replicate_succ, List.flatMap_cons] at *
    rw [ih, show (n + 1) * 2 = n * 2 + 2 by omega]
    simp [List.replicate_succ]
theorem madeCells_zero {z : Array Value} {v : Value} (hz : ∀ u ∈ z.toList, u = v) (h0 : 0 < z.size) (n : Nat) : (madeCells z n).toList = List.replicate n v := by
  apply List.ext_getElem
  · simp [madeCells]
  · intro i h1 h2
    simp only [madeCells, Array.toList_map, Array.toList_range, List.getElem_map, List.getElem_range, List.getElem_replicate]
    have hm := Nat.mod_lt i h0
    rw [getElem!_pos z _ hm]
    exact hz _ (by simp)
def acctF (pa : Nat) (A : List (Int × Int)) : Value → List Thing := fun v => [blk pa (.cells #[v] 146 (0, 0)), own 106 2 v A.length (rowsA A)]
def acctT (pa : Nat) (A : List (Int × Int)) : Thing := ex (acctF pa A)
def inA (n : Nat) (c : Int) : Bool := decide (0 ≤ c) && decide (c < (n : Int))
section
variable {w w' : World} {m : Nat → Thing} {l : List Thing} {pa : Nat} {A : List (Int × Int)}
theorem add64 (x y : Int) (hx : 0 ≤ x) (hy : 0 ≤ y) (w : World) : (callFunc 104 #[.int .u64 x, .int .u64 y, .int .u64 0]).run Tryz.prog w = .ok (.value (.tuple #[.int .u64 ((x + y) % 18446744073709551616), .int .u64 ((x + y) / 18446744073709551616)])) w := by
  rw [run_callFunc_extern Tryz.func104 (by kernel_rfl) (by kernel_rfl) (by kernel_rfl) (e := add64Entry) (by kernel_rfl), run_add64 x y 0 hx hy (by omega) (by omega)]
  simp only [Result.andThen, Int.add_zero]
set_option maxRecDepth 100000 in
set_option maxHeartbeats 1000000 in
theorem chk_add (x y : Int) (hx : 0 ≤ x) (hy : 0 ≤ y) (hs : x + y < 18446744073709551616) (w : World) : Calls Tryz.prog 85 #[.int .u64 x, .int .u64 y] w fun e w' => e = .returned (.tuple #[.int .u64 (x + y), .bool true]) ∧ w = w' := by
  have e1 := add64 x y hx hy w
  rw [show (x + y) % 18446744073709551616 = x + y by omega, show (x + y) / 18446744073709551616 = 0 by omega] at e1
  clear hs hx hy
  go_enter Tryz.func85, Tryz.ntmps85
  go_wp2_with fail
  go_ret2
  exact ⟨rfl, rfl⟩
set_option maxRecDepth 100000 in
set_option maxHeartbeats 1000000 in
theorem acct_new (n : Nat) (hn : n ≤ 1000) (h : Sys w m l) : Calls Tryz.prog 47 #[.int .i64 n] w fun e w' => ∃ pa, e = .returned (.pointer (some ⟨pa, 0, none⟩)) ∧ Sys w' m (acctT pa (List.replicate n (0, 0)) :: l) := by
  obtain ⟨i, hi, hz, hs1, hby⟩ := info_parts' (P := Tryz.prog) (e := 106) (z := some (.agg #[.int .u64 0, .int .u64 0])) (s := 2) (b := 16) (by kernel_rfl)
  obtain ⟨w1, hrun, hown, hgr⟩ := run_makeSlice_full (P := Tryz.prog) w 0 144 106 i _ 2 Tryz.underlying144 hi hz hs1 .i64 .i64 n (by omega) (by rw [hby]; omega) (by unfold maxLen; omega) (Nat.zero_le _)
  rw [madeCells_zero (v := .int .u64 0) (by intro u hu; simp [Value.cells] at hu; exact hu) (by decide), ← rowsA_zero] at hown
  have h1 : Sys w1 m (own 106 2 (.slice (some ⟨w.heap.size, 0, none⟩) n n) n (rowsA (List.replicate n (0, 0))) :: l) := h.pushOwn ⟨hgr.os, hgr.tape, hgr.output, hgr.size, fun k hk => hgr.block k hk (by simp)⟩ hown (fun k hk => by cases hk; exact Nat.le_refl _)
  have h2 := h1.alloc (.cells #[.slice (some ⟨w.heap.size, 0, none⟩) n n] 146 (0, 0)) rfl
  have H2 : Hid (Sys _ m (acctT w1.heap.size (List.replicate n (0, 0)) :: l)) := Sys.close (f := acctF w1.heap.size (List.replicate n (0, 0))) (.slice (some ⟨w.heap.size, 0, none⟩) n n) (by
    show Sys _ m (blk _ _ :: own _ _ _ (List.replicate n ((0 : Int), (0 : Int))).length _ :: l)
    rw [List.length_replicate]; exact h2)
  have hm1 : imin (imax (n : Int) 0) 1000 = (n : Int) := by unfold imin imax; omega
  have hmax := @run_imax Tryz.prog
  have hmin := @run_imin Tryz.prog
  clear h h1 h2 hown hgr hi hz hs1 hby
  go_enter Tryz.func47, Tryz.ntmps47
  go_wp2_with fail
  go_ret
  exact ⟨_, rfl, H2.out⟩
set_option maxRecDepth 100000 in
set_option maxHeartbeats 1000000 in
theorem acct_has (c : Int) (h : Sys w m (acctT pa A :: l)) (hl : A.length ≤ 1000) : Calls Tryz.prog 89 #[.pointer (some ⟨pa, 0, none⟩), .int .i64 c] w fun e w' => e = .returned (.bool (inA A.length c)) ∧ w = w' := by
  obtain ⟨v, h1⟩ := h.open
  replace h1 : Sys w m (blk pa (.cells #[v] 146 (0, 0)) :: own 106 2 v A.length (rowsA A) :: l) := h1
  have c0 := cell_of_blk (h1.nth 0 rfl) 0
  simp at c0
  obtain ⟨a, k, cap, rfl, hk⟩ := h1.tail.getOwn.slice
  obtain rfl := hk.out
  unfold inA
  clear h h1 hk
  by_cases hd : 0 ≤ c
  · have hd1 : decide (0 ≤ c) = true := by simpa using hd
    rw [hd1, Bool.true_and]
    go_enter Tryz.func89, Tryz.ntmps89
    go_wp2_with fail
    go_ret
    exact ⟨rfl, rfl⟩
  · have hd1 : decide (0 ≤ c) = false := by simpa using hd
    rw [hd1, Bool.false_and]
    go_enter Tryz.func89, Tryz.ntmps89
    go_wp2_with fail
    go_ret
    exact ⟨rfl, rfl⟩
set_option maxRecDepth 100000 in
set_option maxHeartbeats 1000000 in
theorem acct_asset (c : Int) (hc : 0 ≤ c ∧ c < 2) (w : World) : Calls Tryz.prog 103 #[.int .i64 c] w fun e w' => e = .returned (.bool true) ∧ w = w' := by
  have d1 : decide (0 ≤ c) = true := by simpa using hc.1
  have d2 : decide (c < 2) = true := by simpa using hc.2
  clear hc
  go_enter Tryz.func103, Tryz.ntmps103
  go_wp2_with fail
  go_ret
  exact ⟨rfl, rfl⟩
set_option maxRecDepth 100000 in
set_option maxHeartbeats 1000000 in
theorem acct_wrong (c s : Int) (hc : inA A.length c = true) (hs : 0 ≤ s ∧ s < 2) (h : Sys w m (acctT pa A :: l)) (hl : A.length ≤ 1000) : Calls Tryz.prog 84 #[.pointer (some ⟨pa, 0, none⟩), .int .i64 c, .int .i64 s] w fun e w' => e = .returned (.int .i64 0) ∧ w = w' := by
  have H1 := Lib.hid (acct_has c h hl)
  rw [hc] at H1
  have H2 := Lib.hid (acct_asset s hs w)
  clear h hc hs hl
  go_enter Tryz.func84, Tryz.ntmps84
  go_wp2_with fail
  refine H1.out.mono ?_
  rintro e w1 ⟨rfl, rfl⟩
  go_wp2_with fail
  refine H2.out.mono ?_
  rintro e w1 ⟨rfl, rfl⟩
  go_wp2_with fail
  go_ret
  exact ⟨rfl, rfl⟩
def getA (A : List (Int × Int)) (c s : Int) : Int := if s = 0 then (A.getD c.toNat (0, 0)).1 else (A.getD c.toNat (0, 0)).2
def setA (A : List (Int × Int)) (c : Nat) (s : Int) (v : Int) : List (Int × Int) := A.set c (if s = 0 then (v, (A.getD c (0, 0)).2) else ((A.getD c (0, 0)).1, v))
set_option maxRecDepth 100000 in
set_option maxHeartbeats 1000000 in
theorem acct_free (c s : Int) (hs : s = 0 ∨ s = 1) (h : Sys w m (acctT pa A :: l)) (hl : A.length ≤ 1000) : Calls Tryz.prog 91 #[.pointer (some ⟨pa, 0, none⟩), .int .i64 c, .int .i64 s] w fun e w' => e = .returned (.int .u64 (if inA A.length c then getA A c s else 0)) ∧ w = w' := by
  have H1 := Lib.hid (acct_has c h hl)
  have H2 := Lib.hid (acct_asset s (by omega) w)
  cases hc : inA A.length c with
  | false =>
    rw [hc] at H1
    clear h hl hc
    go_enter Tryz.func91, Tryz.ntmps91
    go_wp2_with fail
    refine H1.out.mono ?_
    rintro e w1 ⟨rfl, rfl⟩
    go_wp2_with fail
    go_ret
    exact ⟨rfl, rfl⟩
  | true =>
    rw [hc] at H1
    unfold inA at hc
    simp only [Bool.and_eq_true, decide_eq_true_eq] at hc
    obtain ⟨i, rfl⟩ : ∃ i : Nat, c = (i : Int) := ⟨c.toNat, by omega⟩
    have hi : i < A.length := by omega
    obtain ⟨v, h1⟩ := h.open
    replace h1 : Sys w m (blk pa (.cells #[v] 146 (0, 0)) :: own 106 2 v A.length (rowsA A) :: l) := h1
    have c0 := cell_of_blk (h1.nth 0 rfl) 0
    simp at c0
    obtain ⟨a, k, cap, rfl, hk⟩ := h1.tail.getOwn.slice
    obtain rfl := hk.out
    obtain ⟨g, rfl⟩ : ∃ g, a = some ⟨g, 0, none⟩ := by
      obtain ⟨_, _, e, hnc, hcm, hxl, ha⟩ := h1.tail.getOwn.open
      cases e
      rcases ha with ⟨_, h0, _⟩ | ⟨g, cs, rfl, hg, hcs, ht⟩
      · omega
      · exact ⟨g, rfl⟩
    obtain ⟨r0, r1⟩ := rowsA_get A i hi
    have f0 := (h1.tail.getOwn.at_ _ _ r0).1
    have f1 := (h1.tail.getOwn.at_ _ _ r1).1
    have hil : (i : Int) < (A.length : Int) := by omega
    have hG : Hid (getA A i s = if s = 0 then (A.getD i (0, 0)).1 else (A.getD i (0, 0)).2) := by show _ = _; unfold getA; rw [Int.toNat_natCast]
    obtain ⟨x0, hx0⟩ : ∃ x, x = (A.getD i (0, 0)).1 := ⟨_, rfl⟩
    obtain ⟨x1, hx1⟩ : ∃ x, x = (A.getD i (0, 0)).2 := ⟨_, rfl⟩
    rw [← hx0] at f0 hG
    rw [← hx1] at f1 hG
    clear h h1 hc hk hl r0 r1 hx0 hx1 hi
    rcases hs with rfl | rfl
    · go_enter Tryz.func91, Tryz.ntmps91
      go_wp2_with fail
      refine H1.out.mono ?_
      rintro e w1 ⟨rfl, rfl⟩
      go_wp2_with fail
      refine H2.out.mono ?_
      rintro e w1 ⟨rfl, rfl⟩
      go_wp2_with fail
      go_ret
      exact ⟨by rw [hG.out]; rfl, rfl⟩
    · go_enter Tryz.func91, Tryz.ntmps91
      go_wp2_with fail
      refine H1.out.mono ?_
      rintro e w1 ⟨rfl, rfl⟩
      go_wp2_with fail
      refine H2.out.mono ?_
      rintro e w1 ⟨rfl, rfl⟩
      go_wp2_with fail
      go_ret
      exact ⟨by rw [hG.out]; rfl, rfl⟩
set_option maxRecDepth 100000 in
set_option maxHeartbeats 2000000 in
theorem acct_put (i : Nat) (s v : Int) (hs : s = 0 ∨ s = 1) (hi : i < A.length) (hv : 0 ≤ v) (h0 : 0 ≤ getA A i s) (hsum : getA A i s + v < 18446744073709551616) (h : Sys w m (acctT pa A :: l)) (hl : A.length ≤ 1000) :
    Calls Tryz.prog 50 #[.pointer (some ⟨pa, 0, none⟩), .int .i64 i, .int .i64 s, .int .u64 v] w fun e w' => e = .returned (.int .i64 0) ∧ Sys w' m (acctT pa (setA A i s (getA A i s + v)) :: l) := by
  have H1 := Lib.hid (acct_wrong (i : Int) s (by unfold inA; simp; omega) (by omega) h hl)
  obtain ⟨v, h1⟩ := h.open
  replace h1 : Sys w m (blk pa (.cells #[v] 146 (0, 0)) :: own 106 2 v A.length (rowsA A) :: l) := h1
  have c0 := cell_of_blk (h1.nth 0 rfl) 0
  simp at c0
  obtain ⟨a, k, cap, rfl, hk⟩ := h1.tail.getOwn.slice
  obtain rfl := hk.out
  obtain ⟨g, rfl⟩ : ∃ g, a = some ⟨g, 0, none⟩ := by
    obtain ⟨_, _, e, hnc, hcm, hxl, ha⟩ := h1.tail.getOwn.open
    cases e
    rcases ha with ⟨_, h0, _⟩ | ⟨g, cs, rfl, hg, hcs, ht⟩
    · omega
    · exact ⟨g, rfl⟩
  obtain ⟨r0, r1⟩ := rowsA_get A i hi
  obtain ⟨f0, z0⟩ := (h1.tail.getOwn.at_ _ _ r0)
  obtain ⟨f1, z1⟩ := (h1.tail.getOwn.at_ _ _ r1)
  have hil : (i : Int) < (A.length : Int) := by omega
  have hsl : (setA A i s (getA A i s + v)).length = A.length := by unfold setA; rw [List.length_set]
  have H3 := Lib.hid (chk_add (getA A i s) v h0 hv hsum w)
  obtain ⟨nv, hnv⟩ : ∃ x, x = getA A i s + v := ⟨_, rfl⟩
  rw [← hnv] at H3 hsl ⊢
  rcases hs with rfl | rfl
  · have e0 : getA A i 0 = (A.getD i (0, 0)).1 := by unfold getA; rw [Int.toNat_natCast, if_pos rfl]
    rw [e0] at H3
    have ho := h1.tail.getOwn.setAt (vs := [.int .u64 nv]) (off := i * 2) (by show i * 2 + 1 ≤ _; omega)
    have h2 := h1.swap.ownTo ho (Chg.cells _ _ ((Chg.refl (· = g) w))).own (.inl rfl)
    have hrow : (rowsA A).take (i * 2) ++ [.int .u64 nv] ++ (rowsA A).drop (i * 2 + 1) = rowsA (setA A i 0 nv) := by
      unfold setA
      rw [if_pos rfl, rowsA_set A i hi]
      have : (rowsA A).drop (i * 2 + 1) = .int .u64 (A.getD i (0, 0)).2 :: (rowsA A).drop (i * 2 + 2) := by
        obtain ⟨hj, he⟩ := List.getElem?_eq_some_iff.1 r1
        rw [List.drop_eq_getElem_cons hj, he]
      rw [this]; simp
    have H4 : Hid (Sys (w.setCell ⟨g, i * 2, none⟩ (.int .u64 nv)) m (acctT pa (setA A i 0 nv) :: l)) := Sys.close (f := acctF pa _) (.slice (some ⟨g, 0, none⟩) A.length cap) (by
      show Sys _ m (blk _ _ :: own _ _ _ (setA A i 0 nv).length _ :: l)
      rw [hsl, ← hrow]; exact h2.swap)
    obtain ⟨x0, hx0⟩ : ∃ x, x = (A.getD i (0, 0)).1 := ⟨_, rfl⟩
    obtain ⟨x1, hx1⟩ : ∃ x, x = (A.getD i (0, 0)).2 := ⟨_, rfl⟩
    simp only [← hx0] at f0 H3
    simp only [← hx1] at f1 H3
    clear h h1 h2 hk hl r0 r1 ho hrow hsl e0 h0 hsum hnv hx0 hx1 hi
    go_enter Tryz.func50, Tryz.ntmps50
    go_wp2_with fail
    refine H1.out.mono ?_
    rintro e w1 ⟨rfl, rfl⟩
    go_wp2_with fail
    refine H3.out.mono ?_
    rintro e w1 ⟨rfl, rfl⟩
    go_wp2_with fail
    go_ret
    exact ⟨rfl, H4.out⟩
  · have e0 : getA A i 1 = (A.getD i (0, 0)).2 := by unfold getA; rw [Int.toNat_natCast, if_neg (by decide)]
    rw [e0] at H3
    have ho := h1.tail.getOwn.setAt (vs := [.int .u64 nv]) (off := i * 2 + 1) (by show i * 2 + 1 + 1 ≤ _; omega)
    have h2 := h1.swap.ownTo ho (Chg.cells _ _ ((Chg.refl (· = g) w))).own (.inl rfl)
    have hrow : (rowsA A).take (i * 2 + 1) ++ [.int .u64 nv] ++ (rowsA A).drop (i * 2 + 1 + 1) = rowsA (setA A i 1 nv) := by
      unfold setA
      rw [if_neg (by decide), rowsA_set A i hi]
      have : (rowsA A).take (i * 2 + 1) = (rowsA A).take (i * 2) ++ [.int .u64 (A.getD i (0, 0)).1] := by
        obtain ⟨hj, he⟩ := List.getElem?_eq_some_iff.1 r0
        rw [List.take_succ_eq_append_getElem hj, he]
      rw [this]; simp
    have H4 : Hid (Sys (w.setCell ⟨g, i * 2 + 1, none⟩ (.int .u64 nv)) m (acctT pa (setA A i 1 nv) :: l)) := Sys.close (f := acctF pa _) (.slice (some ⟨g, 0, none⟩) A.length cap) (by
      show Sys _ m (blk _ _ :: own _ _ _ (setA A i 1 nv).length _ :: l)
      rw [hsl, ← hrow]; exact h2.swap)
    obtain ⟨x0, hx0⟩ : ∃ x, x = (A.getD i (0, 0)).1 := ⟨_, rfl⟩
    obtain ⟨x1, hx1⟩ : ∃ x, x = (A.getD i (0, 0)).2 := ⟨_, rfl⟩
    simp only [← hx0] at f0 H3
    simp only [← hx1] at f1 H3
    clear h h1 h2 hk hl r0 r1 ho hrow hsl e0 h0 hsum hnv hx0 hx1 hi
    go_enter Tryz.func50, Tryz.ntmps50
    go_wp2_with fail
    refine H1.out.mono ?_
    rintro e w1 ⟨rfl, rfl⟩
    go_wp2_with fail
    refine H3.out.mono ?_
    rintro e w1 ⟨rfl, rfl⟩
    go_wp2_with fail
    go_ret
    exact ⟨rfl, H4.out⟩
end
end Go.Proofs.YtcfhkpjheemkgaaGreat
