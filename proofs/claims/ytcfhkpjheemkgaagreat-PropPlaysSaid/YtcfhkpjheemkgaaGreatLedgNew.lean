/-
  A new ledger: what it tells of its clients.
-/
import Derived.Test.YtcfhkpjheemkgaaGreatLedg
import Derived.Test.YtcfhkpjheemkgaaGreatSeqT
import Derived.Deep.DeepCutAuto
namespace Go.Proofs.YtcfhkpjheemkgaaGreat
set_option linter.unusedSectionVars false
set_option linter.unnecessarySimpa false
set_option linter.unusedSimpArgs false
set_option linter.unusedVariables false
open Go.RowKit Go.MapKept

def accA (n a j : Nat) : List (Int × Int) := (List.range n).map fun i => ((if 1 ≤ a ∨ i < j then 1000 else 0), (if a = 1 ∧ i < j then 1000 else 0))
theorem accA_length (n a j : Nat) : (accA n a j).length = n := by simp [accA]
theorem accA_get (n a j i : Nat) (h : i < n) : (accA n a j).getD i (0, 0) = ((if 1 ≤ a ∨ i < j then 1000 else 0), (if a = 1 ∧ i < j then 1000 else 0)) := by
  unfold accA
  rw [List.getD_eq_getElem?_getD, List.getElem?_map, List.getElem?_range h]
  rfl
theorem accA_start (n : Nat) : accA n 0 0 = List.replicate n (0, 0) := by
  apply List.ext_getElem
  · simp [accA]
  · intro i h1 h2; simp [accA]
theorem accA_next (n : Nat) : accA n 0 n = accA n 1 0 := by
  apply List.ext_getElem
  · simp [accA]
  · intro i h1 h2
    simp [accA] at h1 ⊢
    exact h1
theorem accA_put (n a j : Nat) (hj : j < n) (ha : a < 2) : getA (accA n a j) (j : Int) (a : Int) = 0 ∧ setA (accA n a j) j (a : Int) 1000 = accA n a (j + 1) := by
  have hg := accA_get n a j j hj
  refine ⟨?_, ?_⟩
  · unfold getA
    rw [Int.toNat_natCast, hg]
    rcases (by omega : a = 0 ∨ a = 1) with rfl | rfl <;> simp
  · unfold setA
    rw [hg]
    apply List.ext_getElem
    · simp [accA]
    · intro i h1 h2
      rw [List.getElem_set]
      simp only [accA, List.length_set, List.length_map, List.length_range] at h1
      rcases (by omega : a = 0 ∨ a = 1) with rfl | rfl <;> by_cases e : j = i <;> simp [accA, e] <;> (try omega) <;> (by_cases h : i < j <;> simp [h] <;> omega)
def accB (n a : Nat) : List (Int × Int) := if a = 0 then accA n 0 0 else if a = 1 then accA n 1 0 else accA n 1 n
def lastA (n : Nat) : List (Int × Int) := accA n 1 n
/-- A ledger of which nothing was done. -/
def ledgF (pl n : Nat) : Nat × Nat × Nat × Nat × Int × Int → List Thing := fun x => [blk pl (.cells #[.pointer (some ⟨x.1, 0, none⟩), .pointer (some ⟨x.2.1, 0, none⟩), .pointer (some ⟨x.2.2.1, 0, none⟩), (.slice (some ⟨x.2.2.2.1, 0, none⟩) n n), .int .u64 x.2.2.2.2.1, .int .u64 x.2.2.2.2.2, .int .u64 0, .int .u64 0] 108 (0, 0)), acctT x.1 (lastA n), own 53 1 (.slice (some ⟨x.2.2.2.1, 0, none⟩) n n) n (List.replicate n (.int .u64 0))]
def ledgT (pl n : Nat) : Thing := ex (ledgF pl n)
section
variable {w w' : World} {m : Nat → Thing} {l : List Thing} {pl pa n : Nat}
set_option maxRecDepth 100000 in
theorem hold_new (pa : Nat) (h : Sys w m l) : Calls Tryz.prog 48 #[.pointer (some ⟨pa, 0, none⟩)] w fun e w' => ∃ pf, e = .returned (.pointer (some ⟨pf, 0, none⟩)) ∧ Sys w' m l := by
  have hmm := @run_makeMap Tryz.prog
  have H2 := Lib.hid ((h.alloc0 (.map #[] 0)).alloc0 (.cells #[.pointer (some ⟨pa, 0, none⟩), .map (some w.heap.size), .int .u64 0] 149 (0, 0)))
  clear h
  go_enter Tryz.func48, Tryz.ntmps48
  go_wp2_with fail
  go_ret
  exact ⟨_, rfl, H2.out⟩
set_option maxRecDepth 100000 in
theorem prio_new (b : Bool) (h : Sys w m l) : Calls Tryz.prog 102 #[.bool b] w fun e w' => ∃ pf, e = .returned (.pointer (some ⟨pf, 0, none⟩)) ∧ Sys w' m l := by
  have H2 := Lib.hid h
  clear h
  go_enter Tryz.func102, Tryz.ntmps102
  go_wp2_with fail
  go_ret
  exact ⟨_, rfl, H2.out.alloc0 _⟩
set_option maxRecDepth 100000 in
theorem book_new (h : Sys w m l) : Calls Tryz.prog 83 #[] w fun e w' => ∃ pf, e = .returned (.pointer (some ⟨pf, 0, none⟩)) ∧ Sys w' m l := by
  have H := Lib.hid h
  clear h
  go_enter Tryz.func83, Tryz.ntmps83
  go_wp2_with fail
  refine (prio_new false H.out).mono ?_
  rintro e w1 ⟨p1, rfl, h⟩
  have H1 := Lib.hid h
  clear h
  go_wp2_with fail
  refine (prio_new true H1.out).mono ?_
  rintro e w2 ⟨p2, rfl, h⟩
  have H2 := Lib.hid h
  clear h
  go_wp2_with fail
  go_ret
  exact ⟨_, rfl, H2.out.alloc0 _⟩
set_option maxRecDepth 100000 in
theorem exch_new (pa : Nat) (h : Sys w m l) : Calls Tryz.prog 49 #[.pointer (some ⟨pa, 0, none⟩)] w fun e w' => ∃ pf, e = .returned (.pointer (some ⟨pf, 0, none⟩)) ∧ Sys w' m l := by
  have H := Lib.hid (book_new h)
  clear h
  go_enter Tryz.func49, Tryz.ntmps49
  go_wp2_with fail
  refine H.out.mono ?_
  rintro e w1 ⟨p1, rfl, h⟩
  have H1 := Lib.hid h
  clear h
  go_wp2_with fail
  go_ret
  exact ⟨_, rfl, H1.out.alloc0 _⟩
theorem Sys.makeNext (h : Sys w m l) (n : Nat) (hn : n ≤ 1000) : ∃ gn w', (Instr.makeSlice 105 (.int .i64 (n : Int)) (.int .i64 (n : Int))).run Tryz.prog w = .ok (.slice (some ⟨gn, 0, none⟩) n n) w' ∧ Sys w' m (own 53 1 (.slice (some ⟨gn, 0, none⟩) n n) n (List.replicate n (.int .u64 0)) :: l) := by
  obtain ⟨i, hi, hz, hs1, hby⟩ := info_parts' (P := Tryz.prog) (e := 53) (z := some (.int .u64 0)) (s := 1) (b := 8) (by kernel_rfl)
  obtain ⟨w1, hrun, hown, hgr⟩ := run_makeSlice_full (P := Tryz.prog) w 0 105 53 i _ 1 Tryz.underlying105 hi hz hs1 .i64 .i64 n (by omega) (by rw [hby]; omega) (by unfold maxLen; omega) (Nat.zero_le _)
  rw [madeCells_zero (v := .int .u64 0) (by intro u hu; simp [Value.cells] at hu; exact hu) (by decide), Nat.mul_one] at hown
  exact ⟨_, w1, hrun, h.pushOwn ⟨hgr.os, hgr.tape, hgr.output, hgr.size, fun k hk => hgr.block k hk (by simp)⟩ hown (fun k hk => by cases hk; exact Nat.le_refl _)⟩
set_option maxRecDepth 100000 in
set_option maxHeartbeats 4000000 in
theorem ledg_new (n : Nat) (hn : n ≤ 1000) (h : Sys w m l) : Calls Tryz.prog 18 #[.int .i64 n] w fun e w' => ∃ pl, e = .returned (.pointer (some ⟨pl, 0, none⟩)) ∧ Sys w' m (ledgT pl n :: l) := by
  have hm1 : imin (imax (n : Int) 0) 1000 = (n : Int) := by unfold imin imax; omega
  have hmax := @run_imax Tryz.prog
  have hmin := @run_imin Tryz.prog
  have HA := Lib.hid (acct_new n hn h)
  have hn := Lib.hid hn
  clear h
  go_enter Tryz.func18, Tryz.ntmps18
  go_wp2_with fail
  refine HA.out.mono ?_
  rintro e z1 ⟨pa, rfl, h⟩
  rw [← accA_start] at h
  have Z2 := Lib.hid h.drew
  clear h HA hm1 hmax hmin
  go_upto_region 3 with fail
  go_cut [4] (fun s wx => ∃ pl pf px gn, s = .pointer (some ⟨pl, 0, none⟩) ∧ Sys wx m (blk pl (.cells #[.pointer (some ⟨pa, 0, none⟩), .pointer (some ⟨pf, 0, none⟩), .pointer (some ⟨px, 0, none⟩), .slice (some ⟨gn, 0, none⟩) n n, .int .u64 0, .int .u64 0, .int .u64 0, .int .u64 0] 108 (0, 0)) :: own 53 1 (.slice (some ⟨gn, 0, none⟩) n n) n (List.replicate n (.int .u64 0)) :: acctT pa (accA n 0 0) :: l))
  case first =>
    refine wp_region_tree anyW anyW [] (.s 0 0 (some 12) (.s 1 0 (some 13) (.s 3 0 (some 15) (.s 5 0 (some 17) (.b 2 2 (some 14) (.b 4 2 (some 16) (.s 6 2 (some 18) (.s 7 0 (some 19) (.s 8 2 (some 20) (.s 9 0 (some 4) .e)))) 6 2 (some 18) (.s 4 2 (some 16) (.s 7 0 (some 19) (.s 8 2 (some 20) (.s 9 0 (some 4) .e))))) 6 2 (some 18) (.s 2 2 (some 14) (.s 4 2 (some 16) (.s 7 0 (some 19) (.s 8 2 (some 20) (.s 9 0 (some 4) .e)))))))))) (by kernel_rfl) (by kernel_rfl) (fun _ _ _ d _ h => by cases d <;> exact h) anyW.i anyW.i ?_
    repeat (first | (refine trW (v := ?_) rfl rfl (by kernel_rfl) ?_ ?_; rotate_left; (focus ((intro x; go_simp); try (with_reducible rfl))); try simp only [Act.put, List.setIfInBounds_toArray, List.set_cons_zero, List.set_cons_succ]) | (refine trS (v := ?_) rfl rfl (by kernel_rfl) ?_ ?_; rotate_left; (focus (intro x hS; first | (go_simp; try (with_reducible rfl)))); try simp only [Act.put, List.setIfInBounds_toArray, List.set_cons_zero, List.set_cons_succ]) | (refine trX rfl rfl (by kernel_rfl) ?_; try simp only [Act.put, List.setIfInBounds_toArray, List.set_cons_zero, List.set_cons_succ]))
    refine trB ?_ ?_
    · refine trL rfl rfl (fun K hK => ?_)
      go_simp
      go_at_call 48
      refine (hold_new pa Z2.out).mono ?_
      rintro e z3 ⟨pf, rfl, h⟩
      have Z3 := Lib.hid h
      clear h
      refine hK.out _ _ anyW.i ?_ (fun _ hSt => ?_)
      · exact anyW.i
      clear hSt hK K
      try simp only [Act.put, List.setIfInBounds_toArray, List.set_cons_zero, List.set_cons_succ]
      refine trB ?_ ?_
      · refine trL rfl rfl (fun K hK => ?_)
        go_simp
        go_at_call 49
        refine (exch_new pa Z3.out).mono ?_
        rintro e z4 ⟨px, rfl, h⟩
        have Z4 := Lib.hid h
        clear h
        refine hK.out _ _ anyW.i ?_ (fun _ hSt => ?_)
        · exact anyW.i
        clear hSt hK K
        try simp only [Act.put, List.setIfInBounds_toArray, List.set_cons_zero, List.set_cons_succ]
        obtain ⟨gn, z5, hrun, h⟩ := Z4.out.makeNext n hn.out
        have Z5 := Lib.hid h
        clear h
        refine trL rfl rfl (fun K hK => ?_)
        go_simp
        clear hrun
        refine hK.out _ _ anyW.i ?_ (fun _ hSt => ?_)
        · exact anyW.i
        clear hSt hK K
        try simp only [Act.put, List.setIfInBounds_toArray, List.set_cons_zero, List.set_cons_succ]
        repeat (first | (refine trW (v := ?_) rfl rfl (by kernel_rfl) ?_ ?_; rotate_left; (focus ((intro x; go_simp); try (with_reducible rfl))); try simp only [Act.put, List.setIfInBounds_toArray, List.set_cons_zero, List.set_cons_succ]) | (refine trS (v := ?_) rfl rfl (by kernel_rfl) ?_ ?_; rotate_left; (focus (intro x hS; first | (go_simp; try (with_reducible rfl)))); try simp only [Act.put, List.setIfInBounds_toArray, List.set_cons_zero, List.set_cons_succ]) | (refine trX rfl rfl (by kernel_rfl) ?_; try simp only [Act.put, List.setIfInBounds_toArray, List.set_cons_zero, List.set_cons_succ]))
        have Z6 := Lib.hid (Z5.out.alloc (.cells #[.pointer (some ⟨pa, 0, none⟩), .pointer (some ⟨pf, 0, none⟩), .pointer (some ⟨px, 0, none⟩), .slice (some ⟨gn, 0, none⟩) n n, .int .u64 0, .int .u64 0, .int .u64 0, .int .u64 0] 108 (0, 0)) rfl)
        refine trL rfl rfl (fun K hK => ?_)
        go_simp
        refine hK.out _ _ anyW.i ?_ (fun _ hSt => ?_)
        · exact anyW.i
        clear hSt hK K
        try simp only [Act.put, List.setIfInBounds_toArray, List.set_cons_zero, List.set_cons_succ]
        repeat (first | (refine trW (v := ?_) rfl rfl (by kernel_rfl) ?_ ?_; rotate_left; (focus ((intro x; go_simp); try (with_reducible rfl))); try simp only [Act.put, List.setIfInBounds_toArray, List.set_cons_zero, List.set_cons_succ]) | (refine trS (v := ?_) rfl rfl (by kernel_rfl) ?_ ?_; rotate_left; (focus (intro x hS; first | (go_simp; try (with_reducible rfl)))); try simp only [Act.put, List.setIfInBounds_toArray, List.set_cons_zero, List.set_cons_succ]) | (refine trX rfl rfl (by kernel_rfl) ?_; try simp only [Act.put, List.setIfInBounds_toArray, List.set_cons_zero, List.set_cons_succ]))
        refine trE ?_
        go_wp2_with fail
        go_meet
        case rel => exact ⟨_, pf, px, gn, rfl, Z6.out⟩
      · obtain ⟨gn, z4, hrun, h⟩ := Z3.out.makeNext n hn.out
        have Z4 := Lib.hid h
        clear h
        refine trL rfl rfl (fun K hK => ?_)
        go_simp
        clear hrun
        refine hK.out _ _ anyW.i ?_ (fun _ hSt => ?_)
        · exact anyW.i
        clear hSt hK K
        try simp only [Act.put, List.setIfInBounds_toArray, List.set_cons_zero, List.set_cons_succ]
        refine trL rfl rfl (fun K hK => ?_)
        go_simp
        go_at_call 49
        refine (exch_new pa Z4.out).mono ?_
        rintro e z5 ⟨px, rfl, h⟩
        have Z5 := Lib.hid h
        clear h
        refine hK.out _ _ anyW.i ?_ (fun _ hSt => ?_)
        · exact anyW.i
        clear hSt hK K
        try simp only [Act.put, List.setIfInBounds_toArray, List.set_cons_zero, List.set_cons_succ]
        repeat (first | (refine trW (v := ?_) rfl rfl (by kernel_rfl) ?_ ?_; rotate_left; (focus ((intro x; go_simp); try (with_reducible rfl))); try simp only [Act.put, List.setIfInBounds_toArray, List.set_cons_zero, List.set_cons_succ]) | (refine trS (v := ?_) rfl rfl (by kernel_rfl) ?_ ?_; rotate_left; (focus (intro x hS; first | (go_simp; try (with_reducible rfl)))); try simp only [Act.put, List.setIfInBounds_toArray, List.set_cons_zero, List.set_cons_succ]) | (refine trX rfl rfl (by kernel_rfl) ?_; try simp only [Act.put, List.setIfInBounds_toArray, List.set_cons_zero, List.set_cons_succ]))
        have Z6 := Lib.hid (Z5.out.alloc (.cells #[.pointer (some ⟨pa, 0, none⟩), .pointer (some ⟨pf, 0, none⟩), .pointer (some ⟨px, 0, none⟩), .slice (some ⟨gn, 0, none⟩) n n, .int .u64 0, .int .u64 0, .int .u64 0, .int .u64 0] 108 (0, 0)) rfl)
        refine trL rfl rfl (fun K hK => ?_)
        go_simp
        refine hK.out _ _ anyW.i ?_ (fun _ hSt => ?_)
        · exact anyW.i
        clear hSt hK K
        try simp only [Act.put, List.setIfInBounds_toArray, List.set_cons_zero, List.set_cons_succ]
        repeat (first | (refine trW (v := ?_) rfl rfl (by kernel_rfl) ?_ ?_; rotate_left; (focus ((intro x; go_simp); try (with_reducible rfl))); try simp only [Act.put, List.setIfInBounds_toArray, List.set_cons_zero, List.set_cons_succ]) | (refine trS (v := ?_) rfl rfl (by kernel_rfl) ?_ ?_; rotate_left; (focus (intro x hS; first | (go_simp; try (with_reducible rfl)))); try simp only [Act.put, List.setIfInBounds_toArray, List.set_cons_zero, List.set_cons_succ]) | (refine trX rfl rfl (by kernel_rfl) ?_; try simp only [Act.put, List.setIfInBounds_toArray, List.set_cons_zero, List.set_cons_succ]))
        refine trE ?_
        go_wp2_with fail
        go_meet
        case rel => exact ⟨_, pf, px, gn, rfl, Z6.out⟩
    · obtain ⟨gn, z3, hrun, h⟩ := Z2.out.makeNext n hn.out
      have Z3 := Lib.hid h
      clear h
      refine trL rfl rfl (fun K hK => ?_)
      go_simp
      clear hrun
      refine hK.out _ _ anyW.i ?_ (fun _ hSt => ?_)
      · exact anyW.i
      clear hSt hK K
      try simp only [Act.put, List.setIfInBounds_toArray, List.set_cons_zero, List.set_cons_succ]
      refine trL rfl rfl (fun K hK => ?_)
      go_simp
      go_at_call 48
      refine (hold_new pa Z3.out).mono ?_
      rintro e z4 ⟨pf, rfl, h⟩
      have Z4 := Lib.hid h
      clear h
      refine hK.out _ _ anyW.i ?_ (fun _ hSt => ?_)
      · exact anyW.i
      clear hSt hK K
      try simp only [Act.put, List.setIfInBounds_toArray, List.set_cons_zero, List.set_cons_succ]
      refine trL rfl rfl (fun K hK => ?_)
      go_simp
      go_at_call 49
      refine (exch_new pa Z4.out).mono ?_
      rintro e z5 ⟨px, rfl, h⟩
      have Z5 := Lib.hid h
      clear h
      refine hK.out _ _ anyW.i ?_ (fun _ hSt => ?_)
      · exact anyW.i
      clear hSt hK K
      try simp only [Act.put, List.setIfInBounds_toArray, List.set_cons_zero, List.set_cons_succ]
      repeat (first | (refine trW (v := ?_) rfl rfl (by kernel_rfl) ?_ ?_; rotate_left; (focus ((intro x; go_simp); try (with_reducible rfl))); try simp only [Act.put, List.setIfInBounds_toArray, List.set_cons_zero, List.set_cons_succ]) | (refine trS (v := ?_) rfl rfl (by kernel_rfl) ?_ ?_; rotate_left; (focus (intro x hS; first | (go_simp; try (with_reducible rfl)))); try simp only [Act.put, List.setIfInBounds_toArray, List.set_cons_zero, List.set_cons_succ]) | (refine trX rfl rfl (by kernel_rfl) ?_; try simp only [Act.put, List.setIfInBounds_toArray, List.set_cons_zero, List.set_cons_succ]))
      have Z6 := Lib.hid (Z5.out.alloc (.cells #[.pointer (some ⟨pa, 0, none⟩), .pointer (some ⟨pf, 0, none⟩), .pointer (some ⟨px, 0, none⟩), .slice (some ⟨gn, 0, none⟩) n n, .int .u64 0, .int .u64 0, .int .u64 0, .int .u64 0] 108 (0, 0)) rfl)
      refine trL rfl rfl (fun K hK => ?_)
      go_simp
      refine hK.out _ _ anyW.i ?_ (fun _ hSt => ?_)
      · exact anyW.i
      clear hSt hK K
      try simp only [Act.put, List.setIfInBounds_toArray, List.set_cons_zero, List.set_cons_succ]
      repeat (first | (refine trW (v := ?_) rfl rfl (by kernel_rfl) ?_ ?_; rotate_left; (focus ((intro x; go_simp); try (with_reducible rfl))); try simp only [Act.put, List.setIfInBounds_toArray, List.set_cons_zero, List.set_cons_succ]) | (refine trS (v := ?_) rfl rfl (by kernel_rfl) ?_ ?_; rotate_left; (focus (intro x hS; first | (go_simp; try (with_reducible rfl)))); try simp only [Act.put, List.setIfInBounds_toArray, List.set_cons_zero, List.set_cons_succ]) | (refine trX rfl rfl (by kernel_rfl) ?_; try simp only [Act.put, List.setIfInBounds_toArray, List.set_cons_zero, List.set_cons_succ]))
      refine trE ?_
      go_wp2_with fail
      go_meet
      case rel => exact ⟨_, pf, px, gn, rfl, Z6.out⟩
  case rest =>
  obtain ⟨pl, pf, px, gn, rfl, h⟩ := hcut
  have Z3 := Lib.hid h
  clear h
  go_wp2_with fail
  go_loopw [21] (fun i wr => ∃ a : Nat, a ≤ 2 ∧ i = .int .i64 a ∧ ∃ g0 g1 : Int, Sys wr m (blk pl (.cells #[.pointer (some ⟨pa, 0, none⟩), .pointer (some ⟨pf, 0, none⟩), .pointer (some ⟨px, 0, none⟩), .slice (some ⟨gn, 0, none⟩) n n, .int .u64 g0, .int .u64 g1, .int .u64 0, .int .u64 0] 108 (0, 0)) :: own 53 1 (.slice (some ⟨gn, 0, none⟩) n n) n (List.replicate n (.int .u64 0)) :: acctT pa (accB n a) :: l)) (fun i _ => 2 - (intOf i).toNat)
  case atStart => exact ⟨0, by omega, rfl, 0, 0, Z3.out⟩
  case round =>
    obtain ⟨a, ha, rfl, g0, g1, hR⟩ := hrel
    by_cases hlt : a < 2
    · have hal : (a : Int) < 2 := by omega
      have hawr : IntKind.i64.wrap ((a : Int) + 1) = (a : Int) + 1 := by rw [IntKind.wrap_i64]; omega
      have hR1 : Sys wr m (blk pl (.cells #[.pointer (some ⟨pa, 0, none⟩), .pointer (some ⟨pf, 0, none⟩), .pointer (some ⟨px, 0, none⟩), .slice (some ⟨gn, 0, none⟩) n n, .int .u64 g0, .int .u64 g1, .int .u64 0, .int .u64 0] 108 (0, 0)) :: own 53 1 (.slice (some ⟨gn, 0, none⟩) n n) n (List.replicate n (.int .u64 0)) :: acctT pa (accA n a 0) :: l) := by
        have e : accB n a = accA n a 0 := by unfold accB; rcases (by omega : a = 0 ∨ a = 1) with rfl | rfl <;> rfl
        rwa [e] at hR
      have HR := Lib.hid (hR1.front 2 rfl)
      have HAL := Lib.hid hlt
      clear hR hR1 hlt
      go_wp2_with fail
      go_loopw [25] (fun i wr => ∃ j : Nat, j ≤ n ∧ i = .int .i64 j ∧ Sys wr m (acctT pa (accA n a j) :: blk pl (.cells #[.pointer (some ⟨pa, 0, none⟩), .pointer (some ⟨pf, 0, none⟩), .pointer (some ⟨px, 0, none⟩), .slice (some ⟨gn, 0, none⟩) n n, .int .u64 g0, .int .u64 g1, .int .u64 0, .int .u64 0] 108 (0, 0)) :: own 53 1 (.slice (some ⟨gn, 0, none⟩) n n) n (List.replicate n (.int .u64 0)) :: l)) (fun i _ => n - (intOf i).toNat)
      case atStart => exact ⟨0, by omega, rfl, HR.out⟩
      case round =>
        obtain ⟨j, hj, rfl, hR⟩ := hrel
        by_cases hlt : j < n
        · have hjl : (j : Int) < (n : Int) := by omega
          have hjw : IntKind.i64.wrap ((j : Int) + 1) = (j : Int) + 1 := by rw [IntKind.wrap_i64]; have := hn.out; omega
          obtain ⟨e1, e2⟩ := accA_put n a j hlt HAL.out
          have HP := Lib.hid (acct_put j (a : Int) 1000 (by have := HAL.out; omega) (by rw [accA_length]; exact hlt) (by omega) (by rw [e1]; omega) (by rw [e1]; omega) hR (by rw [accA_length]; exact hn.out))
          rw [e1, Int.zero_add, e2] at HP
          clear hR e1 e2
          go_wp2_with fail
          refine HP.out.mono ?_
          rintro e y1 ⟨rfl, h⟩
          have H1 := Lib.hid h
          clear h HP
          go_wp2_with fail
          go_roundw
          case rel => exact ⟨j + 1, by omega, by go_num, H1.out⟩
          case measure => simp [intOf]; omega
        · obtain rfl : j = n := by omega
          have hR1 := hR.swap
          have hb := hR1.getBlk
          obtain ⟨gv, hgv⟩ : ∃ x : Int, x = if a = 0 then g0 else g1 := ⟨_, rfl⟩
          have c4 : wr.cell? ⟨pl, 4 + a, none⟩ = some (.int .u64 gv) := by
            rw [cell_of_blk hb, hgv]
            rcases (by have := HAL.out; omega : a = 0 ∨ a = 1) with rfl | rfl <;> rfl
          have f4 : wr.frozen? ⟨pl, 4 + a, none⟩ = false := frozen_of_blk hb (4 + a)
          have hw2 : IntKind.u64.wrap ((j : Int) * 1000) = (j : Int) * 1000 := by
            rw [IntKind.wrap_u64]; have := hn.out; omega
          have hw3 : IntKind.u64.wrap (j : Int) = (j : Int) := by
            rw [IntKind.wrap_u64]; have := hn.out; omega
          have h2 := hR1.setCell (i := 4 + a) (.int .u64 ((j : Int) * 1000))
          have e2 : (#[.pointer (some ⟨pa, 0, none⟩), .pointer (some ⟨pf, 0, none⟩), .pointer (some ⟨px, 0, none⟩), .slice (some ⟨gn, 0, none⟩) j j, .int .u64 g0, .int .u64 g1, .int .u64 0, .int .u64 0] : Array Value).setIfInBounds (4 + a) (.int .u64 ((j : Int) * 1000)) = #[.pointer (some ⟨pa, 0, none⟩), .pointer (some ⟨pf, 0, none⟩), .pointer (some ⟨px, 0, none⟩), .slice (some ⟨gn, 0, none⟩) j j, .int .u64 (if a = 0 then (j : Int) * 1000 else g0), .int .u64 (if a = 0 then g1 else (j : Int) * 1000), .int .u64 0, .int .u64 0] := by
            rcases (by have := HAL.out; omega : a = 0 ∨ a = 1) with rfl | rfl <;> rfl
          rw [e2] at h2
          have e3 : accA j a j = accB j (a + 1) := by
            rcases (by have := HAL.out; omega : a = 0 ∨ a = 1) with rfl | rfl
            · exact accA_next j
            · rfl
          rw [e3] at h2
          have H2 := Lib.hid (h2.perm (l' := blk pl (.cells #[.pointer (some ⟨pa, 0, none⟩), .pointer (some ⟨pf, 0, none⟩), .pointer (some ⟨px, 0, none⟩), .slice (some ⟨gn, 0, none⟩) j j, .int .u64 (if a = 0 then (j : Int) * 1000 else g0), .int .u64 (if a = 0 then g1 else (j : Int) * 1000), .int .u64 0, .int .u64 0] 108 (0, 0)) :: own 53 1 (.slice (some ⟨gn, 0, none⟩) j j) j (List.replicate j (.int .u64 0)) :: acctT pa (accB j (a + 1)) :: l) (List.Perm.cons _ (List.Perm.swap _ _ _)))
          clear hR hR1 hb hgv h2 e2 e3
          go_wp2_with fail
          refine ⟨?_, ?mn⟩
          · first
            | exact ⟨a + 1, by have := HAL.out; omega, by go_num, _, _, H2.out⟩
            | (iterate 60 (first | apply Exists.intro | skip)
               refine ⟨?rs, rfl⟩
               case rs => exact ⟨a + 1, by have := HAL.out; omega, by go_num, _, _, H2.out⟩)
          · have := HAL.out
            simp [intOf]; omega
    · obtain rfl : a = 2 := by omega
      have H9 := Lib.hid (Sys.close (f := ledgF pl n) (pa, pf, px, gn, g0, g1) ((hR.perm (List.Perm.cons _ (List.Perm.swap _ _ _)))))
      clear hR
      go_wp2_with fail
      go_ret
      exact ⟨pl, rfl, H9.out⟩
def freeL (n : Nat) (c : Int) : Int := if inA n c then 1000 else 0
theorem lastA_get (n i : Nat) (h : i < n) (s : Int) : getA (lastA n) (i : Int) s = 1000 := by
  unfold getA lastA
  rw [Int.toNat_natCast, accA_get n 1 n i h]
  simp [h]
theorem Sys.ledgOpen (h : Sys w m l) (hm : m 4 = ledgT pl n) : ∃ pa pf px gn g0 g1, w.heap[pl]? = some (.cells #[.pointer (some ⟨pa, 0, none⟩), .pointer (some ⟨pf, 0, none⟩), .pointer (some ⟨px, 0, none⟩), .slice (some ⟨gn, 0, none⟩) n n, .int .u64 g0, .int .u64 g1, .int .u64 0, .int .u64 0] 108 (0, 0)) ∧ Own 53 1 w (.slice (some ⟨gn, 0, none⟩) n n) n (List.replicate n (.int .u64 0)) ∧ Sys w (upd m 4 emp) (acctT pa (lastA n) :: l) := by
  obtain ⟨x, h1⟩ := (h.lift 4 hm).open
  replace h1 : Sys w (upd m 4 emp) (blk pl (.cells #[.pointer (some ⟨x.1, 0, none⟩), .pointer (some ⟨x.2.1, 0, none⟩), .pointer (some ⟨x.2.2.1, 0, none⟩), (.slice (some ⟨x.2.2.2.1, 0, none⟩) n n), .int .u64 x.2.2.2.2.1, .int .u64 x.2.2.2.2.2, .int .u64 0, .int .u64 0] 108 (0, 0)) :: acctT x.1 (lastA n) :: own 53 1 (.slice (some ⟨x.2.2.2.1, 0, none⟩) n n) n (List.replicate n (.int .u64 0)) :: l) := h1
  obtain ⟨pa, pf, px, gn, g0, g1⟩ := x
  exact ⟨pa, pf, px, gn, g0, g1, h1.getBlk, h1.tail.tail.getOwn, (h1.tail.swap).tail⟩
set_option maxRecDepth 100000 in
set_option maxHeartbeats 1000000 in
theorem ledg_next (c : Int) (hn : n ≤ 1000) (h : Sys w m l) (hm : m 4 = ledgT pl n) : Calls Tryz.prog 54 #[.pointer (some ⟨pl, 0, none⟩), .int .i64 c] w fun e w' => e = .returned (.int .u64 0) ∧ w = w' := by
  obtain ⟨pa, pf, px, gn, g0, g1, hb, ho, ha⟩ := h.ledgOpen hm
  obtain ⟨c0, c1, c2, c3, c4, c5, c6, c7⟩ := cells8 hb
  have HH := Lib.hid (acct_has c ha (by unfold lastA; rw [accA_length]; exact hn))
  rw [show (lastA n).length = n from accA_length n 1 n] at HH
  cases hc : inA n c with
  | false =>
    rw [hc] at HH
    clear h hb ho ha hc hm
    go_enter Tryz.func54, Tryz.ntmps54
    go_wp2_with fail
    refine HH.out.mono ?_
    rintro e w1 ⟨rfl, rfl⟩
    go_wp2_with fail
    go_ret
    exact ⟨rfl, rfl⟩
  | true =>
    rw [hc] at HH
    unfold inA at hc
    simp only [Bool.and_eq_true, decide_eq_true_eq] at hc
    obtain ⟨i, rfl⟩ : ∃ i : Nat, c = (i : Int) := ⟨c.toNat, by omega⟩
    have hi : i < n := by omega
    have f0 := (ho.at_ i (.int .u64 0) (by rw [List.getElem?_replicate, if_pos hi])).1
    have hil : (i : Int) < (n : Int) := by omega
    clear h hb ho ha hc hm hi
    go_enter Tryz.func54, Tryz.ntmps54
    go_wp2_with fail
    refine HH.out.mono ?_
    rintro e w1 ⟨rfl, rfl⟩
    go_wp2_with fail
    go_ret
    exact ⟨rfl, rfl⟩
set_option maxRecDepth 100000 in
set_option maxHeartbeats 1000000 in
theorem ledg_free (c s : Int) (hs : s = 0 ∨ s = 1) (hn : n ≤ 1000) (h : Sys w m l) (hm : m 4 = ledgT pl n) : Calls Tryz.prog 56 #[.pointer (some ⟨pl, 0, none⟩), .int .i64 c, .int .i64 s] w fun e w' => e = .returned (.int .u64 (freeL n c)) ∧ w = w' := by
  obtain ⟨pa, pf, px, gn, g0, g1, hb, ho, ha⟩ := h.ledgOpen hm
  obtain ⟨c0, c1, c2, c3, c4, c5, c6, c7⟩ := cells8 hb
  have HH := Lib.hid (acct_free c s hs ha (by unfold lastA; rw [accA_length]; exact hn))
  rw [show (lastA n).length = n from accA_length n 1 n] at HH
  have e1 : (if inA n c then getA (lastA n) c s else 0) = freeL n c := by
    unfold freeL
    cases hc : inA n c with
    | false => rfl
    | true =>
      unfold inA at hc
      simp only [Bool.and_eq_true, decide_eq_true_eq] at hc
      obtain ⟨i, rfl⟩ : ∃ i : Nat, c = (i : Int) := ⟨c.toNat, by omega⟩
      rw [if_pos rfl, if_pos rfl, lastA_get n i (by omega)]
  rw [e1] at HH
  clear h hb ho ha hm e1
  go_enter Tryz.func56, Tryz.ntmps56
  go_wp2_with fail
  refine HH.out.mono ?_
  rintro e w1 ⟨rfl, rfl⟩
  go_wp2_with fail
  go_ret
  exact ⟨rfl, rfl⟩
end
end Go.Proofs.YtcfhkpjheemkgaaGreat
