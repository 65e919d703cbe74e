/-
  Two that listen to the same see the same: tolseylaw27.AdveTwo.
-/
import Derived.Test.YtcfhkpjheemkgaaAwakeD
import Derived.Test.YtcfhkpjheemkgaaMsgBulk
import Derived.Test.YtcfhkpjheemkgaaSeqT
import Derived.Deep.DeepCutAuto
namespace Go.Proofs.Ytcfhkpjheemkgaa.adveTwo
set_option linter.unusedSectionVars false
set_option linter.unnecessarySimpa false
set_option linter.unusedSimpArgs false
set_option linter.unusedVariables false
open Go.RowKit Go.MapKept

theorem bads_app (c : CfgX) (I J : List Int) : badsOf c (I ++ J) = J.foldl (badStep c) (badsOf c I) := by unfold badsOf; rw [List.foldl_append]
theorem bads_all (c : CfgX) : ∀ (I B : List Int), (∀ x ∈ B, repB c x = true) → ∀ x ∈ I.foldl (badStep c) B, repB c x = true
  | [], B, h => h
  | a :: I, B, h => bads_all c I (badStep c B a) (fun x hx => by
      unfold badStep at hx
      split at hx
      · next hc =>
        rcases List.mem_append.1 hx with hx | hx
        · exact h x hx
        · rw [List.mem_singleton] at hx; subst hx; simp only [Bool.and_eq_true] at hc; exact hc.1.1
      · exact h x hx)
theorem bads_one : ∀ (I B : List Int), B.length ≤ 1 → (I.foldl (badStep cfgA) B).length ≤ 1
  | [], _, h => h
  | a :: I, B, h => bads_one I (badStep cfgA B a) (by
      unfold badStep
      split
      · next hc =>
        simp only [Bool.and_eq_true, decide_eq_true_eq] at hc
        have : (B.length : Int) < 1 := hc.2
        rw [List.length_append, List.length_singleton]; omega
      · exact h)
theorem two_bads (I : List Int) : ∃ b : Int, 0 ≤ b ∧ b < 4 ∧ badsOf cfgA (I ++ [0, 1, 2, 3]) = [b] ∧ (badsOf cfgA I = [] ∨ badsOf cfgA I = [b]) := by
  have h1 : (badsOf cfgA I).length ≤ 1 := bads_one I [] (by simp)
  have h2 : ∀ x ∈ badsOf cfgA I, repB cfgA x = true := bads_all cfgA I [] (fun _ h => by cases h)
  rw [bads_app]
  match hB : badsOf cfgA I, h1, h2 with
  | [], _, _ => exact ⟨0, by omega, by omega, rfl, .inl rfl⟩
  | [b], _, h2 =>
    have hr := h2 b (List.mem_singleton.2 rfl)
    have hr' : 0 ≤ b ∧ b < 4 := of_decide_eq_true hr
    have hs : ∀ x, badStep cfgA [b] x = [b] := fun x => by
      unfold badStep
      rw [if_neg]
      simp only [Bool.and_eq_true, decide_eq_true_eq]
      rintro ⟨_, h⟩
      have : (1 : Int) < 1 := h
      omega
    refine ⟨b, hr'.1, hr'.2, ?_, .inr rfl⟩
    simp only [List.foldl_cons, List.foldl_nil, hs]
structure TwoC (C : List Ciph) : Prop where
  len : C.length = 2
  pl : ∀ x ∈ C, x.plain.length ≤ 1000
theorem TwoC.share {C : List Ciph} (h : TwoC C) (who c : Int) : TwoC (shareC C who c) :=
  ⟨by rw [shareC_len]; exact h.len, fun x hx => by obtain ⟨y, hy, e, _⟩ := shareC_plain x hx; rw [e]; exact h.pl y hy⟩
/-- What was seen so far is small. -/
structure SeenOk (S : List SeenT) (n : Nat) : Prop where
  len : S.length ≤ n
  each : ∀ x ∈ S, x.1.length ≤ 1000000000 ∧ x.2.2.length ≤ 1000000000
theorem SeenOk.hear {S : List SeenT} {n : Nat} (h : SeenOk S n) {t : List UInt8} (ht : t.length ≤ 1000000000) : SeenOk (S ++ [(t, 0, [])]) (n + 1) :=
  ⟨by have := h.len; simp; omega, fun x hx => by
    rcases List.mem_append.1 hx with hx | hx
    · exact h.each x hx
    · rw [List.mem_singleton] at hx; subst hx; exact ⟨ht, Nat.zero_le _⟩⟩
theorem SeenOk.open {S : List SeenT} {n k : Nat} (h : SeenOk S n) (need : Int) {C : List Ciph} (hC : ∀ x ∈ C, x.plain.length ≤ 1000) (OL : List Int) : SeenOk (openN need C (S, OL) k).1 (n + k) :=
  ⟨by have := openN_len need C (S, OL) k; have := h.len; dsimp only at *; omega, fun x hx => by
    rcases openN_mem need C (S, OL) k x hx with hx | ⟨e, y, hy, e2⟩
    · exact h.each x hx
    · rw [e, e2]; exact ⟨Nat.zero_le _, Nat.le_trans (hC y hy) (by decide)⟩⟩
theorem SeenOk.mono {S : List SeenT} {n k : Nat} (h : SeenOk S n) (hk : n ≤ k) : SeenOk S k := ⟨Nat.le_trans h.len hk, h.each⟩
set_option maxRecDepth 100000 in
set_option maxHeartbeats 16000000 in
theorem walk (W : World) (a0 : Option Addr) (len0 cap0 : Nat) (LM : List MsgP) (hLM : LM.length = len0) (hrow : RawSl W (.slice a0 len0 cap0) LM.length (LM.flatMap MsgP.cells)) (hraw : ∀ P ∈ LM, P.Raw W) (hsum : (LM.map MsgP.size).sum ≤ 1048576)
    (a1 : Option Addr) (len1 cap1 : Nat) (z1 : List Int) (w1 : IsRow .i64 W a1 len1 cap1 z1) (a2 : Option Addr) (len2 cap2 : Nat) (z2 : List Int) (w2 : IsRow .i64 W a2 len2 cap2 z2) :
    Calls Try.prog 4 #[.slice a0 len0 cap0, .slice a1 len1 cap1, .slice a2 len2 cap2] W fun e w' => e = .returned (.bool true) ∧ Below W.heap.size W w' := by
  obtain ⟨hi1, hlen1⟩ := IntsAt.of_row w1
  obtain ⟨is, his⟩ : ∃ ls, ls = z1.take len1 := ⟨_, rfl⟩
  rw [← his] at hi1 hlen1
  obtain ⟨hi2, hlen2⟩ := IntsAt.of_row w2
  obtain ⟨ls, hls⟩ : ∃ ls, ls = z2.take len2 := ⟨_, rfl⟩
  rw [← hls] at hi2 hlen2
  have HI1 := Lib.hid hi1
  have HLEN1 := Lib.hid hlen1
  have HI2 := Lib.hid hi2
  have HLEN2 := Lib.hid hlen2
  have hsz1 := sizes_each hsum
  have HAT : Hid (∀ P ∈ LM, P.At W ∧ P.wf ∧ P.size ≤ 2000000) := fun P hP => ⟨(hraw P hP).at_ (by have := hsz1 P hP; omega), (hraw P hP).wf, by have := hsz1 P hP; omega⟩
  have HROW := Lib.hid hrow
  have HLM := Lib.hid hLM
  have kc1 := fun w => Lib.run_convert_bytes_const (P := Try.prog) w 53 5 #[.int .u8 111, .int .u8 110, .int .u8 101] 3 3 Try.underlying53 Try.underlying5
  have kc2 := fun w => Lib.run_convert_bytes_const (P := Try.prog) w 53 5 #[.int .u8 116, .int .u8 119, .int .u8 111] 3 3 Try.underlying53 Try.underlying5
  clear hi1 hlen1 his w1 hi2 hlen2 hls w2 hsz1 hrow hraw hsum hLM
  go_enter Try.func4, Try.ntmps4
  go_wp2_with fail
  refine (world_new 1 (Sys.start W)).mono ?_
  rintro e x1 ⟨p, d, rfl, h1⟩
  obtain ⟨X0, hX0⟩ : ∃ X : WX, X = ⟨[], fun _ => [], min (max 1 0) 100 + 1, []⟩ := ⟨_, rfl⟩
  rw [← hX0] at h1
  have H1 := Lib.hid (h1.putN 0 rfl)
  have hT0 : X0.T.length = 0 := by rw [hX0]; rfl
  have hC0 : X0.C = [] := by rw [hX0]
  have HT0 := Lib.hid hT0
  have HC0 := Lib.hid hC0
  clear h1 hX0 hT0 hC0
  by_cases hfew : len2 ≤ 30
  · have hbig : ¬ ((len2 : Int) > 30) := by omega
    have HFEW := Lib.hid hfew
    clear hfew
    obtain ⟨nc, x2, EN2, EX2, ES2, H2⟩ := Sys.box H1.out (.cells #[.int .i64 1, .int .i64 4, .int .i64 0, .int .i64 0, .int .i64 0, .int .i64 0, .int .i64 0, .int .i64 0] 49 (0, 0))
    go_upto_region 5 with fail
    rw [EX2.out, EN2.out]
    clear hbig
    obtain ⟨b, hb0, hb4, hB2, hB1⟩ := two_bads ls
    obtain ⟨B1, hB1e⟩ : ∃ B, B = badsOf cfgA ls := ⟨_, rfl⟩
    obtain ⟨B2, hB2e⟩ : ∃ B, B = badsOf cfgA (ls ++ [0, 1, 2, 3]) := ⟨_, rfl⟩
    rw [← hB1e] at hB1
    rw [← hB2e] at hB2
    have HB : Hid (0 ≤ b ∧ b < 4 ∧ B2 = [b] ∧ (B1 = [] ∨ B1 = [b])) := ⟨hb0, hb4, hB2, hB1⟩
    have HB1E := Lib.hid hB1e
    have HB2E := Lib.hid hB2e
    clear hb0 hb4 hB2 hB1 hB1e hB2e
    go_cut [9, 10] from 31 to 42 (fun av bv wx => ∃ pa pb, av = .pointer (some ⟨pa, 0, none⟩) ∧ bv = .pointer (some ⟨pb, 0, none⟩) ∧ Sys wx (three (worldT p d X0) (watchT pa p B1 [] (oneM [])) (watchT pb p B2 [] (oneM []))) [base W])
    case first =>
      have Z0 := Lib.hid H2.out.drew
      refine wp_region_tree (fun x : World => x.heap[nc]? = some (.cells #[.int .i64 1, .int .i64 4, .int .i64 0, .int .i64 0, .int .i64 0, .int .i64 0, .int .i64 0, .int .i64 0] 49 (0, 0))) anyW [] (.s 0 0 (some 31) (.s 1 1 (some 32) (.s 2 0 (some 33) (.s 4 0 (some 35) (.s 5 1 (some 36) (.s 7 0 (some 38) (.c 3 2 (some 34) (.b 6 2 (some 37) (.b 8 2 (some 39) (.s 9 2 (some 40) (.s 10 2 (some 41) (.s 11 2 (some 42) (.s 12 0 (some 9) (.s 13 0 (some 10) .e))))) 9 2 (some 40) (.s 8 2 (some 39) (.s 10 2 (some 41) (.s 11 2 (some 42) (.s 12 0 (some 9) (.s 13 0 (some 10) .e)))))) 9 2 (some 40) (.s 6 2 (some 37) (.s 8 2 (some 39) (.s 10 2 (some 41) (.s 11 2 (some 42) (.s 12 0 (some 9) (.s 13 0 (some 10) .e))))))) 6 2 (some 37) (.b 3 2 (some 34) (.b 8 2 (some 39) (.s 9 2 (some 40) (.s 10 2 (some 41) (.s 11 2 (some 42) (.s 12 0 (some 9) (.s 13 0 (some 10) .e))))) 9 2 (some 40) (.s 8 2 (some 39) (.s 10 2 (some 41) (.s 11 2 (some 42) (.s 12 0 (some 9) (.s 13 0 (some 10) .e)))))) 9 2 (some 40) (.s 3 2 (some 34) (.s 8 2 (some 39) (.s 10 2 (some 41) (.s 11 2 (some 42) (.s 12 0 (some 9) (.s 13 0 (some 10) .e))))))) 9 2 (some 40) (.b 3 2 (some 34) (.s 6 2 (some 37) (.s 8 2 (some 39) (.s 10 2 (some 41) (.s 11 2 (some 42) (.s 12 0 (some 9) (.s 13 0 (some 10) .e)))))) 6 2 (some 37) (.s 3 2 (some 34) (.s 8 2 (some 39) (.s 10 2 (some 41) (.s 11 2 (some 42) (.s 12 0 (some 9) (.s 13 0 (some 10) .e)))))))))))))) (by kernel_rfl) (by kernel_rfl) (fun _ _ _ d _ h => by cases d <;> exact h) (Z0.out.nth 0 rfl) anyW.i ?_
      generalize x2.drew = z0 at Z0 ⊢
      repeat (first | (refine trW (v := ?_) rfl rfl (by kernel_rfl) ?_ ?_; rotate_left; (focus ((intro x; go_simp); try (with_reducible rfl))); try simp only [Act.put, List.setIfInBounds_toArray, List.set_cons_zero, List.set_cons_succ]) | (refine trS (v := ?_) rfl rfl (by kernel_rfl) ?_ ?_; rotate_left; (focus (intro x hS; first | (refine (exec_row 49 _ (by rfl) nc (by rfl) _ _ _ _ hS Try.underlying49 rfl size8).trans ?_; with_reducible rfl) | (go_simp; try (with_reducible rfl)))); try simp only [Act.put, List.setIfInBounds_toArray, List.set_cons_zero, List.set_cons_succ]) | (refine trX rfl rfl (by kernel_rfl) ?_; try simp only [Act.put, List.setIfInBounds_toArray, List.set_cons_zero, List.set_cons_succ]))
      refine trC ?_ ?_ ?_
      · refine trL rfl rfl (fun K hK => ?_)
        go_simp
        go_at_call 21
        refine (adve_new (kw := 1) cfgA ⟨by decide, by decide, by decide⟩ ls a2 len2 cap2 HLEN2.out (by have := HFEW.out; omega) (fun y m' hs => HI2.out.below (memBaseD (W := W) hs (by simp))) Z0.out rfl).mono ?_
        rintro z z1 ⟨pa, rfl, h⟩
        rw [← HB1E.out] at h
        have Z1 := Lib.hid h
        clear h
        go_wp2_with fail
        refine hK.out _ _ anyW.i ?_ (fun _ hSt => ?_)
        · exact Z1.out.nth 0 rfl
        clear hSt hK K
        try simp only [Act.put, List.setIfInBounds_toArray, List.set_cons_zero, List.set_cons_succ]
        refine trB ?_ ?_
        · obtain ⟨ne, z2, ENne, EXne, -, Z2⟩ := Sys.box Z1.out (.cells #[] 3 (0, 0))
          refine trL rfl rfl (fun K hK => ?_)
          go_simp
          rw [EXne.out, ENne.out]
          refine hK.out _ _ anyW.i ?_ (fun _ hSt => ?_)
          · exact Z2.out.nth 1 rfl
          clear hSt hK K
          try simp only [Act.put, List.setIfInBounds_toArray, List.set_cons_zero, List.set_cons_succ]
          refine trB ?_ ?_
          · obtain ⟨vo, z3, hap, h⟩ := Sys.appInts (L := []) (k := len2) (Sys.blkOwn (k := 0) (ys := []) (Z2.out.front 0 rfl) rfl (by decide)) a2 cap2 ls HLEN2.out (HI2.out.below (memBaseD (W := W) Z2.out (by simp))) (by have := HFEW.out; omega) 23
            rw [Nat.zero_add, List.nil_append] at h
            obtain ⟨oa, on_, oc, rfl, hkd⟩ := h.getOwn.slice
            obtain rfl : len2 = on_ := hkd.out.symm
            have Z3 := Lib.hid h
            clear h hkd
            refine trL rfl rfl (fun K hK => ?_)
            refine step_run_append rfl (.tmp 37) (.tmp 38) 23 rfl rfl rfl hap ?_
            clear hap
            refine hK.out _ _ anyW.i ?_ (fun _ hSt => ?_)
            · exact Z3.out.nth 1 rfl
            clear hSt hK K
            try simp only [Act.put, List.setIfInBounds_toArray, List.set_cons_zero, List.set_cons_succ]
            obtain ⟨nf, z4, ENnf, EXnf, -, Z4⟩ := Sys.box Z3.out (.cells #[.int .i64 0, .int .i64 1, .int .i64 2, .int .i64 3] 3 (0, 0))
            refine trL rfl rfl (fun K hK => ?_)
            go_simp
            rw [EXnf.out, ENnf.out]
            refine hK.out _ _ anyW.i ?_ (fun _ hSt => ?_)
            · exact Z4.out.nth 2 rfl
            clear hSt hK K
            try simp only [Act.put, List.setIfInBounds_toArray, List.set_cons_zero, List.set_cons_succ]
            obtain ⟨vo, z5, hap, h⟩ := Sys.appInts (k := 4) (Z4.out.front 1 rfl) (some ⟨nf, 0, none⟩) 4 [0, 1, 2, 3] rfl (ints_const (t := [0, 1, 2, 3]) (Z4.out.nth 0 rfl)) (by have := HFEW.out; omega) 23
            obtain ⟨oa, on_, oc, rfl, hkd⟩ := h.getOwn.slice
            obtain rfl := hkd.out
            have Z5 := Lib.hid h
            clear h hkd
            refine trL rfl rfl (fun K hK => ?_)
            refine step_run_append rfl (.tmp 39) (.tmp 40) 23 rfl rfl rfl hap ?_
            clear hap
            refine hK.out _ _ anyW.i ?_ (fun _ hSt => ?_)
            · exact Z5.out.nth 2 rfl
            clear hSt hK K
            try simp only [Act.put, List.setIfInBounds_toArray, List.set_cons_zero, List.set_cons_succ]
            refine trL rfl rfl (fun K hK => ?_)
            go_simp
            go_at_call 21
            have hc2 := adve_new (kw := 2) (p := p) cfgA ⟨by decide, by decide, by decide⟩ (ls ++ [0, 1, 2, 3]) oa (len2 + 4) oc (by rw [List.length_append, HLEN2.out]; rfl) (by have := HFEW.out; omega) (by intro y m' hs; exact (hs.front 0 rfl).getOwn.intsAt) Z5.out rfl
            refine hc2.mono ?_
            clear hc2
            rintro z z6 ⟨pb, rfl, h⟩
            rw [← HB2E.out] at h
            have Z6 := Lib.hid h
            clear h
            go_wp2_with fail
            refine hK.out _ _ anyW.i ?_ (fun _ hSt => ?_)
            · exact Z6.out.nth 2 rfl
            clear hSt hK K
            try simp only [Act.put, List.setIfInBounds_toArray, List.set_cons_zero, List.set_cons_succ]
            repeat (first | (refine trW (v := ?_) rfl rfl (by kernel_rfl) ?_ ?_; rotate_left; (focus ((intro x; go_simp); try (with_reducible rfl))); try simp only [Act.put, List.setIfInBounds_toArray, List.set_cons_zero, List.set_cons_succ]) | (refine trS (v := ?_) rfl rfl (by kernel_rfl) ?_ ?_; rotate_left; (focus (intro x hS; first | (refine (exec_row 49 _ (by rfl) nc (by rfl) _ _ _ _ hS Try.underlying49 rfl size8).trans ?_; with_reducible rfl) | (go_simp; try (with_reducible rfl)))); try simp only [Act.put, List.setIfInBounds_toArray, List.set_cons_zero, List.set_cons_succ]) | (refine trX rfl rfl (by kernel_rfl) ?_; try simp only [Act.put, List.setIfInBounds_toArray, List.set_cons_zero, List.set_cons_succ]))
            refine trE ?_
            have HFIN := Lib.hid (((Z6.out.dropAt 0 rfl).dropAt 0 rfl).dropAt 0 rfl)
            go_wp2_with fail
            go_meet
            case rel => exact ⟨pa, pb, rfl, rfl, HFIN.out⟩
          · obtain ⟨nf, z3, ENnf, EXnf, -, Z3⟩ := Sys.box Z2.out (.cells #[.int .i64 0, .int .i64 1, .int .i64 2, .int .i64 3] 3 (0, 0))
            refine trL rfl rfl (fun K hK => ?_)
            go_simp
            rw [EXnf.out, ENnf.out]
            refine hK.out _ _ anyW.i ?_ (fun _ hSt => ?_)
            · exact Z3.out.nth 2 rfl
            clear hSt hK K
            try simp only [Act.put, List.setIfInBounds_toArray, List.set_cons_zero, List.set_cons_succ]
            obtain ⟨vo, z4, hap, h⟩ := Sys.appInts (L := []) (k := len2) (Sys.blkOwn (k := 0) (ys := []) (Z3.out.front 1 rfl) rfl (by decide)) a2 cap2 ls HLEN2.out (HI2.out.below (memBaseD (W := W) Z3.out (by simp))) (by have := HFEW.out; omega) 23
            rw [Nat.zero_add, List.nil_append] at h
            obtain ⟨oa, on_, oc, rfl, hkd⟩ := h.getOwn.slice
            obtain rfl : len2 = on_ := hkd.out.symm
            have Z4 := Lib.hid h
            clear h hkd
            refine trL rfl rfl (fun K hK => ?_)
            refine step_run_append rfl (.tmp 37) (.tmp 38) 23 rfl rfl rfl hap ?_
            clear hap
            refine hK.out _ _ anyW.i ?_ (fun _ hSt => ?_)
            · exact Z4.out.nth 2 rfl
            clear hSt hK K
            try simp only [Act.put, List.setIfInBounds_toArray, List.set_cons_zero, List.set_cons_succ]
            obtain ⟨vo, z5, hap, h⟩ := Sys.appInts (k := 4) (Z4.out.front 0 rfl) (some ⟨nf, 0, none⟩) 4 [0, 1, 2, 3] rfl (ints_const (t := [0, 1, 2, 3]) (Z4.out.nth 1 rfl)) (by have := HFEW.out; omega) 23
            obtain ⟨oa, on_, oc, rfl, hkd⟩ := h.getOwn.slice
            obtain rfl := hkd.out
            have Z5 := Lib.hid h
            clear h hkd
            refine trL rfl rfl (fun K hK => ?_)
            refine step_run_append rfl (.tmp 39) (.tmp 40) 23 rfl rfl rfl hap ?_
            clear hap
            refine hK.out _ _ anyW.i ?_ (fun _ hSt => ?_)
            · exact Z5.out.nth 2 rfl
            clear hSt hK K
            try simp only [Act.put, List.setIfInBounds_toArray, List.set_cons_zero, List.set_cons_succ]
            refine trL rfl rfl (fun K hK => ?_)
            go_simp
            go_at_call 21
            have hc2 := adve_new (kw := 2) (p := p) cfgA ⟨by decide, by decide, by decide⟩ (ls ++ [0, 1, 2, 3]) oa (len2 + 4) oc (by rw [List.length_append, HLEN2.out]; rfl) (by have := HFEW.out; omega) (by intro y m' hs; exact (hs.front 0 rfl).getOwn.intsAt) Z5.out rfl
            refine hc2.mono ?_
            clear hc2
            rintro z z6 ⟨pb, rfl, h⟩
            rw [← HB2E.out] at h
            have Z6 := Lib.hid h
            clear h
            go_wp2_with fail
            refine hK.out _ _ anyW.i ?_ (fun _ hSt => ?_)
            · exact Z6.out.nth 2 rfl
            clear hSt hK K
            try simp only [Act.put, List.setIfInBounds_toArray, List.set_cons_zero, List.set_cons_succ]
            repeat (first | (refine trW (v := ?_) rfl rfl (by kernel_rfl) ?_ ?_; rotate_left; (focus ((intro x; go_simp); try (with_reducible rfl))); try simp only [Act.put, List.setIfInBounds_toArray, List.set_cons_zero, List.set_cons_succ]) | (refine trS (v := ?_) rfl rfl (by kernel_rfl) ?_ ?_; rotate_left; (focus (intro x hS; first | (refine (exec_row 49 _ (by rfl) nc (by rfl) _ _ _ _ hS Try.underlying49 rfl size8).trans ?_; with_reducible rfl) | (go_simp; try (with_reducible rfl)))); try simp only [Act.put, List.setIfInBounds_toArray, List.set_cons_zero, List.set_cons_succ]) | (refine trX rfl rfl (by kernel_rfl) ?_; try simp only [Act.put, List.setIfInBounds_toArray, List.set_cons_zero, List.set_cons_succ]))
            refine trE ?_
            have HFIN := Lib.hid (((Z6.out.dropAt 0 rfl).dropAt 0 rfl).dropAt 0 rfl)
            go_wp2_with fail
            go_meet
            case rel => exact ⟨pa, pb, rfl, rfl, HFIN.out⟩
        · obtain ⟨nf, z2, ENnf, EXnf, -, Z2⟩ := Sys.box Z1.out (.cells #[.int .i64 0, .int .i64 1, .int .i64 2, .int .i64 3] 3 (0, 0))
          refine trL rfl rfl (fun K hK => ?_)
          go_simp
          rw [EXnf.out, ENnf.out]
          refine hK.out _ _ anyW.i ?_ (fun _ hSt => ?_)
          · exact Z2.out.nth 1 rfl
          clear hSt hK K
          try simp only [Act.put, List.setIfInBounds_toArray, List.set_cons_zero, List.set_cons_succ]
          obtain ⟨ne, z3, ENne, EXne, -, Z3⟩ := Sys.box Z2.out (.cells #[] 3 (0, 0))
          refine trL rfl rfl (fun K hK => ?_)
          go_simp
          rw [EXne.out, ENne.out]
          refine hK.out _ _ anyW.i ?_ (fun _ hSt => ?_)
          · exact Z3.out.nth 2 rfl
          clear hSt hK K
          try simp only [Act.put, List.setIfInBounds_toArray, List.set_cons_zero, List.set_cons_succ]
          obtain ⟨vo, z4, hap, h⟩ := Sys.appInts (L := []) (k := len2) (Sys.blkOwn (k := 0) (ys := []) (Z3.out.front 0 rfl) rfl (by decide)) a2 cap2 ls HLEN2.out (HI2.out.below (memBaseD (W := W) Z3.out (by simp))) (by have := HFEW.out; omega) 23
          rw [Nat.zero_add, List.nil_append] at h
          obtain ⟨oa, on_, oc, rfl, hkd⟩ := h.getOwn.slice
          obtain rfl : len2 = on_ := hkd.out.symm
          have Z4 := Lib.hid h
          clear h hkd
          refine trL rfl rfl (fun K hK => ?_)
          refine step_run_append rfl (.tmp 37) (.tmp 38) 23 rfl rfl rfl hap ?_
          clear hap
          refine hK.out _ _ anyW.i ?_ (fun _ hSt => ?_)
          · exact Z4.out.nth 2 rfl
          clear hSt hK K
          try simp only [Act.put, List.setIfInBounds_toArray, List.set_cons_zero, List.set_cons_succ]
          obtain ⟨vo, z5, hap, h⟩ := Sys.appInts (k := 4) (Z4.out.front 0 rfl) (some ⟨nf, 0, none⟩) 4 [0, 1, 2, 3] rfl (ints_const (t := [0, 1, 2, 3]) (Z4.out.nth 1 rfl)) (by have := HFEW.out; omega) 23
          obtain ⟨oa, on_, oc, rfl, hkd⟩ := h.getOwn.slice
          obtain rfl := hkd.out
          have Z5 := Lib.hid h
          clear h hkd
          refine trL rfl rfl (fun K hK => ?_)
          refine step_run_append rfl (.tmp 39) (.tmp 40) 23 rfl rfl rfl hap ?_
          clear hap
          refine hK.out _ _ anyW.i ?_ (fun _ hSt => ?_)
          · exact Z5.out.nth 2 rfl
          clear hSt hK K
          try simp only [Act.put, List.setIfInBounds_toArray, List.set_cons_zero, List.set_cons_succ]
          refine trL rfl rfl (fun K hK => ?_)
          go_simp
          go_at_call 21
          have hc2 := adve_new (kw := 2) (p := p) cfgA ⟨by decide, by decide, by decide⟩ (ls ++ [0, 1, 2, 3]) oa (len2 + 4) oc (by rw [List.length_append, HLEN2.out]; rfl) (by have := HFEW.out; omega) (by intro y m' hs; exact (hs.front 0 rfl).getOwn.intsAt) Z5.out rfl
          refine hc2.mono ?_
          clear hc2
          rintro z z6 ⟨pb, rfl, h⟩
          rw [← HB2E.out] at h
          have Z6 := Lib.hid h
          clear h
          go_wp2_with fail
          refine hK.out _ _ anyW.i ?_ (fun _ hSt => ?_)
          · exact Z6.out.nth 2 rfl
          clear hSt hK K
          try simp only [Act.put, List.setIfInBounds_toArray, List.set_cons_zero, List.set_cons_succ]
          repeat (first | (refine trW (v := ?_) rfl rfl (by kernel_rfl) ?_ ?_; rotate_left; (focus ((intro x; go_simp); try (with_reducible rfl))); try simp only [Act.put, List.setIfInBounds_toArray, List.set_cons_zero, List.set_cons_succ]) | (refine trS (v := ?_) rfl rfl (by kernel_rfl) ?_ ?_; rotate_left; (focus (intro x hS; first | (refine (exec_row 49 _ (by rfl) nc (by rfl) _ _ _ _ hS Try.underlying49 rfl size8).trans ?_; with_reducible rfl) | (go_simp; try (with_reducible rfl)))); try simp only [Act.put, List.setIfInBounds_toArray, List.set_cons_zero, List.set_cons_succ]) | (refine trX rfl rfl (by kernel_rfl) ?_; try simp only [Act.put, List.setIfInBounds_toArray, List.set_cons_zero, List.set_cons_succ]))
          refine trE ?_
          have HFIN := Lib.hid (((Z6.out.dropAt 0 rfl).dropAt 0 rfl).dropAt 0 rfl)
          go_wp2_with fail
          go_meet
          case rel => exact ⟨pa, pb, rfl, rfl, HFIN.out⟩
      · obtain ⟨ne, z1, ENne, EXne, -, Z1⟩ := Sys.box Z0.out (.cells #[] 3 (0, 0))
        refine trL rfl rfl (fun K hK => ?_)
        go_simp
        rw [EXne.out, ENne.out]
        refine hK.out _ _ anyW.i ?_ (fun _ hSt => ?_)
        · exact Z1.out.nth 1 rfl
        clear hSt hK K
        try simp only [Act.put, List.setIfInBounds_toArray, List.set_cons_zero, List.set_cons_succ]
        refine trB ?_ ?_
        · refine trL rfl rfl (fun K hK => ?_)
          go_simp
          go_at_call 21
          refine (adve_new (kw := 1) cfgA ⟨by decide, by decide, by decide⟩ ls a2 len2 cap2 HLEN2.out (by have := HFEW.out; omega) (fun y m' hs => HI2.out.below (memBaseD (W := W) hs (by simp))) Z1.out rfl).mono ?_
          rintro z z2 ⟨pa, rfl, h⟩
          rw [← HB1E.out] at h
          have Z2 := Lib.hid h
          clear h
          go_wp2_with fail
          refine hK.out _ _ anyW.i ?_ (fun _ hSt => ?_)
          · exact Z2.out.nth 1 rfl
          clear hSt hK K
          try simp only [Act.put, List.setIfInBounds_toArray, List.set_cons_zero, List.set_cons_succ]
          refine trB ?_ ?_
          · obtain ⟨vo, z3, hap, h⟩ := Sys.appInts (L := []) (k := len2) (Sys.blkOwn (k := 0) (ys := []) (Z2.out.front 0 rfl) rfl (by decide)) a2 cap2 ls HLEN2.out (HI2.out.below (memBaseD (W := W) Z2.out (by simp))) (by have := HFEW.out; omega) 23
            rw [Nat.zero_add, List.nil_append] at h
            obtain ⟨oa, on_, oc, rfl, hkd⟩ := h.getOwn.slice
            obtain rfl : len2 = on_ := hkd.out.symm
            have Z3 := Lib.hid h
            clear h hkd
            refine trL rfl rfl (fun K hK => ?_)
            refine step_run_append rfl (.tmp 37) (.tmp 38) 23 rfl rfl rfl hap ?_
            clear hap
            refine hK.out _ _ anyW.i ?_ (fun _ hSt => ?_)
            · exact Z3.out.nth 1 rfl
            clear hSt hK K
            try simp only [Act.put, List.setIfInBounds_toArray, List.set_cons_zero, List.set_cons_succ]
            obtain ⟨nf, z4, ENnf, EXnf, -, Z4⟩ := Sys.box Z3.out (.cells #[.int .i64 0, .int .i64 1, .int .i64 2, .int .i64 3] 3 (0, 0))
            refine trL rfl rfl (fun K hK => ?_)
            go_simp
            rw [EXnf.out, ENnf.out]
            refine hK.out _ _ anyW.i ?_ (fun _ hSt => ?_)
            · exact Z4.out.nth 2 rfl
            clear hSt hK K
            try simp only [Act.put, List.setIfInBounds_toArray, List.set_cons_zero, List.set_cons_succ]
            obtain ⟨vo, z5, hap, h⟩ := Sys.appInts (k := 4) (Z4.out.front 1 rfl) (some ⟨nf, 0, none⟩) 4 [0, 1, 2, 3] rfl (ints_const (t := [0, 1, 2, 3]) (Z4.out.nth 0 rfl)) (by have := HFEW.out; omega) 23
            obtain ⟨oa, on_, oc, rfl, hkd⟩ := h.getOwn.slice
            obtain rfl := hkd.out
            have Z5 := Lib.hid h
            clear h hkd
            refine trL rfl rfl (fun K hK => ?_)
            refine step_run_append rfl (.tmp 39) (.tmp 40) 23 rfl rfl rfl hap ?_
            clear hap
            refine hK.out _ _ anyW.i ?_ (fun _ hSt => ?_)
            · exact Z5.out.nth 2 rfl
            clear hSt hK K
            try simp only [Act.put, List.setIfInBounds_toArray, List.set_cons_zero, List.set_cons_succ]
            refine trL rfl rfl (fun K hK => ?_)
            go_simp
            go_at_call 21
            have hc2 := adve_new (kw := 2) (p := p) cfgA ⟨by decide, by decide, by decide⟩ (ls ++ [0, 1, 2, 3]) oa (len2 + 4) oc (by rw [List.length_append, HLEN2.out]; rfl) (by have := HFEW.out; omega) (by intro y m' hs; exact (hs.front 0 rfl).getOwn.intsAt) Z5.out rfl
            refine hc2.mono ?_
            clear hc2
            rintro z z6 ⟨pb, rfl, h⟩
            rw [← HB2E.out] at h
            have Z6 := Lib.hid h
            clear h
            go_wp2_with fail
            refine hK.out _ _ anyW.i ?_ (fun _ hSt => ?_)
            · exact Z6.out.nth 2 rfl
            clear hSt hK K
            try simp only [Act.put, List.setIfInBounds_toArray, List.set_cons_zero, List.set_cons_succ]
            repeat (first | (refine trW (v := ?_) rfl rfl (by kernel_rfl) ?_ ?_; rotate_left; (focus ((intro x; go_simp); try (with_reducible rfl))); try simp only [Act.put, List.setIfInBounds_toArray, List.set_cons_zero, List.set_cons_succ]) | (refine trS (v := ?_) rfl rfl (by kernel_rfl) ?_ ?_; rotate_left; (focus (intro x hS; first | (refine (exec_row 49 _ (by rfl) nc (by rfl) _ _ _ _ hS Try.underlying49 rfl size8).trans ?_; with_reducible rfl) | (go_simp; try (with_reducible rfl)))); try simp only [Act.put, List.setIfInBounds_toArray, List.set_cons_zero, List.set_cons_succ]) | (refine trX rfl rfl (by kernel_rfl) ?_; try simp only [Act.put, List.setIfInBounds_toArray, List.set_cons_zero, List.set_cons_succ]))
            refine trE ?_
            have HFIN := Lib.hid (((Z6.out.dropAt 0 rfl).dropAt 0 rfl).dropAt 0 rfl)
            go_wp2_with fail
            go_meet
            case rel => exact ⟨pa, pb, rfl, rfl, HFIN.out⟩
          · obtain ⟨nf, z3, ENnf, EXnf, -, Z3⟩ := Sys.box Z2.out (.cells #[.int .i64 0, .int .i64 1, .int .i64 2, .int .i64 3] 3 (0, 0))
            refine trL rfl rfl (fun K hK => ?_)
            go_simp
            rw [EXnf.out, ENnf.out]
            refine hK.out _ _ anyW.i ?_ (fun _ hSt => ?_)
            · exact Z3.out.nth 2 rfl
            clear hSt hK K
            try simp only [Act.put, List.setIfInBounds_toArray, List.set_cons_zero, List.set_cons_succ]
            obtain ⟨vo, z4, hap, h⟩ := Sys.appInts (L := []) (k := len2) (Sys.blkOwn (k := 0) (ys := []) (Z3.out.front 1 rfl) rfl (by decide)) a2 cap2 ls HLEN2.out (HI2.out.below (memBaseD (W := W) Z3.out (by simp))) (by have := HFEW.out; omega) 23
            rw [Nat.zero_add, List.nil_append] at h
            obtain ⟨oa, on_, oc, rfl, hkd⟩ := h.getOwn.slice
            obtain rfl : len2 = on_ := hkd.out.symm
            have Z4 := Lib.hid h
            clear h hkd
            refine trL rfl rfl (fun K hK => ?_)
            refine step_run_append rfl (.tmp 37) (.tmp 38) 23 rfl rfl rfl hap ?_
            clear hap
            refine hK.out _ _ anyW.i ?_ (fun _ hSt => ?_)
            · exact Z4.out.nth 2 rfl
            clear hSt hK K
            try simp only [Act.put, List.setIfInBounds_toArray, List.set_cons_zero, List.set_cons_succ]
            obtain ⟨vo, z5, hap, h⟩ := Sys.appInts (k := 4) (Z4.out.front 0 rfl) (some ⟨nf, 0, none⟩) 4 [0, 1, 2, 3] rfl (ints_const (t := [0, 1, 2, 3]) (Z4.out.nth 1 rfl)) (by have := HFEW.out; omega) 23
            obtain ⟨oa, on_, oc, rfl, hkd⟩ := h.getOwn.slice
            obtain rfl := hkd.out
            have Z5 := Lib.hid h
            clear h hkd
            refine trL rfl rfl (fun K hK => ?_)
            refine step_run_append rfl (.tmp 39) (.tmp 40) 23 rfl rfl rfl hap ?_
            clear hap
            refine hK.out _ _ anyW.i ?_ (fun _ hSt => ?_)
            · exact Z5.out.nth 2 rfl
            clear hSt hK K
            try simp only [Act.put, List.setIfInBounds_toArray, List.set_cons_zero, List.set_cons_succ]
            refine trL rfl rfl (fun K hK => ?_)
            go_simp
            go_at_call 21
            have hc2 := adve_new (kw := 2) (p := p) cfgA ⟨by decide, by decide, by decide⟩ (ls ++ [0, 1, 2, 3]) oa (len2 + 4) oc (by rw [List.length_append, HLEN2.out]; rfl) (by have := HFEW.out; omega) (by intro y m' hs; exact (hs.front 0 rfl).getOwn.intsAt) Z5.out rfl
            refine hc2.mono ?_
            clear hc2
            rintro z z6 ⟨pb, rfl, h⟩
            rw [← HB2E.out] at h
            have Z6 := Lib.hid h
            clear h
            go_wp2_with fail
            refine hK.out _ _ anyW.i ?_ (fun _ hSt => ?_)
            · exact Z6.out.nth 2 rfl
            clear hSt hK K
            try simp only [Act.put, List.setIfInBounds_toArray, List.set_cons_zero, List.set_cons_succ]
            repeat (first | (refine trW (v := ?_) rfl rfl (by kernel_rfl) ?_ ?_; rotate_left; (focus ((intro x; go_simp); try (with_reducible rfl))); try simp only [Act.put, List.setIfInBounds_toArray, List.set_cons_zero, List.set_cons_succ]) | (refine trS (v := ?_) rfl rfl (by kernel_rfl) ?_ ?_; rotate_left; (focus (intro x hS; first | (refine (exec_row 49 _ (by rfl) nc (by rfl) _ _ _ _ hS Try.underlying49 rfl size8).trans ?_; with_reducible rfl) | (go_simp; try (with_reducible rfl)))); try simp only [Act.put, List.setIfInBounds_toArray, List.set_cons_zero, List.set_cons_succ]) | (refine trX rfl rfl (by kernel_rfl) ?_; try simp only [Act.put, List.setIfInBounds_toArray, List.set_cons_zero, List.set_cons_succ]))
            refine trE ?_
            have HFIN := Lib.hid (((Z6.out.dropAt 0 rfl).dropAt 0 rfl).dropAt 0 rfl)
            go_wp2_with fail
            go_meet
            case rel => exact ⟨pa, pb, rfl, rfl, HFIN.out⟩
        · obtain ⟨nf, z2, ENnf, EXnf, -, Z2⟩ := Sys.box Z1.out (.cells #[.int .i64 0, .int .i64 1, .int .i64 2, .int .i64 3] 3 (0, 0))
          refine trL rfl rfl (fun K hK => ?_)
          go_simp
          rw [EXnf.out, ENnf.out]
          refine hK.out _ _ anyW.i ?_ (fun _ hSt => ?_)
          · exact Z2.out.nth 2 rfl
          clear hSt hK K
          try simp only [Act.put, List.setIfInBounds_toArray, List.set_cons_zero, List.set_cons_succ]
          refine trL rfl rfl (fun K hK => ?_)
          go_simp
          go_at_call 21
          refine (adve_new (kw := 1) cfgA ⟨by decide, by decide, by decide⟩ ls a2 len2 cap2 HLEN2.out (by have := HFEW.out; omega) (fun y m' hs => HI2.out.below (memBaseD (W := W) hs (by simp))) Z2.out rfl).mono ?_
          rintro z z3 ⟨pa, rfl, h⟩
          rw [← HB1E.out] at h
          have Z3 := Lib.hid h
          clear h
          go_wp2_with fail
          refine hK.out _ _ anyW.i ?_ (fun _ hSt => ?_)
          · exact Z3.out.nth 2 rfl
          clear hSt hK K
          try simp only [Act.put, List.setIfInBounds_toArray, List.set_cons_zero, List.set_cons_succ]
          obtain ⟨vo, z4, hap, h⟩ := Sys.appInts (L := []) (k := len2) (Sys.blkOwn (k := 0) (ys := []) (Z3.out.front 1 rfl) rfl (by decide)) a2 cap2 ls HLEN2.out (HI2.out.below (memBaseD (W := W) Z3.out (by simp))) (by have := HFEW.out; omega) 23
          rw [Nat.zero_add, List.nil_append] at h
          obtain ⟨oa, on_, oc, rfl, hkd⟩ := h.getOwn.slice
          obtain rfl : len2 = on_ := hkd.out.symm
          have Z4 := Lib.hid h
          clear h hkd
          refine trL rfl rfl (fun K hK => ?_)
          refine step_run_append rfl (.tmp 37) (.tmp 38) 23 rfl rfl rfl hap ?_
          clear hap
          refine hK.out _ _ anyW.i ?_ (fun _ hSt => ?_)
          · exact Z4.out.nth 2 rfl
          clear hSt hK K
          try simp only [Act.put, List.setIfInBounds_toArray, List.set_cons_zero, List.set_cons_succ]
          obtain ⟨vo, z5, hap, h⟩ := Sys.appInts (k := 4) (Z4.out.front 0 rfl) (some ⟨nf, 0, none⟩) 4 [0, 1, 2, 3] rfl (ints_const (t := [0, 1, 2, 3]) (Z4.out.nth 1 rfl)) (by have := HFEW.out; omega) 23
          obtain ⟨oa, on_, oc, rfl, hkd⟩ := h.getOwn.slice
          obtain rfl := hkd.out
          have Z5 := Lib.hid h
          clear h hkd
          refine trL rfl rfl (fun K hK => ?_)
          refine step_run_append rfl (.tmp 39) (.tmp 40) 23 rfl rfl rfl hap ?_
          clear hap
          refine hK.out _ _ anyW.i ?_ (fun _ hSt => ?_)
          · exact Z5.out.nth 2 rfl
          clear hSt hK K
          try simp only [Act.put, List.setIfInBounds_toArray, List.set_cons_zero, List.set_cons_succ]
          refine trL rfl rfl (fun K hK => ?_)
          go_simp
          go_at_call 21
          have hc2 := adve_new (kw := 2) (p := p) cfgA ⟨by decide, by decide, by decide⟩ (ls ++ [0, 1, 2, 3]) oa (len2 + 4) oc (by rw [List.length_append, HLEN2.out]; rfl) (by have := HFEW.out; omega) (by intro y m' hs; exact (hs.front 0 rfl).getOwn.intsAt) Z5.out rfl
          refine hc2.mono ?_
          clear hc2
          rintro z z6 ⟨pb, rfl, h⟩
          rw [← HB2E.out] at h
          have Z6 := Lib.hid h
          clear h
          go_wp2_with fail
          refine hK.out _ _ anyW.i ?_ (fun _ hSt => ?_)
          · exact Z6.out.nth 2 rfl
          clear hSt hK K
          try simp only [Act.put, List.setIfInBounds_toArray, List.set_cons_zero, List.set_cons_succ]
          repeat (first | (refine trW (v := ?_) rfl rfl (by kernel_rfl) ?_ ?_; rotate_left; (focus ((intro x; go_simp); try (with_reducible rfl))); try simp only [Act.put, List.setIfInBounds_toArray, List.set_cons_zero, List.set_cons_succ]) | (refine trS (v := ?_) rfl rfl (by kernel_rfl) ?_ ?_; rotate_left; (focus (intro x hS; first | (refine (exec_row 49 _ (by rfl) nc (by rfl) _ _ _ _ hS Try.underlying49 rfl size8).trans ?_; with_reducible rfl) | (go_simp; try (with_reducible rfl)))); try simp only [Act.put, List.setIfInBounds_toArray, List.set_cons_zero, List.set_cons_succ]) | (refine trX rfl rfl (by kernel_rfl) ?_; try simp only [Act.put, List.setIfInBounds_toArray, List.set_cons_zero, List.set_cons_succ]))
          refine trE ?_
          have HFIN := Lib.hid (((Z6.out.dropAt 0 rfl).dropAt 0 rfl).dropAt 0 rfl)
          go_wp2_with fail
          go_meet
          case rel => exact ⟨pa, pb, rfl, rfl, HFIN.out⟩
      · obtain ⟨nf, z1, ENnf, EXnf, -, Z1⟩ := Sys.box Z0.out (.cells #[.int .i64 0, .int .i64 1, .int .i64 2, .int .i64 3] 3 (0, 0))
        refine trL rfl rfl (fun K hK => ?_)
        go_simp
        rw [EXnf.out, ENnf.out]
        refine hK.out _ _ anyW.i ?_ (fun _ hSt => ?_)
        · exact Z1.out.nth 1 rfl
        clear hSt hK K
        try simp only [Act.put, List.setIfInBounds_toArray, List.set_cons_zero, List.set_cons_succ]
        refine trB ?_ ?_
        · refine trL rfl rfl (fun K hK => ?_)
          go_simp
          go_at_call 21
          refine (adve_new (kw := 1) cfgA ⟨by decide, by decide, by decide⟩ ls a2 len2 cap2 HLEN2.out (by have := HFEW.out; omega) (fun y m' hs => HI2.out.below (memBaseD (W := W) hs (by simp))) Z1.out rfl).mono ?_
          rintro z z2 ⟨pa, rfl, h⟩
          rw [← HB1E.out] at h
          have Z2 := Lib.hid h
          clear h
          go_wp2_with fail
          refine hK.out _ _ anyW.i ?_ (fun _ hSt => ?_)
          · exact Z2.out.nth 1 rfl
          clear hSt hK K
          try simp only [Act.put, List.setIfInBounds_toArray, List.set_cons_zero, List.set_cons_succ]
          obtain ⟨ne, z3, ENne, EXne, -, Z3⟩ := Sys.box Z2.out (.cells #[] 3 (0, 0))
          refine trL rfl rfl (fun K hK => ?_)
          go_simp
          rw [EXne.out, ENne.out]
          refine hK.out _ _ anyW.i ?_ (fun _ hSt => ?_)
          · exact Z3.out.nth 2 rfl
          clear hSt hK K
          try simp only [Act.put, List.setIfInBounds_toArray, List.set_cons_zero, List.set_cons_succ]
          obtain ⟨vo, z4, hap, h⟩ := Sys.appInts (L := []) (k := len2) (Sys.blkOwn (k := 0) (ys := []) (Z3.out.front 0 rfl) rfl (by decide)) a2 cap2 ls HLEN2.out (HI2.out.below (memBaseD (W := W) Z3.out (by simp))) (by have := HFEW.out; omega) 23
          rw [Nat.zero_add, List.nil_append] at h
          obtain ⟨oa, on_, oc, rfl, hkd⟩ := h.getOwn.slice
          obtain rfl : len2 = on_ := hkd.out.symm
          have Z4 := Lib.hid h
          clear h hkd
          refine trL rfl rfl (fun K hK => ?_)
          refine step_run_append rfl (.tmp 37) (.tmp 38) 23 rfl rfl rfl hap ?_
          clear hap
          refine hK.out _ _ anyW.i ?_ (fun _ hSt => ?_)
          · exact Z4.out.nth 2 rfl
          clear hSt hK K
          try simp only [Act.put, List.setIfInBounds_toArray, List.set_cons_zero, List.set_cons_succ]
          obtain ⟨vo, z5, hap, h⟩ := Sys.appInts (k := 4) (Z4.out.front 0 rfl) (some ⟨nf, 0, none⟩) 4 [0, 1, 2, 3] rfl (ints_const (t := [0, 1, 2, 3]) (Z4.out.nth 1 rfl)) (by have := HFEW.out; omega) 23
          obtain ⟨oa, on_, oc, rfl, hkd⟩ := h.getOwn.slice
          obtain rfl := hkd.out
          have Z5 := Lib.hid h
          clear h hkd
          refine trL rfl rfl (fun K hK => ?_)
          refine step_run_append rfl (.tmp 39) (.tmp 40) 23 rfl rfl rfl hap ?_
          clear hap
          refine hK.out _ _ anyW.i ?_ (fun _ hSt => ?_)
          · exact Z5.out.nth 2 rfl
          clear hSt hK K
          try simp only [Act.put, List.setIfInBounds_toArray, List.set_cons_zero, List.set_cons_succ]
          refine trL rfl rfl (fun K hK => ?_)
          go_simp
          go_at_call 21
          have hc2 := adve_new (kw := 2) (p := p) cfgA ⟨by decide, by decide, by decide⟩ (ls ++ [0, 1, 2, 3]) oa (len2 + 4) oc (by rw [List.length_append, HLEN2.out]; rfl) (by have := HFEW.out; omega) (by intro y m' hs; exact (hs.front 0 rfl).getOwn.intsAt) Z5.out rfl
          refine hc2.mono ?_
          clear hc2
          rintro z z6 ⟨pb, rfl, h⟩
          rw [← HB2E.out] at h
          have Z6 := Lib.hid h
          clear h
          go_wp2_with fail
          refine hK.out _ _ anyW.i ?_ (fun _ hSt => ?_)
          · exact Z6.out.nth 2 rfl
          clear hSt hK K
          try simp only [Act.put, List.setIfInBounds_toArray, List.set_cons_zero, List.set_cons_succ]
          repeat (first | (refine trW (v := ?_) rfl rfl (by kernel_rfl) ?_ ?_; rotate_left; (focus ((intro x; go_simp); try (with_reducible rfl))); try simp only [Act.put, List.setIfInBounds_toArray, List.set_cons_zero, List.set_cons_succ]) | (refine trS (v := ?_) rfl rfl (by kernel_rfl) ?_ ?_; rotate_left; (focus (intro x hS; first | (refine (exec_row 49 _ (by rfl) nc (by rfl) _ _ _ _ hS Try.underlying49 rfl size8).trans ?_; with_reducible rfl) | (go_simp; try (with_reducible rfl)))); try simp only [Act.put, List.setIfInBounds_toArray, List.set_cons_zero, List.set_cons_succ]) | (refine trX rfl rfl (by kernel_rfl) ?_; try simp only [Act.put, List.setIfInBounds_toArray, List.set_cons_zero, List.set_cons_succ]))
          refine trE ?_
          have HFIN := Lib.hid (((Z6.out.dropAt 0 rfl).dropAt 0 rfl).dropAt 0 rfl)
          go_wp2_with fail
          go_meet
          case rel => exact ⟨pa, pb, rfl, rfl, HFIN.out⟩
        · obtain ⟨ne, z2, ENne, EXne, -, Z2⟩ := Sys.box Z1.out (.cells #[] 3 (0, 0))
          refine trL rfl rfl (fun K hK => ?_)
          go_simp
          rw [EXne.out, ENne.out]
          refine hK.out _ _ anyW.i ?_ (fun _ hSt => ?_)
          · exact Z2.out.nth 2 rfl
          clear hSt hK K
          try simp only [Act.put, List.setIfInBounds_toArray, List.set_cons_zero, List.set_cons_succ]
          refine trL rfl rfl (fun K hK => ?_)
          go_simp
          go_at_call 21
          refine (adve_new (kw := 1) cfgA ⟨by decide, by decide, by decide⟩ ls a2 len2 cap2 HLEN2.out (by have := HFEW.out; omega) (fun y m' hs => HI2.out.below (memBaseD (W := W) hs (by simp))) Z2.out rfl).mono ?_
          rintro z z3 ⟨pa, rfl, h⟩
          rw [← HB1E.out] at h
          have Z3 := Lib.hid h
          clear h
          go_wp2_with fail
          refine hK.out _ _ anyW.i ?_ (fun _ hSt => ?_)
          · exact Z3.out.nth 2 rfl
          clear hSt hK K
          try simp only [Act.put, List.setIfInBounds_toArray, List.set_cons_zero, List.set_cons_succ]
          obtain ⟨vo, z4, hap, h⟩ := Sys.appInts (L := []) (k := len2) (Sys.blkOwn (k := 0) (ys := []) (Z3.out.front 0 rfl) rfl (by decide)) a2 cap2 ls HLEN2.out (HI2.out.below (memBaseD (W := W) Z3.out (by simp))) (by have := HFEW.out; omega) 23
          rw [Nat.zero_add, List.nil_append] at h
          obtain ⟨oa, on_, oc, rfl, hkd⟩ := h.getOwn.slice
          obtain rfl : len2 = on_ := hkd.out.symm
          have Z4 := Lib.hid h
          clear h hkd
          refine trL rfl rfl (fun K hK => ?_)
          refine step_run_append rfl (.tmp 37) (.tmp 38) 23 rfl rfl rfl hap ?_
          clear hap
          refine hK.out _ _ anyW.i ?_ (fun _ hSt => ?_)
          · exact Z4.out.nth 2 rfl
          clear hSt hK K
          try simp only [Act.put, List.setIfInBounds_toArray, List.set_cons_zero, List.set_cons_succ]
          obtain ⟨vo, z5, hap, h⟩ := Sys.appInts (k := 4) (Z4.out.front 0 rfl) (some ⟨nf, 0, none⟩) 4 [0, 1, 2, 3] rfl (ints_const (t := [0, 1, 2, 3]) (Z4.out.nth 1 rfl)) (by have := HFEW.out; omega) 23
          obtain ⟨oa, on_, oc, rfl, hkd⟩ := h.getOwn.slice
          obtain rfl := hkd.out
          have Z5 := Lib.hid h
          clear h hkd
          refine trL rfl rfl (fun K hK => ?_)
          refine step_run_append rfl (.tmp 39) (.tmp 40) 23 rfl rfl rfl hap ?_
          clear hap
          refine hK.out _ _ anyW.i ?_ (fun _ hSt => ?_)
          · exact Z5.out.nth 2 rfl
          clear hSt hK K
          try simp only [Act.put, List.setIfInBounds_toArray, List.set_cons_zero, List.set_cons_succ]
          refine trL rfl rfl (fun K hK => ?_)
          go_simp
          go_at_call 21
          have hc2 := adve_new (kw := 2) (p := p) cfgA ⟨by decide, by decide, by decide⟩ (ls ++ [0, 1, 2, 3]) oa (len2 + 4) oc (by rw [List.length_append, HLEN2.out]; rfl) (by have := HFEW.out; omega) (by intro y m' hs; exact (hs.front 0 rfl).getOwn.intsAt) Z5.out rfl
          refine hc2.mono ?_
          clear hc2
          rintro z z6 ⟨pb, rfl, h⟩
          rw [← HB2E.out] at h
          have Z6 := Lib.hid h
          clear h
          go_wp2_with fail
          refine hK.out _ _ anyW.i ?_ (fun _ hSt => ?_)
          · exact Z6.out.nth 2 rfl
          clear hSt hK K
          try simp only [Act.put, List.setIfInBounds_toArray, List.set_cons_zero, List.set_cons_succ]
          repeat (first | (refine trW (v := ?_) rfl rfl (by kernel_rfl) ?_ ?_; rotate_left; (focus ((intro x; go_simp); try (with_reducible rfl))); try simp only [Act.put, List.setIfInBounds_toArray, List.set_cons_zero, List.set_cons_succ]) | (refine trS (v := ?_) rfl rfl (by kernel_rfl) ?_ ?_; rotate_left; (focus (intro x hS; first | (refine (exec_row 49 _ (by rfl) nc (by rfl) _ _ _ _ hS Try.underlying49 rfl size8).trans ?_; with_reducible rfl) | (go_simp; try (with_reducible rfl)))); try simp only [Act.put, List.setIfInBounds_toArray, List.set_cons_zero, List.set_cons_succ]) | (refine trX rfl rfl (by kernel_rfl) ?_; try simp only [Act.put, List.setIfInBounds_toArray, List.set_cons_zero, List.set_cons_succ]))
          refine trE ?_
          have HFIN := Lib.hid (((Z6.out.dropAt 0 rfl).dropAt 0 rfl).dropAt 0 rfl)
          go_wp2_with fail
          go_meet
          case rel => exact ⟨pa, pb, rfl, rfl, HFIN.out⟩
    case rest =>
      obtain ⟨pa, pb, rfl, rfl, hR⟩ := hcut
      have H3 := Lib.hid hR
      clear hR HB1E HB2E HI2 HLEN2 HFEW H2 H1 EN2 EX2 ES2
      obtain ⟨nb, x4, EN4, EX4, ES4, H4⟩ := H3.out.box (.cells #[.int .u8 111, .int .u8 110, .int .u8 101] 5 (3, 4))
      go_upto_region 8 with fail
      go_wp2_with fail
      rw [EX4.out, EN4.out]
      have hby : BytesAt x4 (some ⟨nb, 0, none⟩) [111, 110, 101] := bytes_const (t := [111, 110, 101]) (H4.out.nth 0 rfl)
      refine (world_make 0 0 1 (some ⟨nb, 0, none⟩) [111, 110, 101] 3 (by decide) (by decide) H4.out rfl (by rw [HC0.out]; decide) (by rw [HT0.out]; decide) hby (fun h => nomatch h) (by decide)).mono ?_
      rintro e x5 ⟨he, h⟩
      rw [three0] at h
      obtain ⟨X1, hX1⟩ : ∃ X, X = X0.made ⟨0, 0, 1, (X0.C.length : Int) + 1⟩ [111, 110, 101] := ⟨_, rfl⟩
      have hC1 : X1.C = [⟨0, [111, 110, 101], []⟩] := by rw [hX1]; show X0.C ++ _ = _; rw [HC0.out]; rfl
      have hT1 : X1.T.length ≤ 1 := by
        rw [hX1]
        have := (X0.ext_digest (envB ⟨0, 0, 1, (X0.C.length : Int) + 1⟩)).len.2
        rw [HT0.out] at this
        exact this
      rw [← hX1] at h
      obtain rfl := he
      have H5 := Lib.hid h.tail
      have HC1 := Lib.hid hC1
      have HT1 := Lib.hid hT1
      clear h hX1 hC1 hT1 hby HC0 HT0 H4
      obtain ⟨nb2, x6, EN6, EX6, ES6, H6⟩ := H5.out.box (.cells #[.int .u8 116, .int .u8 119, .int .u8 111] 5 (3, 4))
      go_upto_region 9 with fail
      go_wp2_with fail
      rw [EX6.out, EN6.out]
      have hby : BytesAt x6 (some ⟨nb2, 0, none⟩) [116, 119, 111] := bytes_const (t := [116, 119, 111]) (H6.out.nth 0 rfl)
      refine (world_make 1 0 1 (some ⟨nb2, 0, none⟩) [116, 119, 111] 3 (by decide) (by decide) H6.out rfl (by rw [HC1.out]; decide) (by have := HT1.out; omega) hby (fun h => nomatch h) (by decide)).mono ?_
      rintro e x7 ⟨he, h⟩
      rw [three0] at h
      obtain ⟨X2, hX2⟩ : ∃ X, X = X1.made ⟨1, 0, 1, (X1.C.length : Int) + 1⟩ [116, 119, 111] := ⟨_, rfl⟩
      have hC2 : TwoC X2.C := by
        have e : X2.C = [⟨0, [111, 110, 101], []⟩, ⟨1, [116, 119, 111], []⟩] := by rw [hX2]; show X1.C ++ _ = _; rw [HC1.out]; rfl
        rw [e]
        exact ⟨rfl, by decide⟩
      rw [← hX2] at h
      obtain rfl := he
      have H7 := Lib.hid h.tail
      have HC2 := Lib.hid hC2
      clear h hX2 hC2 hby HC1 HT1 H6 kc1 kc2
      go_wp2_with fail
      go_loopw [11] (fun iv wr => ∃ (i : Nat) (X : WX) (S : List SeenT) (OL : List Int), i ≤ len1 ∧ i ≤ 12 ∧ iv = .int .i64 (i : Int) ∧ Hid (TwoC X.C) ∧ Hid (SeenOk S (3 * i)) ∧ Sys wr (three (worldT p d X) (watchT pa p B1 S (oneM OL)) (watchT pb p B2 S (oneM OL))) [base W]) (fun iv _ => 12 - (intOf iv).toNat)
      case atStart => exact ⟨0, X2, [], [], by omega, by omega, rfl, HC2.out, ⟨Nat.le_refl _, fun _ h => by cases h⟩, H7.out⟩
      case round =>
        obtain ⟨i, X, S, OL, hi, hi12, rfl, HXC, HSO, hR⟩ := hrel
        by_cases hgo : i < len1 ∧ i < 12
        · obtain ⟨hlt, h12⟩ := hgo
          have hil : (i : Int) < (len1 : Int) := by omega
          have hi3 : (i : Int) < 12 := by omega
          have hiw : IntKind.i64.wrap ((i : Int) + 1) = (i : Int) + 1 := by rw [IntKind.wrap_i64]; omega
          have HLT := Lib.hid hlt
          have H12 := Lib.hid h12
          have HR := Lib.hid hR
          clear hR hlt h12 hi hi12
          obtain ⟨x, hx⟩ : ∃ x, x = is.getD i 0 := ⟨_, rfl⟩
          obtain ⟨ib, io, rfl⟩ : ∃ b off, a1 = some ⟨b, off, none⟩ := IntsAt.some_ HI1.out (by rw [HLEN1.out]; exact HLT.out)
          have HCI : Hid (∀ y, Below W.heap.size W y → y.cell? ⟨ib, io + i, none⟩ = some (.int .i64 x)) := fun y hB => by
            rcases HI1.out.below hB with h0 | ⟨b, off, e, hc⟩
            · have h1 := HLEN1.out; have h2 := HLT.out; rw [h0] at h1; simp at h1; omega
            · cases e; rw [hx]; exact hc i (by rw [HLEN1.out]; exact HLT.out)
          clear hx
          go_upto_if 70 with fail
          go_cut [] from 57 to 191 (fun wx => ∃ S2, Hid (SeenOk S2 (3 * i + 1)) ∧ Sys wx (three (worldT p d X) (watchT pa p B1 S2 (oneM OL)) (watchT pb p B2 S2 (oneM OL))) [base W])
          case first =>
            by_cases hl : i < len0
            · have hl0 : (i : Int) < (len0 : Int) := by omega
              have hil2 : i < LM.length := by rw [HLM.out]; exact hl
              obtain ⟨mb, mo, rfl, -⟩ := HROW.out.msg (y := W) (Below.refl _ _) hil2
              obtain ⟨PM, hPM⟩ : ∃ P, P = LM[i] := ⟨_, rfl⟩
              obtain ⟨hat, hwf, hps⟩ := HAT.out LM[i] (List.getElem_mem hil2)
              have HMC : Hid (∀ y, Below W.heap.size W y → ∀ (j : Nat) (v : Value), PM.cells[j]? = some v → y.cell? ⟨mb, mo + i * 19 + j, none⟩ = some v) := fun y hB => by
                obtain ⟨b, off, e, h⟩ := HROW.out.msg hB hil2
                cases e; rw [hPM]; exact h
              rw [← hPM] at hat hwf hps
              have HPA := Lib.hid hat
              have HPW := Lib.hid hwf
              have HPS := Lib.hid hps
              have HCL := Lib.hid (MsgP.code_len hat hps)
              have hbnd : i + 1 ≤ cap0 := by
                obtain ⟨_, _, e, -, -, -, -, hc⟩ := HROW.out
                cases e
                have := HLM.out
                omega
              clear hPM hat hwf hps
              go_wp2_with fail
              refine (watch_hear_any (kw := 1) PM (fun y m' hs => HPA.out.below (memBaseD (W := W) hs (by simp))) HPW.out (MsgP.blkB_small HPS.out) mb (mo + i * 19) (cap0 - i) (fun y m' hs => HMC.out y (memBaseD (W := W) hs (by simp))) (by have := HSO.out.len; have := H12.out; omega) HR.out rfl).mono ?_
              rintro z w1 ⟨rfl, h⟩
              rw [three1] at h
              have H8 := Lib.hid h
              clear h
              go_wp2_with fail
              refine (watch_hear_any (kw := 2) PM (fun y m' hs => HPA.out.below (memBaseD (W := W) hs (by simp))) HPW.out (MsgP.blkB_small HPS.out) mb (mo + i * 19) (cap0 - i) (fun y m' hs => HMC.out y (memBaseD (W := W) hs (by simp))) (by have := HSO.out.len; have := H12.out; omega) H8.out rfl).mono ?_
              rintro z w2 ⟨rfl, h⟩
              rw [three2] at h
              have H9 := Lib.hid h
              clear h
              go_wp2_with fail
              go_meet
              case rel => exact ⟨_, HSO.out.hear HCL.out, H9.out⟩
            · have hl0 : ¬ ((i : Int) < (len0 : Int)) := by omega
              go_wp2_with fail
              go_meet
              case rel => exact ⟨S, HSO.out.mono (by omega), HR.out⟩
          case rest =>
            obtain ⟨S2, HS2, hR2⟩ := hcut
            have H10 := Lib.hid hR2
            clear hR2 HR
            have q0 := HCI.out _ (memBaseD (W := W) H10.out (by simp))
            have hm1 := i64_and1
            have hm3 := i64_and3
            have hv : IntKind.i64.wrap (x / 4 % 2 + 1) = x / 4 % 2 + 1 := by rw [IntKind.wrap_i64]; omega
            go_upto_region 16 with fail
            refine wp_region_seq (fun y : World => y.cell? ⟨ib, io + i, none⟩ = some (.int .i64 x)) anyW [] [(0, 0, some 85), (2, 0, some 87), (3, 0, some 88), (4, 0, some 89), (5, 1, some 90), (6, 0, some 91), (7, 0, some 92), (8, 0, some 93), (9, 0, some 94), (10, 1, some 95), (11, 0, some 96), (12, 0, some 97), (13, 0, some 98), (1, 2, some 86), (14, 2, some 99)] (by kernel_rfl) (by kernel_rfl) (fun _ _ _ d _ h => by cases d <;> exact h) q0 anyW.i ?_
            repeat (first | (refine seqW (v := ?_) rfl rfl (by kernel_rfl) ?_ ?_; rotate_left; (focus ((intro x; go_simp); try (with_reducible rfl))); try simp only [Act.put, List.setIfInBounds_toArray, List.set_cons_zero, List.set_cons_succ]) | (refine seqS (v := ?_) rfl rfl (by kernel_rfl) ?_ ?_; rotate_left; (focus (intro x hS; first | (have q0 := hS; go_simp; try (with_reducible rfl)))); try simp only [Act.put, List.setIfInBounds_toArray, List.set_cons_zero, List.set_cons_succ]) | (refine seqX rfl rfl (by kernel_rfl) ?_; try simp only [Act.put, List.setIfInBounds_toArray, List.set_cons_zero, List.set_cons_succ]))
            refine seqL rfl rfl (fun K hK => ?_)
            go_simp
            go_at_call 24
            refine (world_vault H10.out.drew rfl).mono ?_
            rintro z y1 ⟨rfl, rfl⟩
            go_wp2_with fail
            refine hK.out _ _ anyW.i ?_ (fun _ hSt => ?_)
            · exact q0
            clear hSt hK K
            try simp only [Act.put, List.setIfInBounds_toArray, List.set_cons_zero, List.set_cons_succ]
            refine seqL rfl rfl (fun K hK => ?_)
            go_simp
            go_at_call 25
            refine (world_share (x % 4) (x / 4 % 2 + 1) (wf_mk (by omega) (by omega)) H10.out.drew rfl).mono ?_
            rintro z w2 ⟨rfl, h⟩
            rw [three0] at h
            obtain ⟨X3, hX3⟩ : ∃ Y, Y = { X with C := shareC X.C (x % 4) (x / 4 % 2 + 1) } := ⟨_, rfl⟩
            have hXC3 : TwoC X3.C := by rw [hX3]; exact HXC.out.share _ _
            rw [← hX3] at h
            have H11 := Lib.hid h
            have HXC3 := Lib.hid hXC3
            clear h hX3 hXC3
            go_wp2_with fail
            refine hK.out _ _ anyW.i ?_ (fun _ hSt => ?_)
            · exact HCI.out _ (memBaseD (W := W) H11.out (by simp))
            clear hSt hK K
            try simp only [Act.put, List.setIfInBounds_toArray, List.set_cons_zero, List.set_cons_succ]
            refine seqE ?_
            clear hm1 hm3 hv q0
            go_wp2_with fail
            refine (watch_open (kw := 1) (by decide) (fun y hy => Nat.le_trans (HXC3.out.pl y hy) (by decide)) (by have := HXC3.out.len; have := HS2.out.len; have := H12.out; omega) H11.out rfl rfl).mono ?_
            rintro z w3 ⟨rfl, h⟩
            obtain ⟨S3, hS3⟩ : ∃ s, s = (openN X3.need X3.C (S2, OL) X3.C.length).1 := ⟨_, rfl⟩
            obtain ⟨OL3, hOL3⟩ : ∃ s, s = (openN X3.need X3.C (S2, OL) X3.C.length).2 := ⟨_, rfl⟩
            rw [three1, ← hS3, ← hOL3] at h
            have hso3 : SeenOk S3 (3 * (i + 1)) := by
              rw [hS3]
              exact (HS2.out.open X3.need HXC3.out.pl OL).mono (by have := HXC3.out.len; omega)
            have H12_ := Lib.hid h
            have HS3 := Lib.hid hS3
            have HOL3 := Lib.hid hOL3
            have HSO3 := Lib.hid hso3
            clear h hS3 hOL3 hso3
            go_wp2_with fail
            refine (watch_open (kw := 2) (by decide) (fun y hy => Nat.le_trans (HXC3.out.pl y hy) (by decide)) (by have := HXC3.out.len; have := HS2.out.len; have := H12.out; omega) H12_.out rfl rfl).mono ?_
            rintro z w4 ⟨rfl, h⟩
            rw [three2, ← HS3.out, ← HOL3.out] at h
            have H13 := Lib.hid h
            clear h
            go_wp2_with fail
            refine (watch_seen (kw := 1) (by have := HSO3.out.len; have := H12.out; omega) HSO3.out.each H13.out rfl).mono ?_
            rintro z w5 ⟨ax, cx, RX, rfl, hRX, h⟩
            obtain ⟨n, hn⟩ : ∃ n, n = S3.length := ⟨_, rfl⟩
            rw [← hn] at h ⊢
            have H14 := Lib.hid h
            have HRX := Lib.hid hRX
            have HN := Lib.hid hn
            clear h hRX hn
            go_wp2_with fail
            refine (watch_seen (kw := 2) (by have := HSO3.out.len; have := H12.out; omega) HSO3.out.each H14.out rfl).mono ?_
            rintro z w6 ⟨ay, cy, RY, rfl, hRY, h⟩
            rw [← HN.out] at h ⊢
            have H15 : Hid (Sys w6 (three (worldT p d X3) (watchT pa p B1 S3 (oneM OL3)) (watchT pb p B2 S3 (oneM OL3))) (own 60 3 (.slice ax n cx) n (flatS RX) :: own 60 3 (.slice ay n cy) n (flatS RY) :: rowsT (RX.drop 0) :: rowsT (RY.drop 0) :: [base W])) := (h.front 1 rfl).front 3 rfl |>.front 3 rfl |>.front 3 rfl |>.front 1 rfl
            have HRY := Lib.hid hRY
            clear h hRY
            go_wp2_with fail
            have hn36 : n ≤ 36 := by have := HSO3.out.len; have := H12.out; have := HN.out; omega
            have HN36 := Lib.hid hn36
            clear hn36
            go_loopw [115] (fun kv wk => ∃ k : Nat, k ≤ n ∧ kv = .int .i64 (k : Int) ∧ Sys wk (three (worldT p d X3) (watchT pa p B1 S3 (oneM OL3)) (watchT pb p B2 S3 (oneM OL3))) (own 60 3 (.slice ax n cx) n (flatS RX) :: own 60 3 (.slice ay n cy) n (flatS RY) :: rowsT (RX.drop k) :: rowsT (RY.drop k) :: [base W])) (fun kv _ => n - (intOf kv).toNat)
            case atStart => exact ⟨0, by omega, rfl, H15.out⟩
            case round =>
              obtain ⟨k, hk, rfl, hRk⟩ := hrel
              by_cases hkn : k < n
              · have hkl : (k : Int) < (n : Int) := by omega
                have hkw : IntKind.i64.wrap ((k : Int) + 1) = (k : Int) + 1 := by rw [IntKind.wrap_i64]; have := HN36.out; omega
                have hkX : k < RX.length := by have := congrArg List.length HRX.out; rw [List.length_map] at this; have := HN.out; omega
                have hkY : k < RY.length := by have := congrArg List.length HRY.out; rw [List.length_map] at this; have := HN.out; omega
                have hxy : (RX[k]).x = (RY[k]).x := by
                  have h1 : (RX.map SeenX.x)[k]? = (RY.map SeenX.x)[k]? := by rw [HRX.out, HRY.out]
                  rw [List.getElem?_map, List.getElem?_map, List.getElem?_eq_getElem hkX, List.getElem?_eq_getElem hkY] at h1
                  exact Option.some.inj h1
                obtain ⟨gx, rfl, hcx⟩ := hRk.getOwn.seenCellsAt hkX
                obtain ⟨gy, rfl, hcy⟩ := (hRk.front 1 rfl).getOwn.seenCellsAt hkY
                rw [List.drop_eq_getElem_cons hkX, List.drop_eq_getElem_cons hkY] at hRk
                have h2 := ((hRk.front 2 rfl).seenHead.front 5 rfl).seenHead
                obtain ⟨s, hs⟩ : ∃ s, s = RX[k] := ⟨_, rfl⟩
                obtain ⟨t, ht⟩ : ∃ s, s = RY[k] := ⟨_, rfl⟩
                rw [← hs, ← ht] at h2 hxy
                rw [← hs] at hcx
                rw [← ht] at hcy
                clear ht hRk
                obtain ⟨mv0, m0, c0, tv0, t0⟩ := s
                obtain ⟨mv1, m1, c1, tv1, t1⟩ := t
                obtain ⟨rfl, rfl, rfl⟩ : m0 = m1 ∧ c0 = c1 ∧ t0 = t1 := by simpa [SeenX.x] using hxy
                dsimp only at h2
                obtain ⟨xa, xc, rfl, hb1, -⟩ := (h2.front 3 rfl).getOwn.bytesOf
                obtain ⟨xta, xtc, rfl, hb2, -⟩ := (h2.front 4 rfl).getOwn.bytesOf
                obtain ⟨ya, yc, rfl, hb3, -⟩ := h2.getOwn.bytesOf
                obtain ⟨yta, ytc, rfl, hb4, -⟩ := (h2.front 1 rfl).getOwn.bytesOf
                have z0 := hcx 0 _ rfl
                have z1 := hcx 1 _ rfl
                have z2 := hcx 2 _ rfl
                have y0 := hcy 0 _ rfl
                have y1 := hcy 1 _ rfl
                have y2 := hcy 2 _ rfl
                obtain ⟨nm, hnm⟩ : ∃ n, n = m0.length := ⟨_, rfl⟩
                obtain ⟨nt, hnt⟩ : ∃ n, n = t0.length := ⟨_, rfl⟩
                obtain ⟨st1, hst1⟩ : ∃ s : ByteArray, s = ⟨m0.toArray⟩ := ⟨_, rfl⟩
                obtain ⟨st2, hst2⟩ : ∃ s : ByteArray, s = ⟨t0.toArray⟩ := ⟨_, rfl⟩
                have HCV1 : Hid (∀ (x : World) (a : Option Addr) (c : Nat), BytesAt x a m0 → (convert 53 9 (.slice a nm c)).run Try.prog x = .ok (.string st1) x) := fun x a c hx => by rw [hnm, hst1]; exact bytes_string hx c
                have HCV2 : Hid (∀ (x : World) (a : Option Addr) (c : Nat), BytesAt x a t0 → (convert 53 9 (.slice a nt c)).run Try.prog x = .ok (.string st2) x) := fun x a c hx => by rw [hnt, hst2]; exact bytes_string hx c
                have he1 : (st1.toList == st1.toList) = true := by simp
                have he2 : (st2.toList == st2.toList) = true := by simp
                have he3 : (st1.toList != st1.toList) = false := by simp
                have he4 : (st2.toList != st2.toList) = false := by simp
                rw [← hnm] at z0 y0
                rw [← hnt] at z2 y2
                replace z0 : wr.cell? ⟨gx, k * 3, none⟩ = some (.slice xa nm xc) := z0
                replace y0 : wr.cell? ⟨gy, k * 3, none⟩ = some (.slice ya nm yc) := y0
                replace z1 : wr.cell? ⟨gx, k * 3 + 1, none⟩ = some (.int .i64 c0) := z1
                replace y1 : wr.cell? ⟨gy, k * 3 + 1, none⟩ = some (.int .i64 c0) := y1
                replace z2 : wr.cell? ⟨gx, k * 3 + 2, none⟩ = some (.slice xta nt xtc) := z2
                replace y2 : wr.cell? ⟨gy, k * 3 + 2, none⟩ = some (.slice yta nt ytc) := y2
                have HZ0 : Hid (∀ y : World, Own 60 3 y (.slice (some ⟨gx, 0, none⟩) n cx) n (flatS RX) → y.cell? ⟨gx, k * 3, none⟩ = some (.slice xa nm xc)) := fun y ho => by
                  obtain ⟨g, e, hc⟩ := ho.seenCellsAt hkX
                  cases e
                  rw [← hs] at hc
                  have := hc 0 _ rfl
                  rw [hnm]; exact this
                have HZ2 : Hid (∀ y : World, Own 60 3 y (.slice (some ⟨gx, 0, none⟩) n cx) n (flatS RX) → y.cell? ⟨gx, k * 3 + 2, none⟩ = some (.slice xta nt xtc)) := fun y ho => by
                  obtain ⟨g, e, hc⟩ := ho.seenCellsAt hkX
                  cases e
                  rw [← hs] at hc
                  have := hc 2 _ rfl
                  rw [hnt]; exact this
                rw [← hnm, ← hnt] at h2
                have H16 := Lib.hid h2
                have HKN := Lib.hid hkn
                have HNM := Lib.hid hnm
                have HNT := Lib.hid hnt
                have HSP : Hid ((fun x : World => BytesAt x xa m0 ∧ BytesAt x xta t0 ∧ BytesAt x ya m0 ∧ BytesAt x yta t0 ∧ x.cell? ⟨gx, k * 3, none⟩ = some (.slice xa nm xc) ∧ x.cell? ⟨gx, k * 3 + 1, none⟩ = some (.int .i64 c0) ∧ x.cell? ⟨gx, k * 3 + 2, none⟩ = some (.slice xta nt xtc) ∧ x.cell? ⟨gy, k * 3, none⟩ = some (.slice ya nm yc) ∧ x.cell? ⟨gy, k * 3 + 1, none⟩ = some (.int .i64 c0) ∧ x.cell? ⟨gy, k * 3 + 2, none⟩ = some (.slice yta nt ytc)) wr) := ⟨hb1, hb2, hb3, hb4, z0, z1, z2, y0, y1, y2⟩
                clear hs h2 hxy hcx hcy hb1 hb2 hb3 hb4 hnm hnt hst1 hst2 z0 z1 z2 y0 y1 y2 hk hkn hkX hkY
                go_upto_region 25 with fail
                refine wp_region_seq (fun x : World => BytesAt x xa m0 ∧ BytesAt x xta t0 ∧ BytesAt x ya m0 ∧ BytesAt x yta t0 ∧ x.cell? ⟨gx, k * 3, none⟩ = some (.slice xa nm xc) ∧ x.cell? ⟨gx, k * 3 + 1, none⟩ = some (.int .i64 c0) ∧ x.cell? ⟨gx, k * 3 + 2, none⟩ = some (.slice xta nt xtc) ∧ x.cell? ⟨gy, k * 3, none⟩ = some (.slice ya nm yc) ∧ x.cell? ⟨gy, k * 3 + 1, none⟩ = some (.int .i64 c0) ∧ x.cell? ⟨gy, k * 3 + 2, none⟩ = some (.slice yta nt ytc)) anyW [] [(0, 0, some 118), (1, 0, some 119), (2, 0, some 120), (3, 0, some 121), (4, 1, some 122), (5, 1, some 123), (6, 0, some 124), (7, 0, some 125), (8, 0, some 126), (9, 0, some 127), (10, 1, some 128), (11, 1, some 129), (12, 0, some 130), (13, 0, some 131), (14, 0, some 132), (15, 0, some 133), (16, 0, some 134), (17, 0, some 135), (18, 1, some 136), (19, 0, some 137), (20, 0, some 138), (21, 0, some 139), (22, 0, some 140), (23, 1, some 141), (24, 0, some 142), (25, 0, some 143), (26, 0, some 144), (27, 0, some 145), (28, 0, some 146), (29, 0, some 147), (30, 0, some 148), (31, 1, some 149), (32, 1, some 150), (33, 0, some 151), (34, 0, some 152), (35, 0, some 153), (36, 0, some 154), (37, 1, some 155), (38, 1, some 156), (39, 0, some 157), (40, 0, some 158)] (by kernel_rfl) (by kernel_rfl) (fun _ _ _ d _ h => by cases d <;> exact h) HSP.out anyW.i ?_
                repeat (first | (refine seqW (v := ?_) rfl rfl (by kernel_rfl) ?_ ?_; rotate_left; (focus ((intro x; go_simp); try (with_reducible rfl))); try simp only [Act.put, List.setIfInBounds_toArray, List.set_cons_zero, List.set_cons_succ]) | (refine seqS (v := ?_) rfl rfl (by kernel_rfl) ?_ ?_; rotate_left; (focus (intro x hS; first | (obtain ⟨hb1, hb2, hb3, hb4, z0, z1, z2, y0, y1, y2⟩ := hS; have s1 := HCV1.out x xa xc hb1; have s2 := HCV2.out x xta xtc hb2; have s3 := HCV1.out x ya yc hb3; have s4 := HCV2.out x yta ytc hb4; go_simp; try (with_reducible rfl)))); try simp only [Act.put, List.setIfInBounds_toArray, List.set_cons_zero, List.set_cons_succ]) | (refine seqX rfl rfl (by kernel_rfl) ?_; try simp only [Act.put, List.setIfInBounds_toArray, List.set_cons_zero, List.set_cons_succ]))
                refine seqE ?_
                clear he1 he2 he3 he4
                replace H16 := Lib.hid H16.out.drew
                generalize wr.drew = wd at H16 ⊢
                have z0 := HZ0.out _ (H16.out.front 6 rfl).getOwn
                have z2 := HZ2.out _ (H16.out.front 6 rfl).getOwn
                go_upto_if 165 with fail
                go_cut [] from 116 to 190 (fun wx => Sys wx (three (worldT p d X3) (watchT pa p B1 S3 (oneM OL3)) (watchT pb p B2 S3 (oneM OL3))) (rowB (.slice xa nm xc) m0 :: own 60 3 (.slice (some ⟨gx, 0, none⟩) n cx) n (flatS RX) :: own 60 3 (.slice (some ⟨gy, 0, none⟩) n cy) n (flatS RY) :: rowsT (RX.drop (k + 1)) :: rowsT (RY.drop (k + 1)) :: [base W]))
                case first =>
                  by_cases h0 : 0 < nt
                  · have hc : (nt : Int) > 0 := by omega
                    have hc2 : (0 : Int) < (nt : Int) := by omega
                    obtain ⟨g, cp, bv, he, q, fq⟩ := Own.byte0 ((H16.out.front 4 rfl).getOwn) (by rw [← HNT.out]; exact h0)
                    have HFIN := Lib.hid (fun (g : Nat) (e : xta = some ⟨g, 0, none⟩) (u : Value) => Sys.dropSet (g := g) (cp := xtc) (by have h := H16.out.front 4 rfl; rw [e] at h; exact h) 0 u)
                    obtain ⟨hxa, -, -⟩ : xta = some ⟨g, 0, none⟩ ∧ nt = t0.length ∧ xtc = cp := by simpa using he
                    subst hxa
                    clear he
                    go_wp2_with fail
                    go_meet
                    case rel => exact (((((((((HFIN.out g rfl _).dropAt 0 rfl).dropAt 0 rfl).front 5 rfl).front 1 rfl).front 3 rfl).front 5 rfl).front 5 rfl).front 5 rfl)
                  · have hc : ¬ ((nt : Int) > 0) := by omega
                    have hc2 : ¬ ((0 : Int) < (nt : Int)) := by omega
                    go_wp2_with fail
                    go_meet
                    case rel => exact (((((((((H16.out.dropAt 0 rfl).dropAt 0 rfl).dropAt 2 rfl).front 5 rfl).front 1 rfl).front 3 rfl).front 5 rfl).front 5 rfl).front 5 rfl)
                case rest =>
                  have H17 := Lib.hid hcut
                  clear hcut
                  replace z0 := HZ0.out _ (H17.out.front 1 rfl).getOwn
                  clear z2
                  by_cases h0 : 0 < nm
                  · have hc : (nm : Int) > 0 := by omega
                    have hc2 : (0 : Int) < (nm : Int) := by omega
                    obtain ⟨g, cp, bv, he, q, fq⟩ := Own.byte0 (H17.out.getOwn) (by rw [← HNM.out]; exact h0)
                    have HFIN := Lib.hid (fun (g : Nat) (e : xa = some ⟨g, 0, none⟩) (u : Value) => Sys.dropSet (g := g) (cp := xc) (by have h := H17.out; rw [e] at h; exact h) 0 u)
                    obtain ⟨hxa, -, -⟩ : xa = some ⟨g, 0, none⟩ ∧ nm = m0.length ∧ xc = cp := by simpa using he
                    subst hxa
                    clear he
                    go_wp2_with fail
                    go_roundw
                    case rel => exact ⟨k + 1, by have := HKN.out; omega, by go_num, HFIN.out g rfl _⟩
                    case measure => simp [intOf]; have := HKN.out; omega
                  · have hc : ¬ ((nm : Int) > 0) := by omega
                    have hc2 : ¬ ((0 : Int) < (nm : Int)) := by omega
                    go_wp2_with fail
                    go_roundw
                    case rel => exact ⟨k + 1, by have := HKN.out; omega, by go_num, H17.out.tail⟩
                    case measure => simp [intOf]; have := HKN.out; omega
              · obtain rfl : n = k := by omega
                have HRk := Lib.hid hRk
                clear hRk hk hkn
                go_wp2_with fail
                go_roundw
                case rel => exact ⟨i + 1, X3, S3, OL3, by have := HLT.out; omega, by have := H12.out; omega, by go_num, HXC3, HSO3, HRk.out.tail.tail.tail.tail⟩
                case measure => simp [intOf]; have := H12.out; omega
        · have HR := Lib.hid hR
          clear hR
          go_upto_region 11 with fail
          go_cut [64] from 57 to 63 (fun tv wx => tv = .bool false ∧ wx = wr)
          case first =>
            by_cases hlt : i < len1
            · have hil : (i : Int) < (len1 : Int) := by omega
              have hi3 : ¬ ((i : Int) < 12) := by omega
              go_wp2_with fail
              go_meet
              case rel => exact ⟨rfl, rfl⟩
            · have hil : ¬ ((i : Int) < (len1 : Int)) := by omega
              go_wp2_with fail
              go_meet
              case rel => exact ⟨rfl, rfl⟩
          case rest =>
            obtain ⟨rfl, rfl⟩ := hcut
            clear hgo hi hi12
            obtain ⟨hb0, hb4, hB2, hB1⟩ := HB.out
            have hl1 : B1.length ≤ 1000000 := by rcases hB1 with h | h <;> rw [h] <;> simp
            have hl2 : B2.length ≤ 1000000 := by rw [hB2]; simp
            have hsub : ∀ j : Int, j ≠ b → decide (j ∈ B1) = false ∧ decide (j ∈ B2) = false := fun j hj => by
              rw [hB2]
              refine ⟨decide_eq_false ?_, decide_eq_false (by simpa using hj)⟩
              rcases hB1 with h | h <;> rw [h]
              · simp
              · simpa using hj
            have hyes : decide (b ∈ B2) = true := decide_eq_true (by rw [hB2]; simp)
            have HL1 := Lib.hid hl1
            have HL2 := Lib.hid hl2
            have HSUB := Lib.hid hsub
            have HYES := Lib.hid hyes
            have HBB : Hid (0 ≤ b ∧ b < 4) := ⟨hb0, hb4⟩
            clear hb0 hb4 hB2 hB1 hl1 hl2 hsub hyes
            go_wp2_with fail
            go_loopw [15, 16] (fun nv jv wx => ∃ (j : Nat) (cn : Int), j ≤ 4 ∧ jv = .int .i64 (j : Int) ∧ nv = .int .i64 cn ∧ Hid (cn = if b < (j : Int) then 1 else 0) ∧ Sys wx (three (worldT p d X) (watchT pa p B1 S (oneM OL)) (watchT pb p B2 S (oneM OL))) [base W]) (fun _ jv _ => 4 - (intOf jv).toNat)
            case atStart => exact ⟨0, 0, by omega, rfl, rfl, (by show (0 : Int) = _; rw [if_neg (by have := HBB.out.1; omega)]), HR.out⟩
            case round =>
              obtain ⟨j, cn, hj, rfl, rfl, HCN, hRj⟩ := hrel
              have HRJ := Lib.hid hRj
              clear hRj
              by_cases hlt : j < 4
              · have hjl : (j : Int) < 4 := by omega
                have hjw : IntKind.i64.wrap ((j : Int) + 1) = (j : Int) + 1 := by rw [IntKind.wrap_i64]; omega
                have hcw : IntKind.i64.wrap (cn + 1) = cn + 1 := by rw [HCN.out, IntKind.wrap_i64]; split <;> omega
                have HLT := Lib.hid hlt
                clear hlt hj
                by_cases hjb : (j : Int) = b
                · have d2 : decide ((j : Int) ∈ B2) = true := by rw [hjb]; exact HYES.out
                  obtain ⟨t1, ht1⟩ : ∃ t, decide ((j : Int) ∈ B1) = t := ⟨_, rfl⟩
                  have HD2 := Lib.hid d2
                  have HT1 := Lib.hid ht1
                  have HJB := Lib.hid hjb
                  clear d2 ht1 hjb
                  go_wp2_with fail
                  refine (watch_bad (kw := 1) (j : Int) HL1.out HRJ.out rfl).mono ?_
                  rintro z y1 ⟨rfl, rfl⟩
                  rw [HT1.out]
                  cases t1
                  · go_wp2_with fail
                    refine (watch_bad (kw := 2) (j : Int) HL2.out HRJ.out rfl).mono ?_
                    rintro z y1 ⟨rfl, rfl⟩
                    rw [HD2.out]
                    go_wp2_with fail
                    go_roundw
                    case rel => exact ⟨j + 1, cn + 1, by have := HLT.out; omega, by go_num, rfl, (by have h1 := HCN.out; have h2 := HJB.out; show cn + 1 = _; rw [h1, if_neg (by omega), if_pos (by omega)]; rfl), HRJ.out⟩
                    case measure => simp [intOf]; have := HLT.out; omega
                  · go_wp2_with fail
                    refine (watch_bad (kw := 2) (j : Int) HL2.out HRJ.out rfl).mono ?_
                    rintro z y1 ⟨rfl, rfl⟩
                    rw [HD2.out]
                    go_wp2_with fail
                    refine (watch_bad (kw := 2) (j : Int) HL2.out HRJ.out rfl).mono ?_
                    rintro z y1 ⟨rfl, rfl⟩
                    rw [HD2.out]
                    go_wp2_with fail
                    go_roundw
                    case rel => exact ⟨j + 1, cn + 1, by have := HLT.out; omega, by go_num, rfl, (by have h1 := HCN.out; have h2 := HJB.out; show cn + 1 = _; rw [h1, if_neg (by omega), if_pos (by omega)]; rfl), HRJ.out⟩
                    case measure => simp [intOf]; have := HLT.out; omega
                · have HDS := Lib.hid (HSUB.out (j : Int) hjb)
                  have HJB := Lib.hid hjb
                  clear hjb
                  go_wp2_with fail
                  refine (watch_bad (kw := 1) (j : Int) HL1.out HRJ.out rfl).mono ?_
                  rintro z y1 ⟨rfl, rfl⟩
                  rw [HDS.out.1]
                  go_wp2_with fail
                  refine (watch_bad (kw := 2) (j : Int) HL2.out HRJ.out rfl).mono ?_
                  rintro z y1 ⟨rfl, rfl⟩
                  rw [HDS.out.2]
                  go_wp2_with fail
                  go_roundw
                  case rel => exact ⟨j + 1, cn, by have := HLT.out; omega, by go_num, rfl, (by have h1 := HCN.out; have h2 := HJB.out; show cn = _; rw [h1]; by_cases hbj : b < (j : Int); (rw [if_pos hbj, if_pos (by omega)]); (rw [if_neg hbj, if_neg (by omega)])), HRJ.out⟩
                  case measure => simp [intOf]; have := HLT.out; omega
              · obtain rfl : j = 4 := by omega
                obtain rfl : cn = 1 := by rw [HCN.out, if_pos (by have := HBB.out.2; omega)]
                clear hlt hj
                go_wp2_with fail
                refine (adve_awake wr).mono ?_
                rintro e y2 ⟨rfl, hB⟩
                have HBE := Lib.hid ((memBaseD (W := W) HRJ.out (by simp)).trans (hB.mono (memBaseD (W := W) HRJ.out (by simp)).size))
                clear hB
                go_wp2_with fail
                go_ret
                exact ⟨rfl, HBE.out⟩
  · have hbig : (len2 : Int) > 30 := by omega
    go_upto_region 3 with fail
    clear hbig
    go_wp2_with fail
    refine (adve_awake x1).mono ?_
    rintro e x2 ⟨rfl, hB⟩
    have HB := Lib.hid ((memBaseD (W := W) H1.out (by simp)).trans (hB.mono (memBaseD (W := W) H1.out (by simp)).size))
    clear hB
    go_wp2_with fail
    go_ret
    exact ⟨rfl, HB.out⟩
end Go.Proofs.Ytcfhkpjheemkgaa.adveTwo
