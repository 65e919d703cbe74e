/-
  What is sent is on its way, in order, is told, copied and taken by its place: tolseylaw26.NetwPlays.
-/
import Derived.Test.YtcfhkpjheemkgaaNetAll
import Derived.Test.YtcfhkpjheemkgaaSeqT
import Derived.Deep.DeepCutAuto
import Derived.Deep.CutBlock
namespace Go.Proofs.Ytcfhkpjheemkgaa.netwPlays
set_option linter.unusedSectionVars false
set_option linter.unnecessarySimpa false
set_option linter.unusedSimpArgs false
set_option linter.unusedVariables false
open Go.RowKit Go.MapKept

/-- What is wanted: messages as they came in. -/
structure WOk (W : World) (A : List (MsgX × List Value)) (n : Nat) : Prop where
  len : A.length ≤ n
  v : ∀ e ∈ A, MsgV (· < W.heap.size) W e.2 e.1
theorem WOk.h19 {W : World} {A : List (MsgX × List Value)} {n : Nat} (h : WOk W A n) : ∀ e ∈ A, e.2.length = 19 := fun e he => (h.v e he).length
theorem WOk.one {W : World} {A : List (MsgX × List Value)} {n : Nat} (h : WOk W A n) : ∀ e ∈ A, e.2.length = 19 ∧ ∀ u ∈ e.2, u.oneCell' = true := fun e he => ⟨(h.v e he).length, (h.v e he).one⟩
theorem WOk.mono {W : World} {A : List (MsgX × List Value)} {n k : Nat} (h : WOk W A n) (hk : n ≤ k) : WOk W A k := ⟨Nat.le_trans h.len hk, h.v⟩
theorem WOk.append {W : World} {A B : List (MsgX × List Value)} {n k : Nat} (h : WOk W A n) (g : WOk W B k) : WOk W (A ++ B) (n + k) :=
  ⟨by have := h.len; have := g.len; rw [List.length_append]; omega, fun e he => (List.mem_append.1 he).elim (h.v e) (g.v e)⟩
theorem WOk.sub {W : World} {A B : List (MsgX × List Value)} {n : Nat} (h : WOk W A n) (hb : B.length ≤ n) (hs : ∀ e ∈ B, e ∈ A) : WOk W B n := ⟨hb, fun e he => h.v e (hs e he)⟩
set_option maxRecDepth 100000 in
set_option maxHeartbeats 16000000 in
theorem walk (W : World) (a0 : Option Addr) (len0 cap0 : Nat) (LM : List MsgP) (hLM : LM.length = len0) (hrow : RawSl W (.slice a0 len0 cap0) LM.length (LM.flatMap MsgP.cells)) (hraw : ∀ P ∈ LM, P.Raw W) (hsum : (LM.map MsgP.size).sum ≤ 1048576)
    (a1 : Option Addr) (len1 cap1 : Nat) (z1 : List Int) (w1 : IsRow .i64 W a1 len1 cap1 z1) :
    Calls Try.prog 3 #[.slice a0 len0 cap0, .slice a1 len1 cap1] W fun e w' => e = .returned (.bool true) ∧ Below W.heap.size W w' := by
  obtain ⟨hi1, hlen1⟩ := IntsAt.of_row w1
  obtain ⟨is, his⟩ : ∃ ls, ls = z1.take len1 := ⟨_, rfl⟩
  rw [← his] at hi1 hlen1
  have HI1 := Lib.hid hi1
  have HLEN1 := Lib.hid hlen1
  have hsz1 := sizes_each hsum
  have HAT : Hid (∀ P ∈ LM, P.Raw W ∧ P.size ≤ 2000000) := fun P hP => ⟨hraw P hP, by have := hsz1 P hP; omega⟩
  have HROW := Lib.hid hrow
  have HLM := Lib.hid hLM
  clear hi1 hlen1 his w1 hsz1 hrow hraw hsum hLM
  go_enter Try.func3, Try.ntmps3
  go_wp2_with fail
  refine (netD_new (Sys.start W)).mono ?_
  rintro e x1 ⟨p, rfl, h1⟩
  have h2 := h1.push (F := fun _ => False) (t := own 36 19 (.slice none 0 0) 0 (flatM [])) (Chg.refl _ _) ⟨Own.nil _ _ _, by funext k; simp [Value.ownBlock]⟩ (fun _ h => h.elim)
  have H2 : Hid (Sys x1 (fun _ => emp) (netT p (([] : List (MsgX × List Value)).map (·.1)) :: base W :: [own 36 19 (.slice none 0 0) 0 (flatM [])])) := (h2.front 2 rfl).front 2 rfl
  clear h1 h2
  go_wp2_with fail
  go_loopw [6, 7] (fun wv iv wr => ∃ (i : Nat) (A : List (MsgX × List Value)) (wa : Option Addr) (wn wcp : Nat), i ≤ len1 ∧ i ≤ 50 ∧ iv = .int .i64 (i : Int) ∧ wv = .slice wa wn wcp ∧ Hid (A.length = wn) ∧ Hid (WOk W A (3 * i)) ∧ Sys wr (fun _ => emp) (netT p (A.map (·.1)) :: base W :: [own 36 19 (.slice wa wn wcp) wn (flatM A)])) (fun _ iv _ => 50 - (intOf iv).toNat)
  case atStart => exact ⟨0, [], none, 0, 0, by omega, by omega, rfl, rfl, rfl, ⟨Nat.le_refl _, fun _ h => by cases h⟩, H2.out⟩
  case round =>
    obtain ⟨i, A, wa, wn, wcp, hi, hi50, rfl, rfl, HWN, HWO, hR⟩ := hrel
    have HR := Lib.hid hR
    clear hR H2
    by_cases hgo : i < len1 ∧ i < 50
    · obtain ⟨hlt, h50⟩ := hgo
      have hil : (i : Int) < (len1 : Int) := by omega
      have hi3 : (i : Int) < 50 := by omega
      have hiw : IntKind.i64.wrap ((i : Int) + 1) = (i : Int) + 1 := by rw [IntKind.wrap_i64]; omega
      have HLT := Lib.hid hlt
      have H50 := Lib.hid h50
      clear hlt h50 hi hi50
      obtain ⟨x, hx⟩ : ∃ x, x = is.getD i 0 := ⟨_, rfl⟩
      obtain ⟨ib, io, rfl⟩ : ∃ b off, a1 = some ⟨b, off, none⟩ := IntsAt.some_ HI1.out (by rw [HLEN1.out]; exact HLT.out)
      have HCI : Hid (∀ y, Below W.heap.size W y → y.cell? ⟨ib, io + i, none⟩ = some (.int .i64 x)) := fun y hB => by
        rcases HI1.out.below hB with h0 | ⟨b, off, e, hc⟩
        · have h1 := HLEN1.out; have h2 := HLT.out; rw [h0] at h1; simp at h1; omega
        · cases e; rw [hx]; exact hc i (by rw [HLEN1.out]; exact HLT.out)
      clear hx
      have q0 := HCI.out _ (memBaseD (W := W) HR.out (by simp))
      have hm31 := i64_and31
      have hm7 := i64_and7
      have hv : IntKind.i64.wrap (x / 8 % 32 - 2) = x / 8 % 32 - 2 := by rw [IntKind.wrap_i64]; omega
      obtain ⟨at_, hat⟩ : ∃ v, v = x / 8 % 32 - 2 := ⟨_, rfl⟩
      go_upto_region 9 with fail
      try rw [hv]
      rw [← hat]
      have HAT_ := Lib.hid hat
      clear hv hm31 hat
      have HWC : Hid (wn ≤ wcp) := by
        obtain ⟨a', c', e, hc, -⟩ := (HR.out.front 2 rfl).getOwn.open
        cases e; exact hc
      go_cut [9] from 18 to 166 (fun bv wx => bv = .bool (decide (0 ≤ at_ ∧ at_ < (wn : Int))) ∧ Sys wx (fun _ => emp) (netT p (A.map (·.1)) :: base W :: [own 36 19 (.slice wa wn wcp) wn (flatM A)]))
      case first =>
        by_cases h0 : 0 ≤ at_
        · have hg : at_ ≥ 0 := h0
          by_cases h1 : at_ < (wn : Int)
          · go_wp2_with fail
            go_meet
            case rel => exact ⟨by rw [decide_eq_true ⟨h0, h1⟩], HR.out⟩
          · go_wp2_with fail
            go_meet
            case rel => exact ⟨by rw [decide_eq_false (by omega)], HR.out⟩
        · have hg : ¬ (at_ ≥ 0) := h0
          go_wp2_with fail
          go_meet
          case rel => exact ⟨by rw [decide_eq_false (by omega)], HR.out⟩
      case rest =>
        obtain ⟨rfl, hR9⟩ := hcut
        have HC9 := Lib.hid hR9
        obtain ⟨bi, hbi⟩ : ∃ b, b = decide (0 ≤ at_ ∧ at_ < (wn : Int)) := ⟨_, rfl⟩
        rw [← hbi]
        have HBI := Lib.hid hbi
        clear hbi
        clear hR9 HR q0
        have q0 := HCI.out _ (memBaseD (W := W) HC9.out (by simp))
        go_upto_block 2 with fail
        obtain ⟨ac, hac⟩ : ∃ v, v = x % 8 := ⟨_, rfl⟩
        rw [← hac]
        have HAC := Lib.hid hac
        clear hac q0 hm7
        go_cut [6, 9, 10, 11, 12] from 18 to 166 (fun wv _ _ _ _ wx => ∃ (A2 : List (MsgX × List Value)) (wa2 : Option Addr) (wn2 wc2 : Nat), wv = .slice wa2 wn2 wc2 ∧ Hid (A2.length = wn2) ∧ Hid (WOk W A2 (3 * i + 3)) ∧ Sys wx (fun _ => emp) (netT p (A2.map (·.1)) :: base W :: [own 36 19 (.slice wa2 wn2 wc2) wn2 (flatM A2)]))
        case first =>
          have HC11 := HC9
          have hle6 : (A.map (·.1)).length ≤ 1000000 := by rw [List.length_map]; have := HWO.out.len; have := H50.out; omega
          have HLE6 := Lib.hid hle6
          clear hle6
          go_upto_if 81 with fail
          go_cut [81] from 83 to 83 (fun tv wx => tv = .bool (decide (ac = 0 ∨ ac = 1)) ∧ Sys wx (fun _ => emp) (netT p (A.map (·.1)) :: base W :: [own 36 19 (.slice wa wn wcp) wn (flatM A)]))
          case first =>
            by_cases h0 : ac = 0
            · have e0 : (ac == 0) = true := by simpa using h0
              go_wp2_with fail
              go_meet
              case rel => exact ⟨by rw [decide_eq_true (Or.inl h0), e0], HC11.out⟩
            · have e0 : (ac == 0) = false := by simpa using h0
              by_cases h1 : ac = 1
              · have e1 : (ac == 1) = true := by simpa using h1
                go_wp2_with fail
                go_meet
                case rel => exact ⟨by rw [decide_eq_true (Or.inr h1)], HC11.out⟩
              · have e1 : (ac == 1) = false := by simpa using h1
                go_wp2_with fail
                go_meet
                case rel => exact ⟨by rw [decide_eq_false (fun h => h.elim h0 h1)], HC11.out⟩
          case rest =>
            obtain ⟨rfl, hR11⟩ := hcut
            replace HC11 := Lib.hid hR11
            clear hR11
            by_cases h01 : ac = 0 ∨ ac = 1
            · rw [decide_eq_true h01]
              by_cases hin : 0 ≤ at_ ∧ at_ < (wn : Int)
              · obtain rfl : bi = true := by rw [HBI.out]; exact decide_eq_true hin
                obtain ⟨k, hk⟩ : ∃ k : Nat, at_ = (k : Int) := ⟨at_.toNat, by omega⟩
                rw [hk] at hin ⊢
                have hkn : k < A.length := by rw [HWN.out]; omega
                go_wp2_with fail
                have ht := netD_take_yes k A[k].1 (by rw [List.getElem?_map, List.getElem?_eq_getElem hkn]; rfl) HLE6.out HC11.out
                refine ht.mono ?_
                clear ht
                rintro z w5 ⟨cs, rfl, hmv, h⟩
                have hone : cs.toArray.all (·.oneCell') = true := by rw [List.all_toArray]; exact List.all_eq_true.2 hmv.one
                have hcl : (Try.prog.info? 36).map (·.size) = some cs.toArray.size := size19n.trans (congrArg some (by rw [List.size_toArray, hmv.length]))
                have hcl2 : (Try.prog.info? 36).map (·.size) = some cs.length := size19n.trans (congrArg some hmv.length.symm)
                have hcz : (#[.int .i64 0, .int .i64 0, .int .i64 0, .int .i64 0, .int .i64 0, .int .i64 0, .int .i64 0, .slice none 0 0, .int .i64 0, .slice none 0 0, .slice none 0 0, .int .i64 0, .int .i64 0, .slice none 0 0, .int .i64 0, .int .u64 0, .int .u64 0, .int .i64 0, .slice none 0 0] : Array Value).size = cs.toArray.size := (by rw [List.size_toArray]; exact hmv.length : cs.toArray.size = 19).symm
                obtain ⟨n5, x5, EN5, EX5, ES5, H5⟩ := h.box (.cells #[.int .i64 0, .int .i64 0, .int .i64 0, .int .i64 0, .int .i64 0, .int .i64 0, .int .i64 0, .slice none 0 0, .int .i64 0, .slice none 0 0, .slice none 0 0, .int .i64 0, .int .i64 0, .slice none 0 0, .int .i64 0, .int .u64 0, .int .u64 0, .int .i64 0, .slice none 0 0] 36 (0, 0))
                have hb5 : x5.heap[n5]? = some (.cells #[.int .i64 0, .int .i64 0, .int .i64 0, .int .i64 0, .int .i64 0, .int .i64 0, .int .i64 0, .slice none 0 0, .int .i64 0, .slice none 0 0, .slice none 0 0, .int .i64 0, .int .i64 0, .slice none 0 0, .int .i64 0, .int .u64 0, .int .u64 0, .int .i64 0, .slice none 0 0] 36 (0, 0)) := H5.out.nth 0 rfl
                obtain ⟨x6, hx6⟩ : ∃ x, x = x5.setRow n5 cs.toArray := ⟨_, rfl⟩
                have h6 : Sys x6 (fun _ => emp) (blk n5 (.cells cs.toArray 36 (0, 0)) :: netT p ((A.map (·.1)).eraseIdx k) :: base W :: [own 36 19 (.slice wa wn wcp) wn (flatM A)]) := by
                  rw [hx6]
                  exact H5.out.store ((Chg.refl (· = n5) x5).row cs.toArray) (setRow_heap _ _ _ _ _ _ hb5)
                have hm6 : MsgV (· < w5.heap.size) x6 cs A[k].1 := by
                  have h1 := (hmv.mono (S' := (· < w5.heap.size)) (fun b _ hlt => hlt)).chg0 ((Chg.refl none_ w5).alloc (.cells #[.int .i64 0, .int .i64 0, .int .i64 0, .int .i64 0, .int .i64 0, .int .i64 0, .int .i64 0, .slice none 0 0, .int .i64 0, .slice none 0 0, .slice none 0 0, .int .i64 0, .int .i64 0, .slice none 0 0, .int .i64 0, .int .u64 0, .int .u64 0, .int .i64 0, .slice none 0 0] 36 (0, 0)))
                  rw [EX5.out] at h1
                  rw [hx6]
                  exact h1.chg ((Chg.refl (· = n5) x5).row cs.toArray) (fun b hb e => by have := EN5.out; omega)
                have HX6 := Lib.hid hx6
                have H6 := Lib.hid h6
                have HM6 := Lib.hid hm6
                have HB5 := Lib.hid hb5
                clear h h6 hm6 hx6 hmv hb5
                obtain ⟨g, rfl⟩ : ∃ g, wa = some ⟨g, 0, none⟩ := by
                  obtain ⟨a', c', e, _, _, _, ha⟩ := (H6.out.front 3 rfl).getOwn.open
                  cases e
                  rcases ha with ⟨_, h0, _⟩ | ⟨g, _, e, _⟩
                  · have := HWN.out; omega
                  · exact ⟨g, e⟩
                have hrow6 : RowAt x6 (some ⟨g, 0, none⟩) A := (H6.out.front 3 rfl).getOwn.rowAt (by have := HWN.out; have := HWO.out.len; have := H50.out; omega) HWO.out.h19
                have hce := hrow6.get HWO.out.h19 hkn
                simp only [Nat.zero_add] at hce
                have hw6 : MsgV (· < W.heap.size) x6 A[k].2 A[k].1 := (HWO.out.v _ (List.getElem_mem hkn)).chg0 (Chg.of_below (memBaseD (W := W) H6.out (by simp)))
                obtain ⟨ce, hcee⟩ : ∃ c, c = A[k].2 := ⟨_, rfl⟩
                have hse : (Try.prog.info? 36).map (·.size) = some ce.length := by rw [hcee]; exact size19n.trans (congrArg some hw6.length.symm)
                rw [← hcee] at hce hw6
                have HCE := Lib.hid hce
                have HW6 := Lib.hid hw6
                have HSE := Lib.hid hse
                have HCL2 := Lib.hid hcl2
                have HKN := Lib.hid hkn
                clear hrow6 hce hw6 hcee hse hcl2
                go_upto_region 21 with (rw [EX5.out, EN5.out]; refine wpList_store_row rfl 36 _ _ rfl n5 cs.toArray rfl rfl _ _ HB5.out hcl hcz hone ?_; rw [← HX6.out])
                have hkl : (k : Int) < (wn : Int) := hin.2
                have hkl2 : k < wn := by omega
                refine wp_region_seq (fun y : World => y.heap[n5]? = some (.cells cs.toArray 36 (0, 0)) ∧ ∀ (j : Nat) (u : Value), ce[j]? = some u → y.cell? ⟨g, k * 19 + j, none⟩ = some u) anyW [] [(0, 0, some 90), (1, 0, some 91), (2, 0, some 92), (3, 0, some 93), (4, 0, some 94), (5, 0, some 95), (6, 1, some 96), (7, 0, some 97), (8, 0, some 98), (9, 0, some 99), (10, 1, some 100), (11, 2, some 101), (12, 0, some 102), (13, 0, some 103), (14, 0, some 104)] (by kernel_rfl) (by kernel_rfl) (fun _ _ _ d _ h => by cases d <;> exact h) ⟨H6.out.drew.nth 0 rfl, HCE.out⟩ anyW.i ?_
                repeat (first | (refine seqW (v := ?_) rfl rfl (by kernel_rfl) ?_ ?_; rotate_left; (focus ((intro x; go_simp); try (with_reducible rfl))); try simp only [Act.put, List.setIfInBounds_toArray, List.set_cons_zero, List.set_cons_succ]) | (refine seqS (v := ?_) rfl rfl (by kernel_rfl) ?_ ?_; rotate_left; (focus (intro x hS; first | (refine (exec_row 36 _ (by rfl) n5 (by rfl) cs _ _ _ hS.1 Try.underlying36 rfl HCL2.out).trans ?_; with_reducible rfl) | (refine (exec_at 36 _ (by rfl) g (k * 19) (by rfl) ce _ hS.2 Try.underlying36 rfl HSE.out).trans ?_; with_reducible rfl) | (go_simp; try (with_reducible rfl)))); try simp only [Act.put, List.setIfInBounds_toArray, List.set_cons_zero, List.set_cons_succ]) | (refine seqX rfl rfl (by kernel_rfl) ?_; try simp only [Act.put, List.setIfInBounds_toArray, List.set_cons_zero, List.set_cons_succ]))
                refine seqL rfl rfl (fun K hK => ?_)
                go_simp
                go_at_call 12
                refine (same_msg (· < w5.heap.size) (· < W.heap.size) A[k].1 cs ce x6.drew (HM6.out.chg0 (Chg.refl none_ x6).drew) (HW6.out.chg0 (Chg.refl none_ x6).drew)).mono ?_
                rintro z y1 ⟨rfl, hy⟩
                have H7 := Lib.hid (H6.out.drew.chg0 hy)
                have hs7 : (fun y : World => y.heap[n5]? = some (.cells cs.toArray 36 (0, 0)) ∧ ∀ (j : Nat) (u : Value), ce[j]? = some u → y.cell? ⟨g, k * 19 + j, none⟩ = some u) y1 := ⟨H7.out.nth 0 rfl, fun j u hu => hy.cell (p := ⟨g, k * 19 + j, none⟩) (HCE.out j u hu) (fun h => h)⟩
                have HS7 := Lib.hid hs7
                clear hy hs7
                go_wp2_with fail
                refine hK.out _ _ anyW.i ?_ (fun _ hSt => ?_)
                · exact HS7.out
                clear hSt hK K
                try simp only [Act.put, List.setIfInBounds_toArray, List.set_cons_zero, List.set_cons_succ]
                repeat (first | (refine seqW (v := ?_) rfl rfl (by kernel_rfl) ?_ ?_; rotate_left; (focus ((intro x; go_simp); try (with_reducible rfl))); try simp only [Act.put, List.setIfInBounds_toArray, List.set_cons_zero, List.set_cons_succ]) | (refine seqS (v := ?_) rfl rfl (by kernel_rfl) ?_ ?_; rotate_left; (focus (intro x hS; first | (refine (exec_row 36 _ (by rfl) n5 (by rfl) cs _ _ _ hS.1 Try.underlying36 rfl HCL2.out).trans ?_; with_reducible rfl) | (refine (exec_at 36 _ (by rfl) g (k * 19) (by rfl) ce _ hS.2 Try.underlying36 rfl HSE.out).trans ?_; with_reducible rfl) | (go_simp; try (with_reducible rfl)))); try simp only [Act.put, List.setIfInBounds_toArray, List.set_cons_zero, List.set_cons_succ]) | (refine seqX rfl rfl (by kernel_rfl) ?_; try simp only [Act.put, List.setIfInBounds_toArray, List.set_cons_zero, List.set_cons_succ]))
                refine seqE ?_
                go_upto_region 24 with fail
                have hkw : IntKind.i64.wrap ((k : Int) + 1) = (k : Int) + 1 := by rw [IntKind.wrap_i64]; have := HWO.out.len; have := H50.out; have := HWN.out; omega
                have hk1 : k + 1 ≤ wn := by omega
                have hkc : k ≤ wcp := by have := HWC.out; omega
                have hwc : wn ≤ wcp := HWC.out
                have hi0 : (k : Int) ≤ (k : Int) + 1 := by omega
                have hi5 : (0 : Int) ≤ (k : Int) + 1 := by omega
                have hi1 : (k : Int) + 1 ≤ (wn : Int) := by omega
                have hi2 : (wn : Int) ≤ (wcp : Int) := by omega
                have hi3 : (k : Int) ≤ (wcp : Int) := by omega
                by_cases hcc : wcp = k + 1
                · have hi4 : (wn : Int) ≤ (k : Int) + 1 := by omega
                  have Z0 := Lib.hid H7.out.drew
                  refine wp_region_seq anyW anyW [] [(1, 0, some 107), (2, 0, some 108), (3, 0, some 109), (5, 0, some 111), (6, 0, some 112), (7, 0, some 113), (8, 0, some 114), (0, 2, some 106), (4, 2, some 110), (9, 2, some 115), (10, 0, some 6)] (by kernel_rfl) (by kernel_rfl) (fun _ _ _ d _ h => by cases d <;> exact h) anyW.i anyW.i ?_
                  generalize y1.drew = z0 at Z0 ⊢
                  obtain ⟨ne, z1, ENe, EXe, -, Z1⟩ := Sys.box Z0.out (.cells #[] 36 (0, 0))
                  have hrw1 : RowAt z1 (some ⟨g, 0, none⟩) A := (Z1.out.front 4 rfl).getOwn.rowAt (by have := HWN.out; have := HWO.out.len; have := H50.out; omega) HWO.out.h19
                  obtain ⟨v1, z2, hap1, h2⟩ := Sys.appMsgs (A := []) (k := k) (Sys.blkNil Z1.out) (some ⟨g, 0, none⟩) wcp (A.take k) (by rw [List.length_take]; have := HKN.out; omega) (fun e he => HWO.out.one e (List.mem_of_mem_take he)) (hrw1.take k) (by have := HKN.out; have := HWO.out.len; have := H50.out; omega) 22
                  rw [Nat.zero_add, List.nil_append] at h2
                  obtain ⟨a1_, n1_, c1_, rfl, hn1⟩ := h2.getOwn.slice
                  obtain rfl : k = n1_ := hn1.out.symm
                  have hrw2 : RowAt z2 (some ⟨g, 0, none⟩) A := (h2.front 4 rfl).getOwn.rowAt (by have := HWN.out; have := HWO.out.len; have := H50.out; omega) HWO.out.h19
                  have hkA : k + 1 ≤ A.length := HKN.out
                  have hrw3 : RowAt z2 (some ⟨g, 0, none⟩) (A.drop (k + 1)) := .inl (List.drop_eq_nil_of_le (by have := HWN.out; have := HWC.out; omega))
                  obtain ⟨v2, z3, hap2, h3⟩ := Sys.appMsgs (k := wn - (k + 1)) h2 (some ⟨g, 0, none⟩) (0) (A.drop (k + 1)) (by rw [List.length_drop, HWN.out]) (fun e he => HWO.out.one e (List.mem_of_mem_drop he)) hrw3 (by have := HWO.out.len; have := H50.out; have := HWN.out; have := HKN.out; omega) 22
                  rw [erase_td] at h3
                  obtain ⟨a2_, n2_, c2_, rfl, hn2⟩ := h3.getOwn.slice
                  have H9 := Lib.hid h3
                  have HN2_ := Lib.hid hn2.out
                  clear h2 h3 hn1 hn2 hrw1 hrw2 hrw3 hkA
                  repeat (first | (refine seqW (v := ?_) rfl rfl (by kernel_rfl) ?_ ?_; rotate_left; (focus ((intro x; go_simp); try (with_reducible rfl))); try simp only [Act.put, List.setIfInBounds_toArray, List.set_cons_zero, List.set_cons_succ]) | (refine seqS (v := ?_) rfl rfl (by kernel_rfl) ?_ ?_; rotate_left; (focus (intro x hS; first | (go_simp; try (with_reducible rfl)))); try simp only [Act.put, List.setIfInBounds_toArray, List.set_cons_zero, List.set_cons_succ]) | (refine seqX rfl rfl (by kernel_rfl) ?_; try simp only [Act.put, List.setIfInBounds_toArray, List.set_cons_zero, List.set_cons_succ]))
                  refine seqL rfl rfl (fun K hK => ?_)
                  go_simp
                  rw [EXe.out, ENe.out]
                  refine hK.out _ _ anyW.i ?_ (fun _ hSt => ?_)
                  · exact anyW.i
                  clear hSt hK K
                  try simp only [Act.put, List.setIfInBounds_toArray, List.set_cons_zero, List.set_cons_succ]
                  refine seqL rfl rfl (fun K hK => ?_)
                  refine step_run_append rfl (.tmp 106) (.tmp 109) 22 rfl rfl rfl hap1 ?_
                  change K (Act.put _ (some 110) _) _
                  refine hK.out _ _ anyW.i ?_ (fun _ hSt => ?_)
                  · exact anyW.i
                  clear hSt hK K
                  try simp only [Act.put, List.setIfInBounds_toArray, List.set_cons_zero, List.set_cons_succ]
                  refine seqL rfl rfl (fun K hK => ?_)
                  refine step_run_append rfl (.tmp 110) (.tmp 114) 22 rfl rfl rfl hap2 ?_
                  change K (Act.put _ (some 115) _) _
                  refine hK.out _ _ anyW.i ?_ (fun _ hSt => ?_)
                  · exact anyW.i
                  clear hSt hK K
                  try simp only [Act.put, List.setIfInBounds_toArray, List.set_cons_zero, List.set_cons_succ]
                  repeat (first | (refine seqW (v := ?_) rfl rfl (by kernel_rfl) ?_ ?_; rotate_left; (focus ((intro x; go_simp); try (with_reducible rfl))); try simp only [Act.put, List.setIfInBounds_toArray, List.set_cons_zero, List.set_cons_succ]) | (refine seqS (v := ?_) rfl rfl (by kernel_rfl) ?_ ?_; rotate_left; (focus (intro x hS; first | (go_simp; try (with_reducible rfl)))); try simp only [Act.put, List.setIfInBounds_toArray, List.set_cons_zero, List.set_cons_succ]) | (refine seqX rfl rfl (by kernel_rfl) ?_; try simp only [Act.put, List.setIfInBounds_toArray, List.set_cons_zero, List.set_cons_succ]))
                  refine seqE ?_
                  go_wp2_with fail
                  try rw [← hk]
                  go_meet
                  case rel => exact ⟨A.eraseIdx k, a2_, n2_, c2_, rfl, (by show (A.eraseIdx k).length = n2_; rw [HN2_.out, List.length_eraseIdx, if_pos HKN.out, HWN.out]; omega), Lib.hid ((HWO.out.sub (by rw [List.length_eraseIdx]; have := HWO.out.len; split <;> omega) (fun e he => List.mem_of_mem_eraseIdx he)).mono (by omega)), (by rw [map_erase] at H9; have h9 := (((H9.out.dropAt 1 rfl).dropAt 3 rfl).front 2 rfl).front 2 rfl; rw [← HN2_.out] at h9; exact h9)⟩
                · have Z0 := Lib.hid H7.out.drew
                  refine wp_region_seq anyW anyW [] [(1, 0, some 107), (2, 0, some 108), (3, 0, some 109), (5, 0, some 111), (6, 0, some 112), (7, 0, some 113), (8, 0, some 114), (0, 2, some 106), (4, 2, some 110), (9, 2, some 115), (10, 0, some 6)] (by kernel_rfl) (by kernel_rfl) (fun _ _ _ d _ h => by cases d <;> exact h) anyW.i anyW.i ?_
                  generalize y1.drew = z0 at Z0 ⊢
                  obtain ⟨ne, z1, ENe, EXe, -, Z1⟩ := Sys.box Z0.out (.cells #[] 36 (0, 0))
                  have hrw1 : RowAt z1 (some ⟨g, 0, none⟩) A := (Z1.out.front 4 rfl).getOwn.rowAt (by have := HWN.out; have := HWO.out.len; have := H50.out; omega) HWO.out.h19
                  obtain ⟨v1, z2, hap1, h2⟩ := Sys.appMsgs (A := []) (k := k) (Sys.blkNil Z1.out) (some ⟨g, 0, none⟩) wcp (A.take k) (by rw [List.length_take]; have := HKN.out; omega) (fun e he => HWO.out.one e (List.mem_of_mem_take he)) (hrw1.take k) (by have := HKN.out; have := HWO.out.len; have := H50.out; omega) 22
                  rw [Nat.zero_add, List.nil_append] at h2
                  obtain ⟨a1_, n1_, c1_, rfl, hn1⟩ := h2.getOwn.slice
                  obtain rfl : k = n1_ := hn1.out.symm
                  have hrw2 : RowAt z2 (some ⟨g, 0, none⟩) A := (h2.front 4 rfl).getOwn.rowAt (by have := HWN.out; have := HWO.out.len; have := H50.out; omega) HWO.out.h19
                  have hkA : k + 1 ≤ A.length := HKN.out
                  have hrw3 := hrw2.drop HWO.out.h19 (k + 1) hkA
                  rw [Nat.zero_add] at hrw3
                  obtain ⟨v2, z3, hap2, h3⟩ := Sys.appMsgs (k := wn - (k + 1)) h2 (some ⟨g, (k + 1) * 19, none⟩) (wcp - (k + 1)) (A.drop (k + 1)) (by rw [List.length_drop, HWN.out]) (fun e he => HWO.out.one e (List.mem_of_mem_drop he)) hrw3 (by have := HWO.out.len; have := H50.out; have := HWN.out; have := HKN.out; omega) 22
                  rw [erase_td] at h3
                  obtain ⟨a2_, n2_, c2_, rfl, hn2⟩ := h3.getOwn.slice
                  have H9 := Lib.hid h3
                  have HN2_ := Lib.hid hn2.out
                  clear h2 h3 hn1 hn2 hrw1 hrw2 hrw3 hkA
                  repeat (first | (refine seqW (v := ?_) rfl rfl (by kernel_rfl) ?_ ?_; rotate_left; (focus ((intro x; go_simp); try (with_reducible rfl))); try simp only [Act.put, List.setIfInBounds_toArray, List.set_cons_zero, List.set_cons_succ]) | (refine seqS (v := ?_) rfl rfl (by kernel_rfl) ?_ ?_; rotate_left; (focus (intro x hS; first | (go_simp; try (with_reducible rfl)))); try simp only [Act.put, List.setIfInBounds_toArray, List.set_cons_zero, List.set_cons_succ]) | (refine seqX rfl rfl (by kernel_rfl) ?_; try simp only [Act.put, List.setIfInBounds_toArray, List.set_cons_zero, List.set_cons_succ]))
                  refine seqL rfl rfl (fun K hK => ?_)
                  go_simp
                  rw [EXe.out, ENe.out]
                  refine hK.out _ _ anyW.i ?_ (fun _ hSt => ?_)
                  · exact anyW.i
                  clear hSt hK K
                  try simp only [Act.put, List.setIfInBounds_toArray, List.set_cons_zero, List.set_cons_succ]
                  refine seqL rfl rfl (fun K hK => ?_)
                  refine step_run_append rfl (.tmp 106) (.tmp 109) 22 rfl rfl rfl hap1 ?_
                  change K (Act.put _ (some 110) _) _
                  refine hK.out _ _ anyW.i ?_ (fun _ hSt => ?_)
                  · exact anyW.i
                  clear hSt hK K
                  try simp only [Act.put, List.setIfInBounds_toArray, List.set_cons_zero, List.set_cons_succ]
                  refine seqL rfl rfl (fun K hK => ?_)
                  refine step_run_append rfl (.tmp 110) (.tmp 114) 22 rfl rfl rfl hap2 ?_
                  change K (Act.put _ (some 115) _) _
                  refine hK.out _ _ anyW.i ?_ (fun _ hSt => ?_)
                  · exact anyW.i
                  clear hSt hK K
                  try simp only [Act.put, List.setIfInBounds_toArray, List.set_cons_zero, List.set_cons_succ]
                  repeat (first | (refine seqW (v := ?_) rfl rfl (by kernel_rfl) ?_ ?_; rotate_left; (focus ((intro x; go_simp); try (with_reducible rfl))); try simp only [Act.put, List.setIfInBounds_toArray, List.set_cons_zero, List.set_cons_succ]) | (refine seqS (v := ?_) rfl rfl (by kernel_rfl) ?_ ?_; rotate_left; (focus (intro x hS; first | (go_simp; try (with_reducible rfl)))); try simp only [Act.put, List.setIfInBounds_toArray, List.set_cons_zero, List.set_cons_succ]) | (refine seqX rfl rfl (by kernel_rfl) ?_; try simp only [Act.put, List.setIfInBounds_toArray, List.set_cons_zero, List.set_cons_succ]))
                  refine seqE ?_
                  go_wp2_with fail
                  try rw [← hk]
                  go_meet
                  case rel => exact ⟨A.eraseIdx k, a2_, n2_, c2_, rfl, (by show (A.eraseIdx k).length = n2_; rw [HN2_.out, List.length_eraseIdx, if_pos HKN.out, HWN.out]; omega), Lib.hid ((HWO.out.sub (by rw [List.length_eraseIdx]; have := HWO.out.len; split <;> omega) (fun e he => List.mem_of_mem_eraseIdx he)).mono (by omega)), (by rw [map_erase] at H9; have h9 := (((H9.out.dropAt 1 rfl).dropAt 3 rfl).front 2 rfl).front 2 rfl; rw [← HN2_.out] at h9; exact h9)⟩
              · obtain rfl : bi = false := by rw [HBI.out]; exact decide_eq_false hin
                go_wp2_with fail
                have ht := netD_take_no at_ (by rw [List.length_map, HWN.out]; exact hin) HC11.out
                refine ht.mono ?_
                clear ht
                rintro z w5 ⟨rfl, h⟩
                obtain ⟨cs, hcs⟩ : ∃ c, c = zeroMsg := ⟨_, rfl⟩
                rw [← hcs]
                have hone : cs.toArray.all (·.oneCell') = true := by rw [hcs]; simp [zeroMsg, Value.oneCell']
                have hcl : (Try.prog.info? 36).map (·.size) = some cs.toArray.size := by rw [hcs]; exact size19n
                have hcz : (#[.int .i64 0, .int .i64 0, .int .i64 0, .int .i64 0, .int .i64 0, .int .i64 0, .int .i64 0, .slice none 0 0, .int .i64 0, .slice none 0 0, .slice none 0 0, .int .i64 0, .int .i64 0, .slice none 0 0, .int .i64 0, .int .u64 0, .int .u64 0, .int .i64 0, .slice none 0 0] : Array Value).size = cs.toArray.size := by rw [hcs]; rfl
                obtain ⟨n5, x5, EN5, EX5, ES5, H5⟩ := h.box (.cells #[.int .i64 0, .int .i64 0, .int .i64 0, .int .i64 0, .int .i64 0, .int .i64 0, .int .i64 0, .slice none 0 0, .int .i64 0, .slice none 0 0, .slice none 0 0, .int .i64 0, .int .i64 0, .slice none 0 0, .int .i64 0, .int .u64 0, .int .u64 0, .int .i64 0, .slice none 0 0] 36 (0, 0))
                have hb5 : x5.heap[n5]? = some (.cells #[.int .i64 0, .int .i64 0, .int .i64 0, .int .i64 0, .int .i64 0, .int .i64 0, .int .i64 0, .slice none 0 0, .int .i64 0, .slice none 0 0, .slice none 0 0, .int .i64 0, .int .i64 0, .slice none 0 0, .int .i64 0, .int .u64 0, .int .u64 0, .int .i64 0, .slice none 0 0] 36 (0, 0)) := H5.out.nth 0 rfl
                obtain ⟨x6, hx6⟩ : ∃ x, x = x5.setRow n5 cs.toArray := ⟨_, rfl⟩
                have h6 : Sys x6 (fun _ => emp) (blk n5 (.cells cs.toArray 36 (0, 0)) :: netT p (A.map (·.1)) :: base W :: [own 36 19 (.slice wa wn wcp) wn (flatM A)]) := by
                  rw [hx6]
                  exact H5.out.store ((Chg.refl (· = n5) x5).row cs.toArray) (setRow_heap _ _ _ _ _ _ hb5)
                have HX6 := Lib.hid hx6
                have H6 := Lib.hid h6
                have HB5 := Lib.hid hb5
                clear h h6 hx6 hb5 hcs
                go_upto_region 21 with (rw [EX5.out, EN5.out]; refine wpList_store_row rfl 36 _ _ rfl n5 cs.toArray rfl rfl _ _ HB5.out hcl hcz hone ?_; rw [← HX6.out])
                refine wp_region_seq anyW anyW [] [(0, 0, some 90), (1, 0, some 91), (2, 0, some 92), (3, 0, some 93), (4, 0, some 94), (5, 0, some 95), (6, 4, some 96), (7, 4, some 97), (8, 4, some 98), (9, 4, some 99), (10, 4, some 100), (11, 4, some 101), (12, 4, some 102), (13, 0, some 103), (14, 0, some 104)] (by kernel_rfl) (by kernel_rfl) (fun _ _ _ d _ h => by cases d <;> exact h) anyW.i anyW.i ?_
                repeat (first | (refine seqW (v := ?_) rfl rfl (by kernel_rfl) ?_ ?_; rotate_left; (focus ((intro x; go_simp); try (with_reducible rfl))); try simp only [Act.put, List.setIfInBounds_toArray, List.set_cons_zero, List.set_cons_succ]) | (refine seqS (v := ?_) rfl rfl (by kernel_rfl) ?_ ?_; rotate_left; (focus (intro x hS; first | (go_simp; try (with_reducible rfl)))); try simp only [Act.put, List.setIfInBounds_toArray, List.set_cons_zero, List.set_cons_succ]) | (refine seqX rfl rfl (by kernel_rfl) ?_; try simp only [Act.put, List.setIfInBounds_toArray, List.set_cons_zero, List.set_cons_succ]))
                refine seqE ?_
                go_wp2_with fail
                go_meet
                case rel => exact ⟨A, wa, wn, wcp, rfl, HWN, Lib.hid (HWO.out.mono (by omega)), H6.out.tail.drew⟩
            · rw [decide_eq_false h01]
              by_cases h2 : ac = 2
              · subst h2
                by_cases hin : 0 ≤ at_ ∧ at_ < (wn : Int)
                · obtain rfl : bi = true := by rw [HBI.out]; exact decide_eq_true hin
                  obtain ⟨k, hk⟩ : ∃ k : Nat, at_ = (k : Int) := ⟨at_.toNat, by omega⟩
                  rw [hk] at hin ⊢
                  have hkn : k < A.length := by rw [HWN.out]; omega
                  go_wp2_with fail
                  have ht := netD_copy_yes k A[k].1 (by rw [List.getElem?_map, List.getElem?_eq_getElem hkn]; rfl) HLE6.out HC11.out
                  refine ht.mono ?_
                  clear ht
                  rintro z w5 ⟨rfl, h⟩
                  obtain ⟨g, rfl⟩ : ∃ g, wa = some ⟨g, 0, none⟩ := by
                    obtain ⟨a', c', e, _, _, _, ha⟩ := (h.front 2 rfl).getOwn.open
                    cases e
                    rcases ha with ⟨_, h0, _⟩ | ⟨g, _, e, _⟩
                    · have := HWN.out; omega
                    · exact ⟨g, e⟩
                  have hrow6 : RowAt w5 (some ⟨g, 0, none⟩) A := (h.front 2 rfl).getOwn.rowAt (by have := HWN.out; have := HWO.out.len; have := H50.out; omega) HWO.out.h19
                  have hce := hrow6.get HWO.out.h19 hkn
                  simp only [Nat.zero_add] at hce
                  have hv6 := HWO.out.v _ (List.getElem_mem hkn)
                  obtain ⟨ce, hcee⟩ : ∃ c, c = A[k].2 := ⟨_, rfl⟩
                  rw [← hcee] at hce hv6
                  obtain ⟨xk, hxk⟩ : ∃ c, c = A[k].1 := ⟨_, rfl⟩
                  rw [← hxk] at hv6 h
                  have hse : (Try.prog.info? 36).map (·.size) = some ce.length := size19n.trans (congrArg some hv6.length.symm)
                  have hlen9 : ce.length = 19 := hv6.length
                  obtain ⟨ii, hi9, hz9, hs9, hby9⟩ := info_parts' (P := Try.prog) (e := 36) (z := some (.agg zeroMsg.toArray)) (s := 19) (b := 232) (by kernel_rfl)
                  obtain ⟨nk, y1, ENk, EXk, ESk, Hk⟩ := h.box (.cells ce.toArray 36 (0, 0))
                  have hwok : WOk W [(xk, ce)] 1 := ⟨Nat.le_refl _, fun e he => by rw [List.mem_singleton] at he; subst he; exact hv6⟩
                  obtain ⟨v', y2, hap, h5⟩ := Sys.appMsgs (k := 1) (Hk.out.front 3 rfl) (some ⟨nk, 0, none⟩) 1 [(xk, ce)] rfl hwok.one (rowAt_one (Hk.out.nth 0 rfl)) (by have := HWN.out; have := HWO.out.len; have := H50.out; omega) 22
                  obtain ⟨a2_, n2_, c2_, rfl, hn2⟩ := h5.getOwn.slice
                  obtain rfl : n2_ = wn + 1 := hn2.out
                  have h9 := ((h5.dropAt 1 rfl).front 2 rfl).front 2 rfl
                  rw [show A.map (·.1) ++ [xk] = (A ++ [(xk, ce)]).map (·.1) by rw [List.map_append]; rfl] at h9
                  have H9 := Lib.hid h9
                  have HWK := Lib.hid (HWO.out.append hwok)
                  have HI9 := Lib.hid hi9
                  have HZ9 := Lib.hid hz9
                  have HS9 := Lib.hid hs9
                  have hkl : (k : Int) < (wn : Int) := hin.2
                  clear h h5 h9 hn2 hrow6 hv6 hcee hxk hwok hi9 hz9 hs9 hby9
                  go_wp2_with (first | (refine wpList_load_at rfl 36 _ rfl g (k * 19) rfl ce _ hce Try.underlying36 rfl hse ?_) | (refine wpList_buildOne rfl 22 36 19 (.tmp 128) rfl ce rfl ii (.agg zeroMsg.toArray) Try.underlying22 HI9.out HS9.out HZ9.out (by decide) (by decide) hlen9 ?_; rw [EXk.out, ENk.out]) | (at_builtin; refine wpl_append rfl _ _ _ rfl rfl rfl hap ?_))
                  try rw [← hk]
                  go_meet
                  case rel => exact ⟨A ++ [(xk, ce)], a2_, wn + 1, c2_, rfl, (by show (A ++ [(xk, ce)]).length = wn + 1; rw [List.length_append, HWN.out]; rfl), Lib.hid (HWK.out.mono (by omega)), H9.out⟩
                · obtain rfl : bi = false := by rw [HBI.out]; exact decide_eq_false hin
                  go_wp2_with fail
                  have ht := netD_copy_no at_ (by rw [List.length_map, HWN.out]; exact hin) HC11.out
                  refine ht.mono ?_
                  clear ht
                  rintro z w5 ⟨rfl, h⟩
                  have H5 := Lib.hid h
                  clear h
                  go_wp2_with fail
                  go_meet
                  case rel => exact ⟨A, wa, wn, wcp, rfl, HWN, Lib.hid (HWO.out.mono (by omega)), H5.out⟩
              · have e2 : (ac == 2) = false := by simpa using h2
                go_wp2_with fail
                obtain ⟨m3, hm3⟩ : ∃ v : Int, v = x / 256 % 4 := ⟨_, rfl⟩
                have hm3b : 0 ≤ m3 ∧ m3 < 4 := by omega
                have HM3 := Lib.hid hm3
                have HM3B := Lib.hid hm3b
                clear hm3 hm3b
                go_loopw [12] (fun kv wr => ∃ k : Nat, k ≤ len0 ∧ k ≤ 3 ∧ kv = .int .i64 (k : Int) ∧ Sys wr (fun _ => emp) (netT p (A.map (·.1)) :: base W :: [own 36 19 (.slice wa wn wcp) wn (flatM A)])) (fun kv _ => 4 - (intOf kv).toNat)
                case atStart => exact ⟨0, by omega, by omega, rfl, HC11.out⟩
                case round =>
                  obtain ⟨k, hkl0, hk3, rfl, hRk⟩ := hrel
                  have HRK := Lib.hid hRk
                  clear hRk
                  have q0 := HCI.out _ (memBaseD (W := W) HRK.out (by simp))
                  have hm3 := i64_and3
                  by_cases hgk : k < len0 ∧ (k : Int) < m3
                  · obtain ⟨hk1, hk2⟩ := hgk
                    have hk1i : (k : Int) < (len0 : Int) := by omega
                    have hk2i : (k : Int) < x / 256 % 4 := by rw [← HM3.out]; exact hk2
                    have hkw : IntKind.i64.wrap ((k : Int) + 1) = (k : Int) + 1 := by rw [IntKind.wrap_i64]; omega
                    have hil2 : k < LM.length := by rw [HLM.out]; exact hk1
                    obtain ⟨mb, mo, rfl, hcm⟩ := HROW.out.msg (memBaseD (W := W) HRK.out (by simp)) hil2
                    obtain ⟨hrw, hps⟩ := HAT.out LM[k] (List.getElem_mem hil2)
                    obtain ⟨PM, hPM⟩ : ∃ P, P = LM[k] := ⟨_, rfl⟩
                    rw [← hPM] at hcm hrw hps
                    obtain ⟨cs, hcs⟩ : ∃ cs, cs = PM.cells := ⟨_, rfl⟩
                    have hsl : (Try.prog.info? 36).map (·.size) = some cs.length := by rw [hcs]; exact size19
                    have HF : Hid (∀ (w : World) (m : Nat → Thing) (l' : List Thing) (hP : Cap l' PM.Raw) (h : Sys w m l'), Calls Try.prog 14 #[.agg cs.toArray] w fun z w' => z = .returned (.bool PM.few) ∧ Sys w' m l') := by rw [hcs]; exact fun w m l' hP h => mess_few PM hP (MsgP.small hps) h
                    rw [← hcs] at hcm
                    have HPR := Lib.hid hrw
                    have HK1 := Lib.hid hk1
                    have HK2 := Lib.hid hk2
                    clear hPM hrw hps hcs hk1 hk2 hkl0 hk3 hil2
                    go_wp2_with (refine wpList_load_at rfl 36 _ rfl mb (mo + k * 19) rfl cs _ hcm Try.underlying36 rfl hsl ?_)
                    refine (HF.out wr _ _ (fun y m' hs => HPR.out.below (memBaseD (W := W) hs (by simp))) HRK.out).mono ?_
                    rintro z w6 ⟨rfl, h⟩
                    have H6 := Lib.hid h
                    clear h
                    obtain ⟨fw, hfw⟩ : ∃ b, b = PM.few := ⟨_, rfl⟩
                    rw [← hfw]
                    clear hfw
                    cases fw
                    · go_wp2_with fail
                      refine (net_awake _).mono ?_
                      rintro e y2 ⟨rfl, hB⟩
                      have HBE := Lib.hid ((memBaseD (W := W) H6.out (by simp)).trans (hB.mono (memBaseD (W := W) H6.out (by simp)).size))
                      clear hB
                      go_wp2_with fail
                      go_ret
                      exact ⟨rfl, HBE.out⟩
                    · go_wp2_with fail
                      go_roundw
                      case rel => exact ⟨k + 1, by have := HK1.out; omega, by have := HK2.out; have := HM3B.out; omega, by go_num, H6.out⟩
                      case measure => simp [intOf]; have := HK2.out; have := HM3B.out; omega
                  · have hkc : k ≤ cap0 := by
                      obtain ⟨_, _, e, -, -, -, -, hc⟩ := HROW.out
                      cases e
                      have := HLM.out
                      omega
                    have hkci : (k : Int) ≤ (cap0 : Int) := by omega
                    have hlt1 : ((Msgs LM).take k).length = k := by rw [List.length_take]; unfold Msgs; rw [List.length_map, HLM.out]; omega
                    have hmsv : ∀ e ∈ (Msgs LM).take k, MsgV (· < W.heap.size) W e.2 e.1 := fun e he => by
                      obtain ⟨P, hP, rfl⟩ := List.mem_map.1 (List.mem_of_mem_take he)
                      obtain ⟨h1, h2⟩ := HAT.out P hP
                      exact h1.msgV h2
                    have hwB : WOk W ((Msgs LM).take k) 3 := ⟨by rw [hlt1]; exact hk3, hmsv⟩
                    have hsend := netD_send (.slice a0 k cap0) ((Msgs LM).take k) ⟨sliceIn_args HROW.out (memBaseD (W := W) HRK.out (by simp)) k (by omega) (by rw [HLM.out]; exact hkl0), fun e he => (hmsv e he).chg0 (Chg.of_below (memBaseD (W := W) HRK.out (by simp)))⟩ (by rw [hlt1, List.length_map]; have := HWO.out.len; have := H50.out; omega) HRK.out
                    have HSEND := Lib.hid hsend
                    have HWB := Lib.hid hwB
                    have HLT1 := Lib.hid hlt1
                    have HHK := Lib.hid hgk
                    have HKL := Lib.hid hkl0
                    clear hsend hwB hlt1 hmsv hgk hk3 hkl0
                    go_upto_region 12 with fail
                    go_cut [61] from 48 to 60 (fun tv wx => tv = .bool false ∧ wx = wr)
                    case first =>
                      by_cases hk1 : k < len0
                      · have hk1i : (k : Int) < (len0 : Int) := by omega
                        have hk2 : ¬ ((k : Int) < x / 256 % 4) := by rw [← HM3.out]; exact fun h => HHK.out ⟨hk1, h⟩
                        go_wp2_with fail
                        go_meet
                        case rel => exact ⟨rfl, rfl⟩
                      · have hk1i : ¬ ((k : Int) < (len0 : Int)) := by omega
                        go_wp2_with fail
                        go_meet
                        case rel => exact ⟨rfl, rfl⟩
                    case rest =>
                      obtain ⟨rfl, rfl⟩ := hcut
                      clear q0 hm3
                      go_wp2_with fail
                      refine HSEND.out.mono ?_
                      rintro z w7 ⟨rfl, h⟩
                      obtain ⟨v', y2, hap, h5⟩ := Sys.appMsgs (k := k) (h.front 2 rfl) a0 cap0 ((Msgs LM).take k) HLT1.out HWB.out.one ((rowAt_args HROW.out (memBaseD (W := W) h (by simp))).take k) (by have := HWN.out; have := HWO.out.len; have := H50.out; have := HWB.out.len; rw [HLT1.out] at this; omega) 22
                      obtain ⟨a2_, n2_, c2_, rfl, hn2⟩ := h5.getOwn.slice
                      have h9 := (h5.front 2 rfl).front 2 rfl
                      rw [← List.map_append, ← hn2.out] at h9
                      have H9 := Lib.hid h9
                      have HN2 := hn2
                      clear h h5 h9 hn2
                      go_wp2_with (at_builtin; refine wpl_append rfl _ _ _ rfl rfl rfl hap ?_)
                      go_meet
                      case rel => exact ⟨A ++ (Msgs LM).take k, a2_, n2_, c2_, rfl, (by show (A ++ (Msgs LM).take k).length = n2_; rw [List.length_append, HLT1.out, HWN.out, HN2.out]), HWO.out.append HWB.out, H9.out⟩
        case rest =>
          obtain ⟨A2, wa2, wn2, wc2, rfl, HWN2, HWO2, hR2⟩ := hcut
          have HC2 := Lib.hid hR2
          clear hR2 HC9 HWN HWO HWC
          by_cases hin : 0 ≤ at_ ∧ at_ < (wn2 : Int)
          · obtain ⟨k, hk⟩ : ∃ k : Nat, at_ = (k : Int) := ⟨at_.toNat, by omega⟩
            rw [hk] at hin ⊢
            have hkn : k < A2.length := by rw [HWN2.out]; omega
            go_wp2_with fail
            have ht := netD_at_yes k A2[k].1 (by rw [List.getElem?_map, List.getElem?_eq_getElem hkn]; rfl) HC2.out
            refine ht.mono ?_
            clear ht
            rintro z w5 ⟨cs, rfl, hmv, h⟩
            have hone : cs.toArray.all (·.oneCell') = true := by rw [List.all_toArray]; exact List.all_eq_true.2 hmv.one
            have hcl : (Try.prog.info? 36).map (·.size) = some cs.toArray.size := size19n.trans (congrArg some (by rw [List.size_toArray, hmv.length]))
            have hcl2 : (Try.prog.info? 36).map (·.size) = some cs.length := size19n.trans (congrArg some hmv.length.symm)
            have hcz : (#[.int .i64 0, .int .i64 0, .int .i64 0, .int .i64 0, .int .i64 0, .int .i64 0, .int .i64 0, .slice none 0 0, .int .i64 0, .slice none 0 0, .slice none 0 0, .int .i64 0, .int .i64 0, .slice none 0 0, .int .i64 0, .int .u64 0, .int .u64 0, .int .i64 0, .slice none 0 0] : Array Value).size = cs.toArray.size := (by rw [List.size_toArray]; exact hmv.length : cs.toArray.size = 19).symm
            obtain ⟨n5, x5, EN5, EX5, ES5, H5⟩ := h.box (.cells #[.int .i64 0, .int .i64 0, .int .i64 0, .int .i64 0, .int .i64 0, .int .i64 0, .int .i64 0, .slice none 0 0, .int .i64 0, .slice none 0 0, .slice none 0 0, .int .i64 0, .int .i64 0, .slice none 0 0, .int .i64 0, .int .u64 0, .int .u64 0, .int .i64 0, .slice none 0 0] 36 (0, 0))
            have hb5 : x5.heap[n5]? = some (.cells #[.int .i64 0, .int .i64 0, .int .i64 0, .int .i64 0, .int .i64 0, .int .i64 0, .int .i64 0, .slice none 0 0, .int .i64 0, .slice none 0 0, .slice none 0 0, .int .i64 0, .int .i64 0, .slice none 0 0, .int .i64 0, .int .u64 0, .int .u64 0, .int .i64 0, .slice none 0 0] 36 (0, 0)) := H5.out.nth 0 rfl
            obtain ⟨x6, hx6⟩ : ∃ x, x = x5.setRow n5 cs.toArray := ⟨_, rfl⟩
            have h6 : Sys x6 (fun _ => emp) (blk n5 (.cells cs.toArray 36 (0, 0)) :: netT p (A2.map (·.1)) :: base W :: [own 36 19 (.slice wa2 wn2 wc2) wn2 (flatM A2)]) := by
              rw [hx6]
              exact H5.out.store ((Chg.refl (· = n5) x5).row cs.toArray) (setRow_heap _ _ _ _ _ _ hb5)
            have hm6 : MsgV (· < w5.heap.size) x6 cs A2[k].1 := by
              have h1 := (hmv.mono (S' := (· < w5.heap.size)) (fun b _ hlt => hlt)).chg0 ((Chg.refl none_ w5).alloc (.cells #[.int .i64 0, .int .i64 0, .int .i64 0, .int .i64 0, .int .i64 0, .int .i64 0, .int .i64 0, .slice none 0 0, .int .i64 0, .slice none 0 0, .slice none 0 0, .int .i64 0, .int .i64 0, .slice none 0 0, .int .i64 0, .int .u64 0, .int .u64 0, .int .i64 0, .slice none 0 0] 36 (0, 0)))
              rw [EX5.out] at h1
              rw [hx6]
              exact h1.chg ((Chg.refl (· = n5) x5).row cs.toArray) (fun b hb e => by have := EN5.out; omega)
            have HX6 := Lib.hid hx6
            have H6 := Lib.hid h6
            have HM6 := Lib.hid hm6
            have HB5 := Lib.hid hb5
            clear h h6 hm6 hx6 hmv hb5
            obtain ⟨g, rfl⟩ : ∃ g, wa2 = some ⟨g, 0, none⟩ := by
              obtain ⟨a', c', e, _, _, _, ha⟩ := (H6.out.front 3 rfl).getOwn.open
              cases e
              rcases ha with ⟨_, h0, _⟩ | ⟨g, _, e, _⟩
              · have := HWN2.out; omega
              · exact ⟨g, e⟩
            have hrow6 : RowAt x6 (some ⟨g, 0, none⟩) A2 := (H6.out.front 3 rfl).getOwn.rowAt (by have := HWN2.out; have := HWO2.out.len; have := H50.out; omega) HWO2.out.h19
            have hce := hrow6.get HWO2.out.h19 hkn
            simp only [Nat.zero_add] at hce
            have hw6 : MsgV (· < W.heap.size) x6 A2[k].2 A2[k].1 := (HWO2.out.v _ (List.getElem_mem hkn)).chg0 (Chg.of_below (memBaseD (W := W) H6.out (by simp)))
            obtain ⟨ce, hcee⟩ : ∃ c, c = A2[k].2 := ⟨_, rfl⟩
            have hse : (Try.prog.info? 36).map (·.size) = some ce.length := by rw [hcee]; exact size19n.trans (congrArg some hw6.length.symm)
            rw [← hcee] at hce hw6
            have HCE := Lib.hid hce
            have HW6 := Lib.hid hw6
            have HSE := Lib.hid hse
            have HCL2 := Lib.hid hcl2
            have HKN := Lib.hid hkn
            clear hrow6 hce hw6 hcee hse hcl2
            have hkl : (k : Int) < (wn2 : Int) := hin.2
            have hkl2 : k < wn2 := by omega
            have hlen2 : (A2.map (·.1)).length = wn2 := by rw [List.length_map]; exact HWN2.out
            have HLEN2 := Lib.hid hlen2
            clear hlen2
            go_upto_region 32 with (rw [EX5.out, EN5.out]; refine wpList_store_row rfl 36 _ _ rfl n5 cs.toArray rfl rfl _ _ HB5.out hcl hcz hone ?_; rw [← HX6.out])
            refine wp_region_seq (fun y : World => y.heap[n5]? = some (.cells cs.toArray 36 (0, 0)) ∧ ∀ (j : Nat) (u : Value), ce[j]? = some u → y.cell? ⟨g, k * 19 + j, none⟩ = some u) anyW [] [(0, 0, some 145), (2, 0, some 147), (3, 0, some 148), (1, 2, some 146), (4, 0, some 149), (5, 0, some 150), (6, 0, some 151), (7, 0, some 152), (8, 0, some 153), (9, 0, some 154), (10, 0, some 155), (11, 0, some 156), (12, 0, some 157), (13, 1, some 158), (14, 0, some 159), (15, 0, some 160), (16, 0, some 161), (17, 1, some 162), (18, 2, some 163), (19, 0, some 164), (20, 0, some 165), (21, 0, some 166)] (by kernel_rfl) (by kernel_rfl) (fun _ _ _ d _ h => by cases d <;> exact h) ⟨H6.out.drew.nth 0 rfl, HCE.out⟩ anyW.i ?_
            repeat (first | (refine seqW (v := ?_) rfl rfl (by kernel_rfl) ?_ ?_; rotate_left; (focus ((intro x; go_simp); try (with_reducible rfl))); try simp only [Act.put, List.setIfInBounds_toArray, List.set_cons_zero, List.set_cons_succ]) | (refine seqS (v := ?_) rfl rfl (by kernel_rfl) ?_ ?_; rotate_left; (focus (intro x hS; first | (refine (exec_row 36 _ (by rfl) n5 (by rfl) cs _ _ _ hS.1 Try.underlying36 rfl HCL2.out).trans ?_; with_reducible rfl) | (refine (exec_at 36 _ (by rfl) g (k * 19) (by rfl) ce _ hS.2 Try.underlying36 rfl HSE.out).trans ?_; with_reducible rfl) | (go_simp; try (with_reducible rfl)))); try simp only [Act.put, List.setIfInBounds_toArray, List.set_cons_zero, List.set_cons_succ]) | (refine seqX rfl rfl (by kernel_rfl) ?_; try simp only [Act.put, List.setIfInBounds_toArray, List.set_cons_zero, List.set_cons_succ]))
            refine seqL rfl rfl (fun K hK => ?_)
            go_simp
            go_at_call 18
            refine (netD_len (H6.out.drew.front 1 rfl)).mono ?_
            rintro z y1 ⟨rfl, rfl⟩
            rw [HLEN2.out]
            go_wp2_with fail
            refine hK.out _ _ anyW.i ?_ (fun _ hSt => ?_)
            · exact ⟨H6.out.drew.nth 0 rfl, HCE.out⟩
            clear hSt hK K
            try simp only [Act.put, List.setIfInBounds_toArray, List.set_cons_zero, List.set_cons_succ]
            repeat (first | (refine seqW (v := ?_) rfl rfl (by kernel_rfl) ?_ ?_; rotate_left; (focus ((intro x; go_simp); try (with_reducible rfl))); try simp only [Act.put, List.setIfInBounds_toArray, List.set_cons_zero, List.set_cons_succ]) | (refine seqS (v := ?_) rfl rfl (by kernel_rfl) ?_ ?_; rotate_left; (focus (intro x hS; first | (refine (exec_row 36 _ (by rfl) n5 (by rfl) cs _ _ _ hS.1 Try.underlying36 rfl HCL2.out).trans ?_; with_reducible rfl) | (refine (exec_at 36 _ (by rfl) g (k * 19) (by rfl) ce _ hS.2 Try.underlying36 rfl HSE.out).trans ?_; with_reducible rfl) | (go_simp; try (with_reducible rfl)))); try simp only [Act.put, List.setIfInBounds_toArray, List.set_cons_zero, List.set_cons_succ]) | (refine seqX rfl rfl (by kernel_rfl) ?_; try simp only [Act.put, List.setIfInBounds_toArray, List.set_cons_zero, List.set_cons_succ]))
            refine seqL rfl rfl (fun K hK => ?_)
            go_simp
            go_at_call 12
            refine (same_msg (· < w5.heap.size) (· < W.heap.size) A2[k].1 cs ce x6.drew (HM6.out.chg0 (Chg.refl none_ x6).drew) (HW6.out.chg0 (Chg.refl none_ x6).drew)).mono ?_
            rintro z y1 ⟨rfl, hy⟩
            have H7 := Lib.hid (H6.out.drew.chg0 hy)
            have hs7 : (fun y : World => y.heap[n5]? = some (.cells cs.toArray 36 (0, 0)) ∧ ∀ (j : Nat) (u : Value), ce[j]? = some u → y.cell? ⟨g, k * 19 + j, none⟩ = some u) y1 := ⟨H7.out.nth 0 rfl, fun j u hu => hy.cell (p := ⟨g, k * 19 + j, none⟩) (HCE.out j u hu) (fun h => h)⟩
            have HS7 := Lib.hid hs7
            clear hy hs7
            go_wp2_with fail
            refine hK.out _ _ anyW.i ?_ (fun _ hSt => ?_)
            · exact HS7.out
            clear hSt hK K
            try simp only [Act.put, List.setIfInBounds_toArray, List.set_cons_zero, List.set_cons_succ]
            repeat (first | (refine seqW (v := ?_) rfl rfl (by kernel_rfl) ?_ ?_; rotate_left; (focus ((intro x; go_simp); try (with_reducible rfl))); try simp only [Act.put, List.setIfInBounds_toArray, List.set_cons_zero, List.set_cons_succ]) | (refine seqS (v := ?_) rfl rfl (by kernel_rfl) ?_ ?_; rotate_left; (focus (intro x hS; first | (refine (exec_row 36 _ (by rfl) n5 (by rfl) cs _ _ _ hS.1 Try.underlying36 rfl HCL2.out).trans ?_; with_reducible rfl) | (refine (exec_at 36 _ (by rfl) g (k * 19) (by rfl) ce _ hS.2 Try.underlying36 rfl HSE.out).trans ?_; with_reducible rfl) | (go_simp; try (with_reducible rfl)))); try simp only [Act.put, List.setIfInBounds_toArray, List.set_cons_zero, List.set_cons_succ]) | (refine seqX rfl rfl (by kernel_rfl) ?_; try simp only [Act.put, List.setIfInBounds_toArray, List.set_cons_zero, List.set_cons_succ]))
            refine seqE ?_
            go_wp2_with fail
            go_roundw
            case rel => exact ⟨i + 1, A2, some ⟨g, 0, none⟩, wn2, wc2, by have := HLT.out; omega, by have := H50.out; omega, by go_num, rfl, HWN2, Lib.hid (HWO2.out.mono (by omega)), H7.out.tail⟩
            case measure => simp [intOf]; have := H50.out; omega
          · go_wp2_with fail
            have ht := netD_at_no at_ (by rw [List.length_map, HWN2.out]; exact hin) HC2.out
            refine ht.mono ?_
            clear ht
            rintro z w5 ⟨rfl, h⟩
            obtain ⟨cs, hcs⟩ : ∃ c, c = zeroMsg := ⟨_, rfl⟩
            rw [← hcs]
            have hone : cs.toArray.all (·.oneCell') = true := by rw [hcs]; simp [zeroMsg, Value.oneCell']
            have hcl : (Try.prog.info? 36).map (·.size) = some cs.toArray.size := by rw [hcs]; exact size19n
            have hcz : (#[.int .i64 0, .int .i64 0, .int .i64 0, .int .i64 0, .int .i64 0, .int .i64 0, .int .i64 0, .slice none 0 0, .int .i64 0, .slice none 0 0, .slice none 0 0, .int .i64 0, .int .i64 0, .slice none 0 0, .int .i64 0, .int .u64 0, .int .u64 0, .int .i64 0, .slice none 0 0] : Array Value).size = cs.toArray.size := by rw [hcs]; rfl
            obtain ⟨n5, x5, EN5, EX5, ES5, H5⟩ := h.box (.cells #[.int .i64 0, .int .i64 0, .int .i64 0, .int .i64 0, .int .i64 0, .int .i64 0, .int .i64 0, .slice none 0 0, .int .i64 0, .slice none 0 0, .slice none 0 0, .int .i64 0, .int .i64 0, .slice none 0 0, .int .i64 0, .int .u64 0, .int .u64 0, .int .i64 0, .slice none 0 0] 36 (0, 0))
            have hb5 : x5.heap[n5]? = some (.cells #[.int .i64 0, .int .i64 0, .int .i64 0, .int .i64 0, .int .i64 0, .int .i64 0, .int .i64 0, .slice none 0 0, .int .i64 0, .slice none 0 0, .slice none 0 0, .int .i64 0, .int .i64 0, .slice none 0 0, .int .i64 0, .int .u64 0, .int .u64 0, .int .i64 0, .slice none 0 0] 36 (0, 0)) := H5.out.nth 0 rfl
            obtain ⟨x6, hx6⟩ : ∃ x, x = x5.setRow n5 cs.toArray := ⟨_, rfl⟩
            have h6 : Sys x6 (fun _ => emp) (blk n5 (.cells cs.toArray 36 (0, 0)) :: netT p (A2.map (·.1)) :: base W :: [own 36 19 (.slice wa2 wn2 wc2) wn2 (flatM A2)]) := by
              rw [hx6]
              exact H5.out.store ((Chg.refl (· = n5) x5).row cs.toArray) (setRow_heap _ _ _ _ _ _ hb5)
            have HX6 := Lib.hid hx6
            have H6 := Lib.hid h6
            have HB5 := Lib.hid hb5
            clear h h6 hx6 hb5 hcs
            have hlen2 : (A2.map (·.1)).length = wn2 := by rw [List.length_map]; exact HWN2.out
            have HLEN2 := Lib.hid hlen2
            have HIN := Lib.hid hin
            clear hlen2 hin
            go_upto_region 31 with (rw [EX5.out, EN5.out]; refine wpList_store_row rfl 36 _ _ rfl n5 cs.toArray rfl rfl _ _ HB5.out hcl hcz hone ?_; rw [← HX6.out])
            go_cut [9] from 18 to 166 (fun bv wx => bv = .bool false ∧ Sys wx (fun _ => emp) (netT p (A2.map (·.1)) :: base W :: [own 36 19 (.slice wa2 wn2 wc2) wn2 (flatM A2)]))
            case first =>
              by_cases h0 : 0 ≤ at_
              · have hg : at_ ≥ 0 := h0
                have h1 : ¬ (at_ < (wn2 : Int)) := fun h => HIN.out ⟨h0, h⟩
                go_wp2_with fail
                go_meet
                case rel => exact ⟨rfl, H6.out.tail⟩
              · have hg : ¬ (at_ ≥ 0) := h0
                go_wp2_with fail
                go_meet
                case rel => exact ⟨rfl, H6.out.tail⟩
            case rest =>
              obtain ⟨rfl, hR8⟩ := hcut
              have H8 := Lib.hid hR8
              clear hR8 H6
              go_upto_region 32 with fail
              refine wp_region_seq anyW anyW [] [(0, 0, some 145), (2, 0, some 147), (3, 0, some 148), (1, 2, some 146), (4, 0, some 149), (5, 0, some 150), (6, 0, some 151), (7, 0, some 152), (8, 0, some 153), (9, 0, some 154), (10, 0, some 155), (11, 0, some 156), (12, 0, some 157), (13, 4, some 158), (14, 4, some 159), (15, 4, some 160), (16, 4, some 161), (17, 4, some 162), (18, 4, some 163), (19, 4, some 164), (20, 0, some 165), (21, 0, some 166)] (by kernel_rfl) (by kernel_rfl) (fun _ _ _ d _ h => by cases d <;> exact h) anyW.i anyW.i ?_
              repeat (first | (refine seqW (v := ?_) rfl rfl (by kernel_rfl) ?_ ?_; rotate_left; (focus ((intro x; go_simp); try (with_reducible rfl))); try simp only [Act.put, List.setIfInBounds_toArray, List.set_cons_zero, List.set_cons_succ]) | (refine seqS (v := ?_) rfl rfl (by kernel_rfl) ?_ ?_; rotate_left; (focus (intro x hS; first | (go_simp; try (with_reducible rfl)))); try simp only [Act.put, List.setIfInBounds_toArray, List.set_cons_zero, List.set_cons_succ]) | (refine seqX rfl rfl (by kernel_rfl) ?_; try simp only [Act.put, List.setIfInBounds_toArray, List.set_cons_zero, List.set_cons_succ]))
              refine seqL rfl rfl (fun K hK => ?_)
              go_simp
              go_at_call 18
              refine (netD_len (H8.out.drew)).mono ?_
              rintro z y1 ⟨rfl, rfl⟩
              rw [HLEN2.out]
              go_wp2_with fail
              refine hK.out _ _ anyW.i ?_ (fun _ hSt => ?_)
              · exact anyW.i
              clear hSt hK K
              try simp only [Act.put, List.setIfInBounds_toArray, List.set_cons_zero, List.set_cons_succ]
              repeat (first | (refine seqW (v := ?_) rfl rfl (by kernel_rfl) ?_ ?_; rotate_left; (focus ((intro x; go_simp); try (with_reducible rfl))); try simp only [Act.put, List.setIfInBounds_toArray, List.set_cons_zero, List.set_cons_succ]) | (refine seqS (v := ?_) rfl rfl (by kernel_rfl) ?_ ?_; rotate_left; (focus (intro x hS; first | (go_simp; try (with_reducible rfl)))); try simp only [Act.put, List.setIfInBounds_toArray, List.set_cons_zero, List.set_cons_succ]) | (refine seqX rfl rfl (by kernel_rfl) ?_; try simp only [Act.put, List.setIfInBounds_toArray, List.set_cons_zero, List.set_cons_succ]))
              refine seqE ?_
              go_wp2_with fail
              go_roundw
              case rel => exact ⟨i + 1, A2, wa2, wn2, wc2, by have := HLT.out; omega, by have := H50.out; omega, by go_num, rfl, HWN2, Lib.hid (HWO2.out.mono (by omega)), H8.out.drew⟩
              case measure => simp [intOf]; have := H50.out; omega
    · go_upto_region 6 with fail
      go_cut [25] from 18 to 24 (fun tv wx => tv = .bool false ∧ wx = wr)
      case first =>
        by_cases hlt : i < len1
        · have hil : (i : Int) < (len1 : Int) := by omega
          have hi3 : ¬ ((i : Int) < 50) := by omega
          go_wp2_with fail
          go_meet
          case rel => exact ⟨rfl, rfl⟩
        · have hil : ¬ ((i : Int) < (len1 : Int)) := by omega
          go_wp2_with fail
          go_meet
          case rel => exact ⟨rfl, rfl⟩
      case rest =>
        obtain ⟨rfl, rfl⟩ := hcut
        go_wp2_with fail
        refine (net_awake _).mono ?_
        rintro e y2 ⟨rfl, hB⟩
        have HBE := Lib.hid ((memBaseD (W := W) HR.out (by simp)).trans (hB.mono (memBaseD (W := W) HR.out (by simp)).size))
        clear hB
        go_wp2_with fail
        go_ret
        exact ⟨rfl, HBE.out⟩
end Go.Proofs.Ytcfhkpjheemkgaa.netwPlays
