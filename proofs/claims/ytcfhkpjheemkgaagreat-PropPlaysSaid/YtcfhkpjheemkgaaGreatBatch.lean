/-
  The pool: all of it, and the first ones.
-/
import Derived.Test.YtcfhkpjheemkgaaGreatPoolAdd
import Derived.Test.YtcfhkpjheemkgaaGreatIter2
namespace Go.Proofs.YtcfhkpjheemkgaaGreat
set_option linter.unusedSectionVars false
set_option linter.unnecessarySimpa false
set_option linter.unusedSimpArgs false
set_option linter.unusedVariables false
open Go.RowKit Go.MapKept

def batchN (L : List EnvX) : Nat → List EnvX
  | 0 => []
  | k + 1 => match L.findIdx? (lowB L) with
    | none => []
    | some i => L.getD i default :: batchN (L.eraseIdx i) k
theorem batchN_nil (k : Nat) : batchN [] k = [] := by cases k <;> rfl
theorem min_ex (L : List EnvX) (h : L ≠ []) : ∃ e ∈ L, ∀ x ∈ L, e.nonce ≤ x.nonce := by
  induction L with
  | nil => exact absurd rfl h
  | cons a L ih =>
    by_cases hl : L = []
    · subst hl; exact ⟨a, .head _, fun x hx => by simp at hx; subst hx; exact Int.le_refl _⟩
    · obtain ⟨e, he, hm⟩ := ih hl
      by_cases hc : a.nonce ≤ e.nonce
      · refine ⟨a, .head _, fun x hx => ?_⟩
        rcases List.mem_cons.1 hx with rfl | hx
        · exact Int.le_refl _
        · have := hm x hx; omega
      · refine ⟨e, .tail _ he, fun x hx => ?_⟩
        rcases List.mem_cons.1 hx with rfl | hx
        · omega
        · exact hm x hx
theorem low_ex (L : List EnvX) (h : L ≠ []) : ∃ i, i < L.length ∧ L.findIdx? (lowB L) = some i ∧ idxI (lowB L) L = (i : Int) := by
  obtain ⟨e, he, hm⟩ := min_ex L h
  have hl : lowB L e = true := by
    unfold lowB
    rw [Bool.not_eq_true', List.any_eq_false]
    intro x hx
    unfold lessB
    have := hm x hx
    simp; omega
  cases hf : L.findIdx? (lowB L) with
  | none => rw [List.findIdx?_eq_none_iff] at hf; rw [hf e he] at hl; cases hl
  | some i =>
    have h1 := hf
    rw [List.findIdx?_eq_some_iff_getElem] at h1
    exact ⟨i, h1.1, rfl, by unfold idxI; rw [hf]⟩
theorem flatE_erase (L : List EnvX) (i : Nat) (h : i < L.length) : (flatE L).take (i * 4) ++ (flatE L).drop ((i + 1) * 4) = flatE (L.eraseIdx i) := by
  have h1 := flatE_split L i
  have h2 := flatE_split L (i + 1)
  have l1 : (flatE (L.take i)).length = i * 4 := by rw [flatE_length, List.length_take]; omega
  have l2 : (flatE (L.take (i + 1))).length = (i + 1) * 4 := by rw [flatE_length, List.length_take]; omega
  have e1 : (flatE L).take (i * 4) = flatE (L.take i) := by rw [h1, ← l1, List.take_left]
  have e2 : (flatE L).drop ((i + 1) * 4) = flatE (L.drop (i + 1)) := by rw [h2, ← l2, List.drop_left]
  rw [e1, e2, List.eraseIdx_eq_take_drop_succ]
  unfold flatE
  rw [List.flatMap_append]
section
variable {w w' : World} {m : Nat → Thing} {l r ts : List Thing} {p pp pl n : Nat} {d : Wd} {X : WX} {most : Int} {L : List EnvX} {e x : EnvX}
theorem ints_contains {I : List Int} {sa : Option Addr} {k c : Nat} (x : Int) (hk : I.length = k) (hk2 : k ≤ 1000000) (h : IntsAt w sa I) : Calls Tryz.prog 70 #[.slice sa k c, .int .i64 x] w fun z w' => z = .returned (.bool (decide (x ∈ I))) ∧ w = w' := by
  rcases h with rfl | ⟨b, off, rfl, h⟩
  · obtain rfl : k = 0 := by simpa using hk.symm
    exact (Any.slices_Contains_int_empty Tryz.containsA sa c x w).mono fun z w' ⟨h1, h2⟩ => ⟨by rw [h1]; rfl, h2.symm⟩
  · refine (Any.slices_Contains_int Tryz.containsA b off k c I x w (by omega) (by omega) (fun j hj => h j hj)).mono fun z w' ⟨h1, h2⟩ => ⟨?_, h2.symm⟩
    rw [h1, List.take_of_length_le (by omega)]
    simp
set_option maxRecDepth 100000 in
set_option maxHeartbeats 2000000 in
theorem batch_fun (nsk np : Nat) (I : List Int) (sa : Option Addr) (sk sc : Nat) (hsk : I.length = sk) (hsk2 : sk ≤ 1000000) (hskb : Cap r (fun y => y.heap[nsk]? = some (.cells #[.slice sa sk sc] 32 (0, 0)))) (hski : Cap r (fun y => IntsAt y sa I)) (hnp : Cap r (fun y => y.heap[np]? = some (.cells #[.pointer (some ⟨pp, 0, none⟩)] 30 (0, 0))))
    (hwf : e.wf) (hin : envB e ∈ X.T) (hT : X.T.length ≤ 1000000000) (hm0 : m 0 = worldT p d X) (hm3 : m 3 = poolT pp p most L) (h : Sys w m r) :
    Calls Tryz.prog 75 #[.agg #[.int .i64 e.client, .int .u64 e.nonce, .int .u64 e.fee, .int .i64 e.cipher], .pointer (some ⟨nsk, 0, none⟩), .pointer (some ⟨np, 0, none⟩)] w fun z w' => z = .returned (.bool (decide (dg X.T (envB e) ∈ I))) ∧ Sys w' m r := by
  obtain ⟨ne, x1, EN1, EX1, ES1, H1⟩ := h.box (.cells #[.int .i64 e.client, .int .u64 e.nonce, .int .u64 e.fee, .int .i64 e.cipher] 55 (0, 0))
  have HDG := Lib.hid (world_digest e hwf H1.out.drew hm0 hT)
  change Hid (Calls _ _ #[_, .agg #[.int .i64 e.client, .int .u64 e.nonce, .int .u64 e.fee, .int .i64 e.cipher]] _ _) at HDG
  have HSAME : Hid ({ X with T := addT X.T (envB e) } = X) := by show _ = _; unfold addT; rw [if_pos hin]
  have HM0 := Lib.hid hm0
  have HM3 := Lib.hid hm3
  have HSK := Lib.hid hskb
  have HSI := Lib.hid hski
  have HNP := Lib.hid hnp
  have HSKL := Lib.hid hsk
  have HSKB := Lib.hid hsk2
  clear h hwf hin hT hm0 hm3 hskb hski hnp hsk hsk2
  go_enter Tryz.func75, Tryz.ntmps75
  go_upto_region 1 with fail
  rw [EX1.out, EN1.out]
  refine wp_region_seq (fun x : World => x.heap[ne]? = some (.cells #[.int .i64 e.client, .int .u64 e.nonce, .int .u64 e.fee, .int .i64 e.cipher] 55 (0, 0)) ∧ x.heap[nsk]? = some (.cells #[.slice sa sk sc] 32 (0, 0)) ∧ x.heap[np]? = some (.cells #[.pointer (some ⟨pp, 0, none⟩)] 30 (0, 0)) ∧ x.cell? ⟨pp, 0, none⟩ = some (.pointer (some ⟨p, 0, none⟩))) anyW [] [(0, 1, some 5), (1, 1, some 6), (2, 0, some 7), (3, 0, some 8), (4, 1, some 9), (5, 1, some 10), (6, 2, some 11), (7, 2, some 12), (8, 0, some 4)] (by kernel_rfl) (by kernel_rfl) (fun _ _ _ d _ h => by cases d <;> exact h) ⟨H1.out.drew.nth 0 rfl, HSK.out _ _ H1.out.drew.tail, HNP.out _ _ H1.out.drew.tail, (H1.out.drew.poolCells HM3.out).1⟩ anyW.i ?_
  repeat (first | (refine seqW (v := ?_) rfl rfl (by kernel_rfl) ?_ ?_; rotate_left; (focus ((intro x; go_simp); try (with_reducible rfl))); try simp only [Act.put, List.setIfInBounds_toArray, List.set_cons_zero, List.set_cons_succ]) | (refine seqS (v := ?_) rfl rfl (by kernel_rfl) ?_ ?_; rotate_left; (focus (intro x hS; first | (refine (exec_row 55 _ (by rfl) ne (by rfl) _ _ _ _ hS.1 Tryz.underlying55 rfl size4).trans ?_; with_reducible rfl) | (obtain ⟨hS1, hS2, hS3, hS4⟩ := hS; have s0 := cell_of_blk hS2 0; have p0 := cell_of_blk hS3 0; simp at s0 p0; go_simp; try (with_reducible rfl)))); try simp only [Act.put, List.setIfInBounds_toArray, List.set_cons_zero, List.set_cons_succ]) | (refine seqX rfl rfl (by kernel_rfl) ?_; try simp only [Act.put, List.setIfInBounds_toArray, List.set_cons_zero, List.set_cons_succ]))
  refine seqL rfl rfl (fun K hK => ?_)
  go_simp
  go_at_call 22
  refine (HDG.out).mono ?_
  rintro z z1 ⟨rfl, h⟩
  rw [HSAME.out, upd_self HM0.out] at h
  have H2 := Lib.hid h
  clear h
  refine hK.out _ _ anyW.i ?_ (fun _ hSt => ?_)
  · exact ⟨H2.out.nth 0 rfl, HSK.out _ _ H2.out.tail, HNP.out _ _ H2.out.tail, (H2.out.poolCells HM3.out).1⟩
  clear hSt hK K
  try simp only [Act.put, List.setIfInBounds_toArray, List.set_cons_zero, List.set_cons_succ]
  refine seqL rfl rfl (fun K hK => ?_)
  go_simp
  go_at_call 70
  refine (ints_contains (dg X.T (envB e)) HSKL.out HSKB.out (HSI.out _ _ H2.out.tail)).mono ?_
  rintro z z2 ⟨rfl, rfl⟩
  refine hK.out _ _ anyW.i ?_ (fun _ hSt => ?_)
  · exact ⟨H2.out.nth 0 rfl, HSK.out _ _ H2.out.tail, HNP.out _ _ H2.out.tail, (H2.out.poolCells HM3.out).1⟩
  clear hSt hK K
  try simp only [Act.put, List.setIfInBounds_toArray, List.set_cons_zero, List.set_cons_succ]
  repeat (first | (refine seqW (v := ?_) rfl rfl (by kernel_rfl) ?_ ?_; rotate_left; (focus ((intro x; go_simp); try (with_reducible rfl))); try simp only [Act.put, List.setIfInBounds_toArray, List.set_cons_zero, List.set_cons_succ]) | (refine seqS (v := ?_) rfl rfl (by kernel_rfl) ?_ ?_; rotate_left; (focus (intro x hS; first | (refine (exec_row 55 _ (by rfl) ne (by rfl) _ _ _ _ hS.1 Tryz.underlying55 rfl size4).trans ?_; with_reducible rfl) | (obtain ⟨hS1, hS2, hS3, hS4⟩ := hS; have s0 := cell_of_blk hS2 0; have p0 := cell_of_blk hS3 0; simp at s0 p0; go_simp; try (with_reducible rfl)))); try simp only [Act.put, List.setIfInBounds_toArray, List.set_cons_zero, List.set_cons_succ]) | (refine seqX rfl rfl (by kernel_rfl) ?_; try simp only [Act.put, List.setIfInBounds_toArray, List.set_cons_zero, List.set_cons_succ]))
  refine seqE ?_
  go_wp2_with fail
  go_ret
  exact ⟨rfl, H2.out.tail⟩
theorem enter_batch (zs : Array Value) (x : World) : (callFunc 75 zs).run Tryz.prog x = .ok (.enter 75 zs) x := by kernel_rfl
set_option maxRecDepth 100000 in
set_option maxHeartbeats 1000000 in
theorem pool_all (hL : L.length ≤ 1000000) (h : Sys w m l) (hm : m 3 = poolT pp p most L) :
    Calls Tryz.prog 74 #[.pointer (some ⟨pp, 0, none⟩)] w fun z w' => ∃ v, z = .returned v ∧ Sys w' m (own 55 4 v L.length (flatE L) :: l) := by
  obtain ⟨v, h1⟩ := (h.lift 3 hm).open
  replace h1 : Sys w (upd m 3 emp) (blk pp (.cells #[.pointer (some ⟨p, 0, none⟩), .int .i64 most, v] 86 (0, 0)) :: own 55 4 v L.length (flatE L) :: l) := h1
  obtain ⟨c0, c1, c2⟩ := cells3 (h1.nth 0 rfl)
  have HC := Lib.hid (clone_envs anyK v L w (h1.tail.getOwn.sliceIn hL (fun _ _ => trivial)))
  have H := Lib.hid h
  clear h h1 hm
  go_enter Tryz.func74, Tryz.ntmps74
  go_wp2_with fail
  refine HC.out.mono ?_
  rintro z w1 ⟨v', rfl, ho, hb, hB⟩
  have H2 := Lib.hid (H.out.pushOwn hB ho hb)
  clear ho hb hB HC
  go_wp2_with fail
  go_ret
  exact ⟨v', rfl, H2.out⟩
set_option maxRecDepth 100000 in
set_option maxHeartbeats 8000000 in
theorem pool_batch (num : Int) (I : List Int) (sa : Option Addr) (sk sc : Nat) (hsk : I.length = sk) (hsk2 : sk ≤ 1000000) (hski : Cap l (fun y => IntsAt y sa I)) (hwf : ∀ e ∈ L, e.wf) (hin : ∀ e ∈ L, envB e ∈ X.T) (hL : L.length ≤ 1000000) (hnum : num ≤ 1000000) (hT : X.T.length ≤ 1000000000) (hm0 : m 0 = worldT p d X) (hm3 : m 3 = poolT pp p most L) (h : Sys w m l) :
    Calls Tryz.prog 30 #[.pointer (some ⟨pp, 0, none⟩), .int .i64 num, .slice sa sk sc] w fun z w' => ∃ v, z = .returned v ∧ Sys w' m (own 55 4 v (batchN (L.filter fun e => !(decide (dg X.T (envB e) ∈ I))) num.toNat).length (flatE (batchN (L.filter fun e => !(decide (dg X.T (envB e) ∈ I))) num.toNat)) :: l) := by
  obtain ⟨np, x1, EN1, EX1, ES1, H1⟩ := h.box (.cells #[.pointer (some ⟨pp, 0, none⟩)] 30 (0, 0))
  obtain ⟨nsk, x2, EN2, EX2, ES2, H2⟩ := Sys.box' H1 ES1 (.cells #[.slice sa sk sc] 32 (0, 0))
  have HALL := Lib.hid (pool_all hL H2.out hm3)
  have HF : Hid (∀ e ∈ L, ∀ (j : Nat) w ts m', j < 0 + 2 * L.length → m' = m → Sys w m' (ts ++ (blk nsk (.cells #[.slice sa sk sc] 32 (0, 0)) :: blk np (.cells #[.pointer (some ⟨pp, 0, none⟩)] 30 (0, 0)) :: l)) → Calls Tryz.prog 75 #[.agg #[.int .i64 e.client, .int .u64 e.nonce, .int .u64 e.fee, .int .i64 e.cipher], .pointer (some ⟨nsk, 0, none⟩), .pointer (some ⟨np, 0, none⟩)] w fun z w' => z = .returned (.bool (decide (dg X.T (envB e) ∈ I))) ∧ ∃ m'', m'' = m ∧ Sys w' m'' (ts ++ (blk nsk (.cells #[.slice sa sk sc] 32 (0, 0)) :: blk np (.cells #[.pointer (some ⟨pp, 0, none⟩)] 30 (0, 0)) :: l))) := by
    intro e he j w ts m' _ hm' hs
    subst hm'
    exact (batch_fun nsk np I sa sk sc hsk hsk2 (Cap.app fun y m' hs => hs.getBlk) (Cap.app (hski.push.push)) (Cap.app fun y m' hs => hs.tail.getBlk) (hwf e he) (hin e he) hT hm0 hm3 hs).mono fun z w' ⟨h1, h2⟩ => ⟨h1, m', rfl, h2⟩
  have HL := Lib.hid hL
  have HNUM := Lib.hid hnum
  obtain ⟨c0⟩ := And.intro (cell_of_blk (H2.out.nth 1 rfl) 0) trivial
  simp at c0
  clear h hsk hsk2 hski hwf hin hL hnum hT hm0 hm3
  go_enter Tryz.func30, Tryz.ntmps30
  go_upto_region 1 with fail
  rw [EX1.out, EX2.out, EN2.out, EN1.out]
  go_wp2_with fail
  refine HALL.out.mono ?_
  rintro z z1 ⟨v, rfl, h⟩
  obtain ⟨va, k, vc, rfl, hk⟩ := h.getOwn.slice
  obtain rfl := hk.out
  have HDF := Lib.hid (env_delfunc2 75 enter_batch (.pointer (some ⟨nsk, 0, none⟩)) (.pointer (some ⟨np, 0, none⟩)) (fun e => decide (dg X.T (envB e) ∈ I)) L va vc L.length rfl HL.out (fun _ m' => m' = m) 0 HF.out rfl h)
  clear h HALL hk c0 HF
  go_wp2_with fail
  refine HDF.out.mono ?_
  rintro z z2 ⟨rfl, _, m', _, rfl, h⟩
  obtain ⟨L1, hL1⟩ : ∃ L1, L1 = L.filter fun e => !(decide (dg X.T (envB e) ∈ I)) := ⟨_, rfl⟩
  have HL1 : Hid (L1.length ≤ 1000000) := by
    show _ ≤ _
    rw [hL1]
    exact Nat.le_trans (List.length_filter_le _ _) HL.out
  have h2 : Sys z2 m' (own 55 4 (.slice va L1.length vc) L1.length (flatE L1) :: own 55 4 (.slice none 0 0) ([] : List EnvX).length (flatE []) :: blk nsk (.cells #[.slice sa sk sc] 32 (0, 0)) :: blk np (.cells #[.pointer (some ⟨pp, 0, none⟩)] 30 (0, 0)) :: l) := by
    rw [hL1]
    exact (h.push (F := fun _ => False) (t := own 55 4 (.slice none 0 0) 0 []) (Chg.refl _ _) ⟨Own.nil _ _ _, by funext k; simp [Value.ownBlock]⟩ (fun _ h => h.elim)).swap
  have H3 := Lib.hid h2
  rw [← hL1]
  have HLE1 := Lib.hid hL1
  clear h h2 hL1 HDF
  go_wp2_with fail
  go_loopw [7, 8] (fun lv ov wr => ∃ (Lc O : List EnvX) (a : Option Addr) (cap : Nat), lv = .slice a Lc.length cap ∧ Hid (O ++ batchN Lc (num.toNat - O.length) = batchN L1 num.toNat ∧ Lc.length ≤ 1000000) ∧ Sys wr m' (own 55 4 lv Lc.length (flatE Lc) :: own 55 4 ov O.length (flatE O) :: blk nsk (.cells #[.slice sa sk sc] 32 (0, 0)) :: blk np (.cells #[.pointer (some ⟨pp, 0, none⟩)] 30 (0, 0)) :: l)) (fun lv _ _ => match lv with | .slice _ k _ => k | _ => 0)
  case atStart => exact ⟨L1, [], va, vc, rfl, ⟨by simp, HL1.out⟩, H3.out⟩
  case round =>
    obtain ⟨Lc, O, a, cap, rfl, HI, hR⟩ := hrel
    obtain ⟨oa, ok, oc, rfl, hok⟩ := hR.tail.getOwn.slice
    obtain rfl := hok.out
    by_cases h1 : (O.length : Int) < num
    · by_cases h2 : Lc = []
      · subst h2
        have HE : Hid (O = batchN L1 num.toNat) := by
          have := HI.out.1
          rw [batchN_nil, List.append_nil] at this
          exact this
        have H9 := Lib.hid hR.tail
        clear hR hok
        go_wp2_with fail
        go_ret
        exact ⟨_, rfl, by rw [← HLE1.out, ← HE.out]; exact H9.out.swap.tail.swap.tail⟩
      · obtain ⟨i, hi, hf, hx⟩ := low_ex Lc h2
        have hpos : 0 < Lc.length := by omega
        have hdp : decide (0 < (Lc.length : Int)) = true := by simp; omega
        have HFI := Lib.hid (pool_first a cap Lc.length rfl HI.out.2 (fun y m' hs => hs.getOwn.envsAt) hR)
        rw [hx] at HFI
        obtain ⟨g, rfl⟩ : ∃ g, a = some ⟨g, 0, none⟩ := by
          obtain ⟨_, _, e, hnc, hcm, hxl, ha⟩ := hR.getOwn.open
          cases e
          rcases ha with ⟨_, h0, _⟩ | ⟨g, cs, rfl, hg, hcs, ht⟩
          · omega
          · exact ⟨g, rfl⟩
        have hil : (i : Int) < (Lc.length : Int) := by omega
        have hiw : IntKind.i64.wrap ((i : Int) + 1) = (i : Int) + 1 := by rw [IntKind.wrap_i64]; have := HI.out.2; omega
        have HILT := Lib.hid hi
        have HFD := Lib.hid hf
        have HON : Hid (O.length < 1000000) := by show _ < _; have := HNUM.out; omega
        have HLT : Hid (O.length < num.toNat) := by show _ < _; omega
        obtain ⟨x, hxx⟩ : ∃ x, x = Lc.getD i default := ⟨_, rfl⟩
        have HXX := Lib.hid hxx
        clear hR hok h2 hi hf hx hpos hxx
        go_wp2_with fail
        refine HFI.out.mono ?_
        rintro z z3 ⟨rfl, h⟩
        have HCE : Hid (∀ (c : Nat) (u : Value), ([.int .i64 x.client, .int .u64 x.nonce, .int .u64 x.fee, .int .i64 x.cipher] : List Value)[c]? = some u → z3.cell? ⟨g, i * 4 + c, none⟩ = some u) := fun c u hu => (h.getOwn.at_ _ _ (flatE_cells Lc i HILT.out c u (by rw [← HXX.out]; exact hu))).1
        have h4 := h.alloc (.cells #[.int .i64 x.client, .int .u64 x.nonce, .int .u64 x.fee, .int .i64 x.cipher] 55 (0, 0)) rfl
        obtain ⟨v5, z5, hap, h5⟩ := (h4.front 2 rfl).appEnvs (k := 1) (some ⟨z3.heap.size, 0, none⟩) 1 [x] rfl (EnvsAt.one h4.getBlk) (by have := HON.out; omega) 39
        have h6 := h5.front 2 rfl
        have HD := Lib.hid (env_delete g Lc.length cap i (flatE Lc) z5 h6.getOwn HILT.out HI.out.2 (flatE_one Lc))
        rw [flatE_erase Lc i HILT.out] at HD
        have HLE : Hid ((Lc.eraseIdx i).length = Lc.length - 1) := List.length_eraseIdx_of_lt HILT.out
        rw [← HLE.out] at HD
        have H6 := Lib.hid h6
        clear h h4 h5 h6 HFI
        go_upto_region 6 with (first
          | (refine wpList_load_at rfl 55 _ rfl g (i * 4) rfl [.int .i64 x.client, .int .u64 x.nonce, .int .u64 x.fee, .int .i64 x.cipher] _ HCE.out Tryz.underlying55 rfl size4 ?_)
          | (at_builtin; refine wpl_append rfl _ _ _ rfl rfl rfl hap ?_))
        clear hap
        go_wp2_with fail
        refine HD.out.mono ?_
        rintro z z7 ⟨rfl, ho, hc⟩
        have h8 := H6.out.ownTo ho hc.own (.inl rfl)
        have HI2 : Hid ((O ++ [x]) ++ batchN (Lc.eraseIdx i) (num.toNat - (O ++ [x]).length) = batchN L1 num.toNat ∧ (Lc.eraseIdx i).length ≤ 1000000) := by
          refine ⟨?_, by rw [HLE.out]; have := HI.out.2; omega⟩
          have h1 := HI.out.1
          obtain ⟨q, hq⟩ : ∃ q, num.toNat - O.length = q + 1 := ⟨num.toNat - O.length - 1, by have := HLT.out; omega⟩
          rw [hq, batchN, HFD.out] at h1
          rw [List.length_append, show num.toNat - (O.length + [x].length) = q by simp; omega, List.append_assoc, HXX.out]
          exact h1
        have H8 : Hid (Sys z7 m' (own 55 4 (.slice (some ⟨g, 0, none⟩) (Lc.eraseIdx i).length cap) (Lc.eraseIdx i).length (flatE (Lc.eraseIdx i)) :: own 55 4 v5 (O ++ [x]).length (flatE (O ++ [x])) :: blk nsk (.cells #[.slice sa sk sc] 32 (0, 0)) :: blk np (.cells #[.pointer (some ⟨pp, 0, none⟩)] 30 (0, 0)) :: l)) := by
          show Sys _ _ _
          rw [List.length_append]
          exact ((h8.front 2 rfl).tail)
        have HMS : Hid ((Lc.eraseIdx i).length < Lc.length) := by have := HLE.out; have := HILT.out; show _ < _; omega
        clear h8 ho hc HD
        go_wp2_with fail
        go_roundw
        case rel => exact ⟨Lc.eraseIdx i, O ++ [x], _, cap, rfl, HI2.out, H8.out⟩
        case measure => simp; exact HMS.out
    · have HE : Hid (O = batchN L1 num.toNat) := by
        have := HI.out.1
        rw [show num.toNat - O.length = 0 by omega] at this
        show _ = _
        simpa [batchN] using this
      have H9 := Lib.hid hR.tail
      clear hR hok
      go_wp2_with fail
      go_ret
      exact ⟨_, rfl, by rw [← HLE1.out, ← HE.out]; exact H9.out.swap.tail.swap.tail⟩
end
end Go.Proofs.YtcfhkpjheemkgaaGreat
