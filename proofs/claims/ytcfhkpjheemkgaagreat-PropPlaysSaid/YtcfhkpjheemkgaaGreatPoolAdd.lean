/-
  The fees of a client in the pool; Add where there is room.
-/
import Derived.Test.YtcfhkpjheemkgaaGreatPool
namespace Go.Proofs.YtcfhkpjheemkgaaGreat
set_option linter.unusedSectionVars false
set_option linter.unnecessarySimpa false
set_option linter.unusedSimpArgs false
set_option linter.unusedVariables false
open Go.RowKit Go.MapKept

section
variable {w w' : World} {m : Nat → Thing} {l r : List Thing} {p pp pl n : Nat} {d : Wd} {X : WX} {most : Int} {L : List EnvX} {e x : EnvX} {F : List Int}
theorem sum_take (F : List Int) (i : Nat) (h : i < F.length) : (F.take (i + 1)).sum = (F.take i).sum + F.getD i 0 := by
  rw [List.take_succ_eq_append_getElem h, List.sum_append, List.getD_eq_getElem?_getD, List.getElem?_eq_getElem h]; simp
theorem sum_nonneg (F : List Int) (h : ∀ a ∈ F, 0 ≤ a) : 0 ≤ F.sum := by
  induction F with
  | nil => simp
  | cons a F ih => simp only [List.sum_cons]; have := h a (.head _); have := ih fun b hb => h b (.tail _ hb); omega
theorem sum_take_le (F : List Int) (h : ∀ a ∈ F, 0 ≤ a) (i : Nat) : 0 ≤ (F.take i).sum ∧ (F.take i).sum ≤ F.sum := by
  have h1 : F.sum = (F.take i).sum + (F.drop i).sum := by rw [← List.sum_append, List.take_append_drop]
  have h2 := sum_nonneg (F.take i) fun a ha => h a (List.mem_of_mem_take ha)
  have h3 := sum_nonneg (F.drop i) fun a ha => h a (List.mem_of_mem_drop ha)
  omega
set_option maxRecDepth 100000 in
set_option maxHeartbeats 1000000 in
theorem chk_sum (v : Value) (k : Nat) (hF : ∀ a ∈ F, 0 ≤ a) (hs : F.sum < 18446744073709551616) (hk : F.length = k) (hkl : k ≤ 1000001) (h : Sys w m (own 53 1 v k (F.map (Value.int .u64)) :: l)) :
    Calls Tryz.prog 90 #[v] w fun z w' => z = .returned (.tuple #[.int .u64 F.sum, .bool true]) ∧ w = w' := by
  obtain ⟨va, k', vc, rfl, hk'⟩ := h.getOwn.slice
  obtain rfl := hk'.out
  have HC : Hid (∀ j, j < k' → ∃ g, va = some ⟨g, 0, none⟩ ∧ w.cell? ⟨g, j, none⟩ = some (.int .u64 (F.getD j 0))) := by
    intro j hj
    obtain ⟨_, _, e, hnc, hcm, hxl, ha⟩ := h.getOwn.open
    cases e
    rcases ha with ⟨_, h0, _⟩ | ⟨g, cs, rfl, hg, hcs, ht⟩
    · omega
    · refine ⟨g, rfl, (h.getOwn.at_ j _ ?_).1⟩
      rw [List.getElem?_map, List.getElem?_eq_getElem (by omega), List.getD_eq_getElem?_getD, List.getElem?_eq_getElem (by omega)]; rfl
  have HF := Lib.hid hF
  have HS := Lib.hid hs
  have HK := Lib.hid hk
  clear h hk' hF hs hk
  go_enter Tryz.func90, Tryz.ntmps90
  go_wp2_with fail
  go_loop [4, 10] (fun t i => ∃ j : Nat, j ≤ k' ∧ i = .int .i64 j ∧ t = .int .u64 ((F.take j).sum)) (fun _ i => k' - (intOf i).toNat)
  case atStart => exact ⟨0, by omega, rfl, rfl⟩
  case round =>
    obtain ⟨j, hj, rfl, rfl⟩ := hrel
    by_cases hlt : j < k'
    · have hjl : (j : Int) < (k' : Int) := by omega
      have hjw : IntKind.i64.wrap ((j : Int) + 1) = (j : Int) + 1 := by rw [IntKind.wrap_i64]; omega
      obtain ⟨g, rfl, hc⟩ := HC.out j hlt
      have hjF : j < F.length := by rw [HK.out]; exact hlt
      obtain ⟨a, ha⟩ : ∃ a, a = F.getD j 0 := ⟨_, rfl⟩
      obtain ⟨s, hs⟩ : ∃ s, s = (F.take j).sum := ⟨_, rfl⟩
      have h1 := sum_take_le F HF.out (j + 1)
      have h2 := sum_take_le F HF.out j
      have h3 := sum_take F j hjF
      rw [← ha, ← hs] at h3
      rw [← hs] at h2
      have ha0 : 0 ≤ a := by rw [ha, List.getD_eq_getElem?_getD, List.getElem?_eq_getElem hjF]; exact HF.out _ (List.getElem_mem hjF)
      rw [← ha] at hc
      rw [← hs]
      have HA := Lib.hid (chk_add s a h2.1 ha0 (by have := HS.out; omega) w)
      have H3 := Lib.hid h3
      clear h1 h2 h3 ha hs hjF ha0
      go_wp2_with fail
      refine HA.out.mono ?_
      rintro z w1 ⟨rfl, rfl⟩
      go_wp2_with fail
      go_round
      case rel => exact ⟨j + 1, by omega, by go_num, by rw [H3.out]⟩
      case measure => simp [intOf]; omega
    · obtain rfl : j = k' := by omega
      have HT : Hid ((F.take j).sum = F.sum) := by show _ = _; rw [List.take_of_length_le (by rw [HK.out]; exact Nat.le_refl _)]
      rw [HT.out]
      go_wp2_with fail
      go_ret2
      exact ⟨rfl, rfl⟩
theorem Sys.appU64 {v : Value} (h : Sys w m (own 53 1 v n (F.map (Value.int .u64)) :: l)) (b : Nat) (a : Int) (hb : w.heap[b]? = some (.cells #[.int .u64 a] 53 (0, 0))) (hn : n ≤ 10000000) (ty : TypeId) :
    ∃ v' w', (Builtin.append_ #[105, 105] ty #[v, .slice (some ⟨b, 0, none⟩) 1 1]).run Tryz.prog w = .ok v' w' ∧ Sys w' m (own 53 1 v' (n + 1) ((F ++ [a]).map (Value.int .u64)) :: l) := by
  obtain ⟨i, hi, hz, hs1, hby⟩ := info_parts' (P := Tryz.prog) (e := 53) (z := some (.int .u64 0)) (s := 1) (b := 8) (by kernel_rfl)
  rw [List.map_append]
  refine h.appendRow (P := Tryz.prog) Tryz.underlying105 hi hz hs1 hby rfl (by decide) ⟨b, 0, none⟩ 1 1 [.int .u64 a] rfl (fun j u hu => ?_) (fun u hu => ?_) (by omega) (by unfold maxLen; omega) ty
  · cases j with
    | zero => simp at hu; subst hu; rw [addr_add, cell_of_blk hb]; rfl
    | succ j => simp at hu
  · simp at hu; subst hu; rfl
def feesL (e : EnvX) (L : List EnvX) : List Int := e.fee :: (L.filter fun x => decide (x.client = e.client)).map (·.fee)
theorem feesL_take (e : EnvX) (L : List EnvX) (j : Nat) (h : j < L.length) : feesL e (L.take (j + 1)) = feesL e (L.take j) ++ (if (L.getD j default).client = e.client then [(L.getD j default).fee] else []) := by
  unfold feesL
  rw [List.take_succ_eq_append_getElem h, List.filter_append, List.map_append, List.getD_eq_getElem?_getD, List.getElem?_eq_getElem h]
  simp only [Option.getD_some, List.filter_cons, List.filter_nil, List.cons_append]
  by_cases hc : L[j].client = e.client <;> simp [hc]
theorem feesL_len (e : EnvX) (L : List EnvX) : (feesL e L).length ≤ L.length + 1 := by
  unfold feesL
  simp only [List.length_cons, List.length_map]
  have := List.length_filter_le (fun x : EnvX => decide (x.client = e.client)) L
  omega
set_option maxRecDepth 100000 in
set_option maxHeartbeats 4000000 in
theorem pool_fees (hL : L.length ≤ 1000000) (hF : ∀ a ∈ feesL e L, 0 ≤ a) (hsum : (feesL e L).sum < 18446744073709551616) (h : Sys w m l) (hm : m 3 = poolT pp p most L) :
    Calls Tryz.prog 55 #[.pointer (some ⟨pp, 0, none⟩), .agg #[.int .i64 e.client, .int .u64 e.nonce, .int .u64 e.fee, .int .i64 e.cipher]] w fun z w' => z = .returned (.tuple #[.int .u64 (feesL e L).sum, .bool true]) ∧ Sys w' m l := by
  obtain ⟨ne, x1, EN1, EX1, ES1, H1⟩ := h.box (.cells #[.int .i64 e.client, .int .u64 e.nonce, .int .u64 e.fee, .int .i64 e.cipher] 55 (0, 0))
  obtain ⟨v, h1⟩ := (H1.out.lift 3 hm).open
  replace h1 : Sys x1 (upd m 3 emp) (blk pp (.cells #[.pointer (some ⟨p, 0, none⟩), .int .i64 most, v] 86 (0, 0)) :: own 55 4 v L.length (flatE L) :: blk ne (.cells #[.int .i64 e.client, .int .u64 e.nonce, .int .u64 e.fee, .int .i64 e.cipher] 55 (0, 0)) :: l) := h1
  obtain ⟨va, k, vc, rfl, hk⟩ := h1.tail.getOwn.slice
  obtain rfl := hk.out
  obtain ⟨nf, x2, EN2, EX2, ES2, H2⟩ := h1.box (.cells #[.int .u64 e.fee] 53 (0, 0))
  have H3 : Hid (Sys x2 (upd m 3 emp) (own 53 1 (.slice (some ⟨nf, 0, none⟩) 1 1) 1 ((feesL e []).map (Value.int .u64)) :: blk pp (.cells #[.pointer (some ⟨p, 0, none⟩), .int .i64 most, .slice va L.length vc] 86 (0, 0)) :: own 55 4 (.slice va L.length vc) L.length (flatE L) :: blk ne (.cells #[.int .i64 e.client, .int .u64 e.nonce, .int .u64 e.fee, .int .i64 e.cipher] 55 (0, 0)) :: l)) := H2.out.blkOwn rfl (by decide)
  obtain ⟨e0, e1, e2, e3⟩ := cells4 (h1.nth 2 rfl)
  have HM := Lib.hid hm
  have HFF := Lib.hid hF
  have HSS := Lib.hid hsum
  clear h h1 hk hm hF hsum
  go_enter Tryz.func55, Tryz.ntmps55
  go_upto_region 1 with fail
  rw [EX1.out, EN1.out]
  go_upto_region 2 with fail
  rw [EX2.out, EN2.out]
  clear e0 e1 e2 e3
  obtain ⟨c0, c1, c2⟩ := cells3 (H3.out.nth 1 rfl)
  go_wp2_with fail
  clear c0 c1 c2
  go_loopw [6, 17] (fun t i wr => ∃ j : Nat, j ≤ L.length ∧ i = .int .i64 j ∧ Sys wr (upd m 3 emp) (own 53 1 t (feesL e (L.take j)).length ((feesL e (L.take j)).map (Value.int .u64)) :: blk pp (.cells #[.pointer (some ⟨p, 0, none⟩), .int .i64 most, .slice va L.length vc] 86 (0, 0)) :: own 55 4 (.slice va L.length vc) L.length (flatE L) :: blk ne (.cells #[.int .i64 e.client, .int .u64 e.nonce, .int .u64 e.fee, .int .i64 e.cipher] 55 (0, 0)) :: l)) (fun _ i _ => L.length - (intOf i).toNat)
  case atStart => exact ⟨0, by omega, rfl, H3.out⟩
  case round =>
    obtain ⟨j, hj, rfl, hR⟩ := hrel
    by_cases hlt : j < L.length
    · have hjl : (j : Int) < (L.length : Int) := by omega
      have hjw : IntKind.i64.wrap ((j : Int) + 1) = (j : Int) + 1 := by rw [IntKind.wrap_i64]; omega
      have hat := hR.tail.tail.getOwn.envsAt
      obtain ⟨xb, xo, rfl⟩ := hat.some_ hlt
      have hce := hat.get hlt
      obtain ⟨x, hx⟩ : ∃ x, x = L.getD j default := ⟨_, rfl⟩
      rw [← hx] at hce
      have HCE : Hid (∀ (k : Nat) (u : Value), ([.int .i64 x.client, .int .u64 x.nonce, .int .u64 x.fee, .int .i64 x.cipher] : List Value)[k]? = some u → wr.cell? ⟨xb, xo + j * 4 + k, none⟩ = some u) := hce
      have HTK := Lib.hid (feesL_take e L j hlt)
      rw [← hx] at HTK
      have HLN : Hid ((feesL e (L.take j)).length ≤ 1000001) := by
        have := feesL_len e (L.take j)
        have : (L.take j).length ≤ L.length := by rw [List.length_take]; omega
        show _ ≤ _
        omega
      obtain ⟨nx, y1, EN3, EX3, ES3, H4⟩ := hR.box (.cells #[.int .i64 x.client, .int .u64 x.nonce, .int .u64 x.fee, .int .i64 x.cipher] 55 (0, 0))
      clear hat hce hx hR
      go_upto_region 5 with (refine wpList_load_at rfl 55 _ rfl xb (xo + j * 4) rfl [.int .i64 x.client, .int .u64 x.nonce, .int .u64 x.fee, .int .i64 x.cipher] _ HCE.out Tryz.underlying55 rfl size4 ?_)
      rw [EX3.out, EN3.out]
      obtain ⟨f0, f1, f2, f3⟩ := cells4 (H4.out.nth 0 rfl)
      obtain ⟨e0, e1, e2, e3⟩ := cells4 (H4.out.nth 4 rfl)
      by_cases hc : x.client = e.client
      · have d1 : (x.client == e.client) = true := by simpa using hc
        have hs4 := (H4.out.swap.alloc (.cells #[.int .u64 x.fee] 53 (0, 0)) rfl)
        obtain ⟨v5, y2, hap, hs5⟩ := hs4.swap.appU64 (y1.heap.size) x.fee hs4.getBlk (by have := HLN.out; omega) 105
        have HD : Hid (feesL e (L.take (j + 1)) = feesL e (L.take j) ++ [x.fee]) := by show _ = _; rw [HTK.out, if_pos hc]
        have H5 : Hid (Sys y2 (upd m 3 emp) (own 53 1 v5 (feesL e (L.take (j + 1))).length ((feesL e (L.take (j + 1))).map (Value.int .u64)) :: blk pp (.cells #[.pointer (some ⟨p, 0, none⟩), .int .i64 most, .slice (some ⟨xb, xo, none⟩) L.length vc] 86 (0, 0)) :: own 55 4 (.slice (some ⟨xb, xo, none⟩) L.length vc) L.length (flatE L) :: blk ne (.cells #[.int .i64 e.client, .int .u64 e.nonce, .int .u64 e.fee, .int .i64 e.cipher] 55 (0, 0)) :: l)) := by
          rw [HD.out, List.length_append]
          exact hs5.swap.tail.swap.tail
        clear hc hs4 hs5
        go_wp2_with (at_builtin; refine wpl_append rfl _ _ _ rfl rfl rfl hap ?_)
        go_roundw
        case rel => exact ⟨j + 1, by omega, by go_num, H5.out⟩
        case measure => simp [intOf]; omega
      · have d1 : (x.client == e.client) = false := by simpa using hc
        have HD : Hid (feesL e (L.take (j + 1)) = feesL e (L.take j)) := by show _ = _; rw [HTK.out, if_neg hc, List.append_nil]
        clear hc
        go_wp2_with fail
        go_roundw
        case rel => exact ⟨j + 1, by omega, by go_num, by rw [HD.out]; exact H4.out.tail⟩
        case measure => simp [intOf]; omega
    · obtain rfl : j = L.length := by omega
      rw [List.take_of_length_le (Nat.le_refl _)] at hR
      have HR := Lib.hid hR
      have HCS := Lib.hid (chk_sum _ _ HFF.out HSS.out rfl (by have := feesL_len e L; omega) hR)
      clear hR
      go_wp2_with fail
      refine HCS.out.mono ?_
      rintro z y1 ⟨rfl, rfl⟩
      have H9 := Lib.hid (Sys.put 3 (Sys.close (f := poolF pp p most L) (.slice va L.length vc) HR.out.tail))
      clear HCS
      go_wp2_with fail
      go_ret2
      refine ⟨rfl, ?_⟩
      have h := H9.out.tail
      rwa [show ex (poolF pp p most L) = poolT pp p most L from rfl, upd_self HM.out] at h
theorem EnvsAt.one {b : Nat} {t : TypeId} {fr : Nat × Nat} (hb : w.heap[b]? = some (.cells #[.int .i64 e.client, .int .u64 e.nonce, .int .u64 e.fee, .int .i64 e.cipher] t fr)) : EnvsAt w (some ⟨b, 0, none⟩) [e] :=
  .inr ⟨b, 0, rfl, fun i hi j u hu => by
    obtain rfl : i = 0 := by simpa using hi
    simp only [Nat.zero_mul, Nat.zero_add]
    rw [cell_of_blk hb]
    simpa [EnvX.cells] using hu⟩
theorem Sys.poolCells (h : Sys w m l) (hm : m 3 = poolT pp p most L) : w.cell? ⟨pp, 0, none⟩ = some (.pointer (some ⟨p, 0, none⟩)) ∧ w.cell? ⟨pp, 1, none⟩ = some (.int .i64 most) := by
  obtain ⟨v, h1⟩ := (h.lift 3 hm).open
  replace h1 : Sys _ (upd m 3 emp) (blk pp (.cells #[.pointer (some ⟨p, 0, none⟩), .int .i64 most, v] 86 (0, 0)) :: own 55 4 v L.length (flatE L) :: l) := h1
  obtain ⟨c0, c1, c2⟩ := cells3 (h1.nth 0 rfl)
  exact ⟨c0, c1⟩
def addCode (X : WX) (L : List EnvX) (n : Nat) (e : EnvX) : Int :=
  if okE X e = false then 8 else if L.any (takenB e) = true then 10 else if 15 < e.nonce then 9 else if e.fee = 0 ∨ freeL n e.client < (feesL e L).sum then 4 else 0
def AddP (m : Nat → Thing) (l : List Thing) (pp p : Nat) (d : Wd) (most : Int) (X : WX) (L : List EnvX) (n : Nat) (e : EnvX) (z : Ending) (w' : World) : Prop :=
  z = .returned (.int .i64 (addCode X L n e)) ∧ Sys w' (upd (upd m 0 (worldT p d (X.digest (envB e)))) 3 (poolT pp p most (if addCode X L n e = 0 then L ++ [e] else L))) l
theorem addP_no {k : Int} {z : Ending} (hm : m 3 = poolT pp p most L) (hk : addCode X L n e = k) (h0 : k ≠ 0) (hz : z = .returned (.int .i64 k)) (h : Sys w' (upd m 0 (worldT p d (X.digest (envB e)))) l) : AddP m l pp p d most X L n e z w' := by
  refine ⟨by rw [hk]; exact hz, ?_⟩
  rw [hk, if_neg h0, upd_self (by rw [upd_ne (by decide) hm])]
  exact h
set_option maxRecDepth 100000 in
set_option maxHeartbeats 8000000 in
theorem pool_add (hwf : e.wf) (hc : 0 ≤ e.client ∧ e.client ≤ 999) (hroom : (L.length : Int) < most) (hL : L.length ≤ 1000) (hF : ∀ a ∈ feesL e L, 0 ≤ a) (hsum : (feesL e L).sum < 18446744073709551616) (hn : n ≤ 1000) (h : Sys w m l) (hm0 : m 0 = worldT p d X) (hm : m 3 = poolT pp p most L) (hm4 : m 4 = ledgT pl n) (hT : X.T.length ≤ 1000000000) :
    Calls Tryz.prog 20 #[.pointer (some ⟨pp, 0, none⟩), .agg #[.int .i64 e.client, .int .u64 e.nonce, .int .u64 e.fee, .int .i64 e.cipher], .pointer (some ⟨pl, 0, none⟩)] w (AddP m l pp p d most X L n e) := by
  obtain ⟨ne, x1, EN1, EX1, ES1, H1⟩ := h.box (.cells #[.int .i64 e.client, .int .u64 e.nonce, .int .u64 e.fee, .int .i64 e.cipher] 55 (0, 0))
  have HOK := Lib.hid (world_ok e.client e.nonce e.fee e.cipher hc hwf H1.out.drew hm0 hT)
  have hq : decide (1000 + e.client ∈ X.f (dg X.T (envB ⟨e.client, e.nonce, e.fee, e.cipher⟩))) = okE X e := by
    unfold okE sg
    rw [show (⟨e.client, e.nonce, e.fee, e.cipher⟩ : EnvX) = e from rfl]
    simp [hc]
  rw [hq] at HOK
  have HM : Hid (m 3 = poolT pp p most L) := hm
  have HM2 : Hid ((upd m 0 (worldT p d (X.digest (envB e)))) 3 = poolT pp p most L) := upd_ne (by decide) hm
  have HM4 : Hid ((upd m 0 (worldT p d (X.digest (envB e)))) 4 = ledgT pl n) := upd_ne (by decide) hm4
  have HWF := Lib.hid hwf
  have HL := Lib.hid hL
  have HRM := Lib.hid hroom
  have HFF := Lib.hid hF
  have HSS := Lib.hid hsum
  have HN := Lib.hid hn
  clear h hwf hc hroom hL hF hsum hn hm0 hm hm4 hT hq
  cases hk : okE X e with
  | false =>
    rw [hk] at HOK
    have HC : Hid (addCode X L n e = 8) := by show _ = _; unfold addCode; rw [if_pos hk]
    clear hk
    go_enter Tryz.func20, Tryz.ntmps20
    go_upto_region 1 with fail
    rw [EX1.out, EN1.out]
    refine wp_region_seq (fun x : World => x.heap[ne]? = some (.cells #[.int .i64 e.client, .int .u64 e.nonce, .int .u64 e.fee, .int .i64 e.cipher] 55 (0, 0)) ∧ x.cell? ⟨pp, 0, none⟩ = some (.pointer (some ⟨p, 0, none⟩))) anyW [] [(0, 0, some 11), (1, 0, some 12), (2, 0, some 13), (3, 1, some 14), (4, 1, some 15), (5, 2, some 16), (6, 0, some 17)] (by kernel_rfl) (by kernel_rfl) (fun _ _ _ d _ h => by cases d <;> exact h) ⟨H1.out.drew.nth 0 rfl, (H1.out.drew.poolCells HM.out).1⟩ anyW.i ?_
    repeat (first | (refine seqW (v := ?_) rfl rfl (by kernel_rfl) ?_ ?_; rotate_left; (focus ((intro x; go_simp); try (with_reducible rfl))); try simp only [Act.put, List.setIfInBounds_toArray, List.set_cons_zero, List.set_cons_succ]) | (refine seqS (v := ?_) rfl rfl (by kernel_rfl) ?_ ?_; rotate_left; (focus (intro x hS; first | (refine (exec_row 55 _ (by rfl) ne (by rfl) _ _ _ _ hS.1 Tryz.underlying55 rfl size4).trans ?_; with_reducible rfl) | (obtain ⟨hS1, hS2⟩ := hS; go_simp; try (with_reducible rfl)))); try simp only [Act.put, List.setIfInBounds_toArray, List.set_cons_zero, List.set_cons_succ]) | (refine seqX rfl rfl (by kernel_rfl) ?_; try simp only [Act.put, List.setIfInBounds_toArray, List.set_cons_zero, List.set_cons_succ]))
    refine seqL rfl rfl (fun K hK => ?_)
    go_simp
    go_at_call 52
    refine (HOK.out).mono ?_
    rintro z z1 ⟨rfl, h⟩
    have H2 := Lib.hid h
    clear h
    refine hK.out _ _ anyW.i ?_ (fun _ hSt => ?_)
    · exact ⟨H2.out.nth 0 rfl, (H2.out.poolCells HM2.out).1⟩
    clear hSt hK K
    try simp only [Act.put, List.setIfInBounds_toArray, List.set_cons_zero, List.set_cons_succ]
    repeat (first | (refine seqW (v := ?_) rfl rfl (by kernel_rfl) ?_ ?_; rotate_left; (focus ((intro x; go_simp); try (with_reducible rfl))); try simp only [Act.put, List.setIfInBounds_toArray, List.set_cons_zero, List.set_cons_succ]) | (refine seqS (v := ?_) rfl rfl (by kernel_rfl) ?_ ?_; rotate_left; (focus (intro x hS; first | (refine (exec_row 55 _ (by rfl) ne (by rfl) _ _ _ _ hS.1 Tryz.underlying55 rfl size4).trans ?_; with_reducible rfl) | (obtain ⟨hS1, hS2⟩ := hS; go_simp; try (with_reducible rfl)))); try simp only [Act.put, List.setIfInBounds_toArray, List.set_cons_zero, List.set_cons_succ]) | (refine seqX rfl rfl (by kernel_rfl) ?_; try simp only [Act.put, List.setIfInBounds_toArray, List.set_cons_zero, List.set_cons_succ]))
    refine seqE ?_
    go_wp2_with fail
    go_ret
    exact addP_no HM.out HC.out (by decide) rfl H2.out.tail
  | true =>
    rw [hk] at HOK
    have HK := Lib.hid hk
    clear hk
    cases ht : L.any (takenB e) with
    | true =>
      have HC : Hid (addCode X L n e = 10) := by show _ = _; unfold addCode; rw [if_neg (by rw [HK.out]; decide), if_pos ht]
      go_enter Tryz.func20, Tryz.ntmps20
      go_upto_region 1 with fail
      rw [EX1.out, EN1.out]
      refine wp_region_seq (fun x : World => x.heap[ne]? = some (.cells #[.int .i64 e.client, .int .u64 e.nonce, .int .u64 e.fee, .int .i64 e.cipher] 55 (0, 0)) ∧ x.cell? ⟨pp, 0, none⟩ = some (.pointer (some ⟨p, 0, none⟩))) anyW [] [(0, 0, some 11), (1, 0, some 12), (2, 0, some 13), (3, 1, some 14), (4, 1, some 15), (5, 2, some 16), (6, 0, some 17)] (by kernel_rfl) (by kernel_rfl) (fun _ _ _ d _ h => by cases d <;> exact h) ⟨H1.out.drew.nth 0 rfl, (H1.out.drew.poolCells HM.out).1⟩ anyW.i ?_
      repeat (first | (refine seqW (v := ?_) rfl rfl (by kernel_rfl) ?_ ?_; rotate_left; (focus ((intro x; go_simp); try (with_reducible rfl))); try simp only [Act.put, List.setIfInBounds_toArray, List.set_cons_zero, List.set_cons_succ]) | (refine seqS (v := ?_) rfl rfl (by kernel_rfl) ?_ ?_; rotate_left; (focus (intro x hS; first | (refine (exec_row 55 _ (by rfl) ne (by rfl) _ _ _ _ hS.1 Tryz.underlying55 rfl size4).trans ?_; with_reducible rfl) | (obtain ⟨hS1, hS2⟩ := hS; go_simp; try (with_reducible rfl)))); try simp only [Act.put, List.setIfInBounds_toArray, List.set_cons_zero, List.set_cons_succ]) | (refine seqX rfl rfl (by kernel_rfl) ?_; try simp only [Act.put, List.setIfInBounds_toArray, List.set_cons_zero, List.set_cons_succ]))
      refine seqL rfl rfl (fun K hK => ?_)
      go_simp
      go_at_call 52
      refine (HOK.out).mono ?_
      rintro z z1 ⟨rfl, h⟩
      have H2 := Lib.hid h
      clear h
      refine hK.out _ _ anyW.i ?_ (fun _ hSt => ?_)
      · exact ⟨H2.out.nth 0 rfl, (H2.out.poolCells HM2.out).1⟩
      clear hSt hK K
      try simp only [Act.put, List.setIfInBounds_toArray, List.set_cons_zero, List.set_cons_succ]
      repeat (first | (refine seqW (v := ?_) rfl rfl (by kernel_rfl) ?_ ?_; rotate_left; (focus ((intro x; go_simp); try (with_reducible rfl))); try simp only [Act.put, List.setIfInBounds_toArray, List.set_cons_zero, List.set_cons_succ]) | (refine seqS (v := ?_) rfl rfl (by kernel_rfl) ?_ ?_; rotate_left; (focus (intro x hS; first | (refine (exec_row 55 _ (by rfl) ne (by rfl) _ _ _ _ hS.1 Tryz.underlying55 rfl size4).trans ?_; with_reducible rfl) | (obtain ⟨hS1, hS2⟩ := hS; go_simp; try (with_reducible rfl)))); try simp only [Act.put, List.setIfInBounds_toArray, List.set_cons_zero, List.set_cons_succ]) | (refine seqX rfl rfl (by kernel_rfl) ?_; try simp only [Act.put, List.setIfInBounds_toArray, List.set_cons_zero, List.set_cons_succ]))
      refine seqE ?_
      have hbe := H2.out.nth 0 rfl
      have HTK := Lib.hid (pool_taken (e := e) (by have := HL.out; omega) H2.out HM2.out)
      rw [ht] at HTK
      clear ht
      go_wp2_with (refine wpList_load_row rfl 55 _ rfl ne rfl _ _ _ _ hbe Tryz.underlying55 rfl size4 ?_)
      refine HTK.out.mono ?_
      rintro z z2 ⟨rfl, h⟩
      have H3 := Lib.hid h
      clear h HTK hbe
      go_wp2_with fail
      go_ret
      exact addP_no HM.out HC.out (by decide) rfl H3.out.tail
    | false =>
      have HT0 := Lib.hid ht
      go_enter Tryz.func20, Tryz.ntmps20
      go_upto_region 1 with fail
      rw [EX1.out, EN1.out]
      refine wp_region_seq (fun x : World => x.heap[ne]? = some (.cells #[.int .i64 e.client, .int .u64 e.nonce, .int .u64 e.fee, .int .i64 e.cipher] 55 (0, 0)) ∧ x.cell? ⟨pp, 0, none⟩ = some (.pointer (some ⟨p, 0, none⟩))) anyW [] [(0, 0, some 11), (1, 0, some 12), (2, 0, some 13), (3, 1, some 14), (4, 1, some 15), (5, 2, some 16), (6, 0, some 17)] (by kernel_rfl) (by kernel_rfl) (fun _ _ _ d _ h => by cases d <;> exact h) ⟨H1.out.drew.nth 0 rfl, (H1.out.drew.poolCells HM.out).1⟩ anyW.i ?_
      repeat (first | (refine seqW (v := ?_) rfl rfl (by kernel_rfl) ?_ ?_; rotate_left; (focus ((intro x; go_simp); try (with_reducible rfl))); try simp only [Act.put, List.setIfInBounds_toArray, List.set_cons_zero, List.set_cons_succ]) | (refine seqS (v := ?_) rfl rfl (by kernel_rfl) ?_ ?_; rotate_left; (focus (intro x hS; first | (refine (exec_row 55 _ (by rfl) ne (by rfl) _ _ _ _ hS.1 Tryz.underlying55 rfl size4).trans ?_; with_reducible rfl) | (obtain ⟨hS1, hS2⟩ := hS; go_simp; try (with_reducible rfl)))); try simp only [Act.put, List.setIfInBounds_toArray, List.set_cons_zero, List.set_cons_succ]) | (refine seqX rfl rfl (by kernel_rfl) ?_; try simp only [Act.put, List.setIfInBounds_toArray, List.set_cons_zero, List.set_cons_succ]))
      refine seqL rfl rfl (fun K hK => ?_)
      go_simp
      go_at_call 52
      refine (HOK.out).mono ?_
      rintro z z1 ⟨rfl, h⟩
      have H2 := Lib.hid h
      clear h
      refine hK.out _ _ anyW.i ?_ (fun _ hSt => ?_)
      · exact ⟨H2.out.nth 0 rfl, (H2.out.poolCells HM2.out).1⟩
      clear hSt hK K
      try simp only [Act.put, List.setIfInBounds_toArray, List.set_cons_zero, List.set_cons_succ]
      repeat (first | (refine seqW (v := ?_) rfl rfl (by kernel_rfl) ?_ ?_; rotate_left; (focus ((intro x; go_simp); try (with_reducible rfl))); try simp only [Act.put, List.setIfInBounds_toArray, List.set_cons_zero, List.set_cons_succ]) | (refine seqS (v := ?_) rfl rfl (by kernel_rfl) ?_ ?_; rotate_left; (focus (intro x hS; first | (refine (exec_row 55 _ (by rfl) ne (by rfl) _ _ _ _ hS.1 Tryz.underlying55 rfl size4).trans ?_; with_reducible rfl) | (obtain ⟨hS1, hS2⟩ := hS; go_simp; try (with_reducible rfl)))); try simp only [Act.put, List.setIfInBounds_toArray, List.set_cons_zero, List.set_cons_succ]) | (refine seqX rfl rfl (by kernel_rfl) ?_; try simp only [Act.put, List.setIfInBounds_toArray, List.set_cons_zero, List.set_cons_succ]))
      refine seqE ?_
      have hbe := H2.out.nth 0 rfl
      have HTK := Lib.hid (pool_taken (e := e) (by have := HL.out; omega) H2.out HM2.out)
      rw [ht] at HTK
      clear ht
      go_wp2_with (refine wpList_load_row rfl 55 _ rfl ne rfl _ _ _ _ hbe Tryz.underlying55 rfl size4 ?_)
      refine HTK.out.mono ?_
      rintro z z2 ⟨rfl, h⟩
      have H3 := Lib.hid h
      clear h HTK hbe
      obtain ⟨f0, f1, f2, f3⟩ := cells4 (H3.out.nth 0 rfl)
      go_wp2_with fail
      refine (ledg_next e.client HN.out H3.out HM4.out).mono ?_
      rintro z z3 ⟨rfl, rfl⟩
      have hn0 : 0 ≤ e.nonce ∧ e.nonce < 18446744073709551616 := HWF.out.1
      have dn : decide (e.nonce < 0) = false := by simp; omega
      have hwn : IntKind.u64.wrap e.nonce = e.nonce := by rw [IntKind.wrap_u64]; omega
      obtain ⟨hn1, hn2⟩ := hn0
      by_cases h15 : 15 < e.nonce
      · have d15 : decide (15 < e.nonce) = true := by simpa using h15
        have HC : Hid (addCode X L n e = 9) := by show _ = _; unfold addCode; rw [if_neg (by rw [HK.out]; decide), if_neg (by rw [HT0.out]; decide), if_pos h15]
        clear h15
        go_wp2_with fail
        go_ret
        exact addP_no HM.out HC.out (by decide) rfl H3.out.tail
      · have d15 : decide (15 < e.nonce) = false := by simpa using h15
        have hbe := H3.out.nth 0 rfl
        have HFE := Lib.hid (pool_fees (e := e) (by have := HL.out; omega) HFF.out HSS.out H3.out HM2.out)
        obtain ⟨S, hS⟩ : ∃ S, S = (feesL e L).sum := ⟨_, rfl⟩
        rw [← hS] at HFE
        have HSD := Lib.hid hS
        have H15 := Lib.hid h15
        clear h15 hS
        go_upto_region 8 with fail
        clear f0 f1 f2 f3
        go_wp2_with (refine wpList_load_row rfl 55 _ rfl ne rfl _ _ _ _ hbe Tryz.underlying55 rfl size4 ?_)
        refine HFE.out.mono ?_
        rintro z z4 ⟨rfl, h⟩
        have H4 := Lib.hid h
        clear h HFE hbe
        obtain ⟨f0, f1, f2, f3⟩ := cells4 (H4.out.nth 0 rfl)
        by_cases hf0 : e.fee = 0
        · have d0 : (e.fee == 0) = true := by simpa using hf0
          have HC : Hid (addCode X L n e = 4) := by show _ = _; unfold addCode; rw [if_neg (by rw [HK.out]; decide), if_neg (by rw [HT0.out]; decide), if_neg (by have := H15.out; omega), if_pos (.inl hf0)]
          clear hf0
          go_wp2_with fail
          go_ret
          exact addP_no HM.out HC.out (by decide) rfl H4.out.tail
        · have d0 : (e.fee == 0) = false := by simpa using hf0
          have HLF := Lib.hid (ledg_free e.client 1 (.inr rfl) HN.out H4.out HM4.out)
          obtain ⟨fv, hfv⟩ : ∃ x, x = freeL n e.client := ⟨_, rfl⟩
          rw [← hfv] at HLF
          by_cases hgt : fv < S
          · have d1 : decide (fv < S) = true := by simpa using hgt
            have HC : Hid (addCode X L n e = 4) := by show _ = _; unfold addCode; rw [if_neg (by rw [HK.out]; decide), if_neg (by rw [HT0.out]; decide), if_neg (by have := H15.out; omega), if_pos (.inr (by rw [← hfv, ← HSD.out]; exact hgt))]
            clear hf0 hgt hfv
            go_wp2_with fail
            refine HLF.out.mono ?_
            rintro z z5 ⟨rfl, rfl⟩
            go_wp2_with fail
            go_ret
            exact addP_no HM.out HC.out (by decide) rfl H4.out.tail
          · have d1 : decide (fv < S) = false := by simpa using hgt
            have HC : Hid (addCode X L n e = 0) := by
              show _ = _
              unfold addCode
              rw [if_neg (by rw [HK.out]; decide), if_neg (by rw [HT0.out]; decide), if_neg (by have := H15.out; omega), if_neg (by rintro (h | h); exact hf0 h; rw [← hfv, ← HSD.out] at h; exact hgt h)]
            clear hf0 hgt hfv
            obtain ⟨v, h6⟩ := (H4.out.drew.lift 3 HM2.out).open
            replace h6 : Sys z4.drew (upd (upd m 0 (worldT p d (X.digest (envB e)))) 3 emp) (blk pp (.cells #[.pointer (some ⟨p, 0, none⟩), .int .i64 most, v] 86 (0, 0)) :: own 55 4 v L.length (flatE L) :: blk ne (.cells #[.int .i64 e.client, .int .u64 e.nonce, .int .u64 e.fee, .int .i64 e.cipher] 55 (0, 0)) :: l) := h6
            obtain ⟨va, k, vc, rfl, hk⟩ := h6.tail.getOwn.slice
            obtain rfl := hk.out
            have H6 := Lib.hid h6
            have dm : decide (most ≤ (L.length : Int)) = false := by have := HRM.out; simp; omega
            clear h6 hk
            go_wp2_with fail
            refine HLF.out.mono ?_
            rintro z z5 ⟨rfl, rfl⟩
            go_upto_region 11 with fail
            clear f0 f1 f2 f3
            refine wp_region_seq (fun x : World => x.cell? ⟨pp, 1, none⟩ = some (.int .i64 most) ∧ x.cell? ⟨pp, 2, none⟩ = some (.slice va L.length vc)) anyW [] [(0, 0, some 57), (1, 0, some 58), (2, 0, some 59), (3, 1, some 60), (4, 0, some 61), (5, 0, some 62), (6, 0, some 63), (7, 0, some 64), (8, 1, some 65), (9, 0, some 66)] (by kernel_rfl) (by kernel_rfl) (fun _ _ _ d _ h => by cases d <;> exact h) ⟨cell_of_blk (H6.out.nth 0 rfl) 1, cell_of_blk (H6.out.nth 0 rfl) 2⟩ anyW.i ?_
            repeat (first | (refine seqW (v := ?_) rfl rfl (by kernel_rfl) ?_ ?_; rotate_left; (focus ((intro x; go_simp); try (with_reducible rfl))); try simp only [Act.put, List.setIfInBounds_toArray, List.set_cons_zero, List.set_cons_succ]) | (refine seqS (v := ?_) rfl rfl (by kernel_rfl) ?_ ?_; rotate_left; (focus (intro x hS; first | (obtain ⟨hS1, hS2⟩ := hS; go_simp; try (with_reducible rfl)))); try simp only [Act.put, List.setIfInBounds_toArray, List.set_cons_zero, List.set_cons_succ]) | (refine seqX rfl rfl (by kernel_rfl) ?_; try simp only [Act.put, List.setIfInBounds_toArray, List.set_cons_zero, List.set_cons_succ]))
            refine seqE ?_
            go_upto_region 16 with fail
            have H7 := Lib.hid H6.out.drew
            have H8 := Lib.hid (H7.out.alloc (.cells #[.int .i64 e.client, .int .u64 e.nonce, .int .u64 e.fee, .int .i64 e.cipher] 55 (0, 0)) rfl)
            obtain ⟨v9, z9, hap, h9⟩ := (H8.out.front 2 rfl).appEnvs (k := 1) (some ⟨z4.drew.drew.heap.size, 0, none⟩) 1 [e] rfl (EnvsAt.one H8.out.getBlk) (by have := HL.out; omega) 39
            obtain ⟨va9, k9, vc9, rfl, hk9⟩ := h9.getOwn.slice
            obtain rfl := hk9.out
            have H9 := Lib.hid h9
            have h10 := (h9.front 2 rfl).setCell (i := 2) (.slice va9 (L.length + 1) vc9)
            have H10 : Hid (Sys (z9.setCell ⟨pp, 2, none⟩ (.slice va9 (L.length + 1) vc9)) (upd (upd m 0 (worldT p d (X.digest (envB e)))) 3 (poolT pp p most (L ++ [e]))) (blk z4.drew.drew.heap.size (.cells #[.int .i64 e.client, .int .u64 e.nonce, .int .u64 e.fee, .int .i64 e.cipher] 55 (0, 0)) :: blk ne (.cells #[.int .i64 e.client, .int .u64 e.nonce, .int .u64 e.fee, .int .i64 e.cipher] 55 (0, 0)) :: l)) := Sys.put 3 (Sys.close (f := poolF pp p most (L ++ [e])) (.slice va9 (L.length + 1) vc9) (by
              show Sys _ _ (blk _ _ :: own _ _ _ (L ++ [e]).length _ :: _)
              rw [List.length_append]; exact h10))
            clear h9 h10 hk9
            refine wp_region_seq (fun x : World => x.cell? ⟨pp, 2, none⟩ = some (.slice va L.length vc) ∧ x.heap[ne]? = some (.cells #[.int .i64 e.client, .int .u64 e.nonce, .int .u64 e.fee, .int .i64 e.cipher] 55 (0, 0))) anyW [10] [(0, 0, some 95), (1, 0, some 96), (2, 0, some 97), (3, 0, some 98), (4, 1, some 99), (5, 1, some 100), (6, 2, some 101), (7, 2, some 102), (8, 0, some 103), (9, 0, some 104), (10, 3, none)] (by kernel_rfl) (by kernel_rfl) (fun _ _ _ d _ h => by cases d <;> exact h) ⟨cell_of_blk (H7.out.nth 0 rfl) 2, H7.out.nth 2 rfl⟩ anyW.i ?_
            repeat (first | (refine seqW (v := ?_) rfl rfl (by kernel_rfl) ?_ ?_; rotate_left; (focus ((intro x; go_simp); try (with_reducible rfl))); try simp only [Act.put, List.setIfInBounds_toArray, List.set_cons_zero, List.set_cons_succ]) | (refine seqS (v := ?_) rfl rfl (by kernel_rfl) ?_ ?_; rotate_left; (focus (intro x hS; first | (refine (exec_row 55 _ (by rfl) ne (by rfl) _ _ _ _ hS.2 Tryz.underlying55 rfl size4).trans ?_; with_reducible rfl) | (obtain ⟨hS1, hS2⟩ := hS; go_simp; try (with_reducible rfl)))); try simp only [Act.put, List.setIfInBounds_toArray, List.set_cons_zero, List.set_cons_succ]) | (refine seqX rfl rfl (by kernel_rfl) ?_; try simp only [Act.put, List.setIfInBounds_toArray, List.set_cons_zero, List.set_cons_succ]))
            refine seqL rfl rfl (fun K hK => ?_)
            go_simp
            refine hK.out _ _ anyW.i ?_ (fun _ hSt => ?_)
            · exact ⟨cell_of_blk (H8.out.nth 1 rfl) 2, H8.out.nth 3 rfl⟩
            clear hSt hK K
            try simp only [Act.put, List.setIfInBounds_toArray, List.set_cons_zero, List.set_cons_succ]
            refine seqL rfl rfl (fun K hK => ?_)
            refine step_run_append rfl (.tmp 99) (.tmp 101) 39 rfl rfl rfl hap ?_
            have cp := cell_of_blk (H9.out.nth 2 rfl) 2
            simp at cp
            have fp := frozen_of_blk (H9.out.nth 2 rfl) 2
            refine hK.out _ _ anyW.i ?_ (fun _ hSt => ?_)
            · exact ⟨cell_of_blk (H9.out.nth 2 rfl) 2, H9.out.nth 3 rfl⟩
            clear hSt hK K
            try simp only [Act.put, List.setIfInBounds_toArray, List.set_cons_zero, List.set_cons_succ]
            repeat (first | (refine seqW (v := ?_) rfl rfl (by kernel_rfl) ?_ ?_; rotate_left; (focus ((intro x; go_simp); try (with_reducible rfl))); try simp only [Act.put, List.setIfInBounds_toArray, List.set_cons_zero, List.set_cons_succ]) | (refine seqS (v := ?_) rfl rfl (by kernel_rfl) ?_ ?_; rotate_left; (focus (intro x hS; first | (refine (exec_row 55 _ (by rfl) ne (by rfl) _ _ _ _ hS.2 Tryz.underlying55 rfl size4).trans ?_; with_reducible rfl) | (obtain ⟨hS1, hS2⟩ := hS; go_simp; try (with_reducible rfl)))); try simp only [Act.put, List.setIfInBounds_toArray, List.set_cons_zero, List.set_cons_succ]) | (refine seqX rfl rfl (by kernel_rfl) ?_; try simp only [Act.put, List.setIfInBounds_toArray, List.set_cons_zero, List.set_cons_succ]))
            refine seqT rfl rfl (fun K hK => ?_)
            go_simp
            refine hK.out _ _ anyW.i (fun _ => ?_)
            clear hK K
            try simp only [Act.put, List.setIfInBounds_toArray, List.set_cons_zero, List.set_cons_succ]
            refine seqE ?_
            go_wp2_with fail
            go_ret
            refine ⟨by rw [HC.out]; rfl, ?_⟩
            rw [HC.out, if_pos rfl]
            exact H10.out.tail.tail
end
end Go.Proofs.YtcfhkpjheemkgaaGreat
