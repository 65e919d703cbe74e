/-
  All that was seen, in memory of its own: adve.Seen.
-/
import Derived.Test.YtcfhkpjheemkgaaWatchHear
import Derived.Test.YtcfhkpjheemkgaaSeq
namespace Go.Proofs.Ytcfhkpjheemkgaa
set_option linter.unusedSectionVars false
set_option linter.unnecessarySimpa false
set_option linter.unusedSimpArgs false
set_option linter.unusedVariables false
open Go.RowKit Go.MapKept
section
variable {w w' : World} {m : Nat → Thing} {l : List Thing} {pa p mo kw : Nat} {d : Wd} {X : WX} {B : List Int} {S : List (List UInt8 × Int × List UInt8)} {O : List (Int × Value)} {vb vs : Value}
theorem flatS_snoc (L : List SeenX) (s : SeenX) : flatS (L ++ [s]) = flatS L ++ seenCells s := by simp [flatS]
theorem flatS_at (L : List SeenX) (i : Nat) (h : i < L.length) (j : Nat) (hj : j < 3) : (flatS L)[i * 3 + j]? = (seenCells L[i])[j]? := by
  induction L generalizing i with
  | nil => simp at h
  | cons e L ih =>
    have hl : (seenCells e).length = 3 := rfl
    cases i with
    | zero =>
      simp only [flatS, List.flatMap_cons, List.getElem_cons_zero]
      rw [Nat.zero_mul, Nat.zero_add, List.getElem?_append_left (by omega)]
    | succ i =>
      have := ih i (by simpa using h)
      simp only [flatS, List.flatMap_cons, List.getElem_cons_succ] at *
      rw [List.getElem?_append_right (by omega), hl, show (i + 1) * 3 + j - 3 = i * 3 + j by omega]
      exact this
theorem Sys.seenAt {SX : List SeenX} {s : SeenX} (h : Sys w m (rowsT SX :: l)) (hs : s ∈ SX) : Own 5 1 w s.mv s.m.length (bcells s.m) ∧ Own 5 1 w s.tv s.t.length (bcells s.t) := by
  obtain ⟨_, h⟩ := h.open
  have h1 : rowB s.mv s.m ∈ seenRows SX ++ l := List.mem_append_left _ (List.mem_flatMap.2 ⟨s, hs, List.mem_cons_self ..⟩)
  have h2 : rowB s.tv s.t ∈ seenRows SX ++ l := List.mem_append_left _ (List.mem_flatMap.2 ⟨s, hs, List.mem_cons_of_mem _ (List.mem_cons_self ..)⟩)
  obtain ⟨F, hF⟩ := h.mem h1
  obtain ⟨G, hG⟩ := h.mem h2
  exact ⟨hF.1, hG.1⟩
theorem size3S : (Try.prog.info? 60).map (·.size) = some 3 := by kernel_rfl
theorem Own.seenCellsAt {SX : List SeenX} {n cp : Nat} {a : Option Addr} (h : Own 60 3 w (.slice a n cp) n (flatS SX)) {j : Nat} (hj : j < SX.length) : ∃ g, a = some ⟨g, 0, none⟩ ∧ ∀ (c : Nat) (u : Value), (seenCells SX[j])[c]? = some u → w.cell? ⟨g, j * 3 + c, none⟩ = some u := by
  rcases h.2 with ⟨e, e2⟩ | ⟨g, cap, cur, e, _, hb, _, _, _, ht⟩
  · have := h.1
    rw [e2, flatS_length] at this
    omega
  · cases e
    refine ⟨g, rfl, fun c u hu => ?_⟩
    have hc : c < 3 := (List.getElem?_eq_some_iff.1 hu).1
    rw [← flatS_at SX j hj c hc] at hu
    rw [cell_of_blk hb, ← Array.getElem?_toList]
    rw [← ht, List.getElem?_take] at hu
    split at hu
    · exact hu
    · cases hu
set_option maxRecDepth 100000 in
set_option maxHeartbeats 4000000 in
theorem watch_seen (hS : S.length ≤ 1000000) (hb : ∀ x ∈ S, x.1.length ≤ 1000000000 ∧ x.2.2.length ≤ 1000000000) (h : Sys w m l) (hm : m kw = watchT pa p B S O) :
    Calls Try.prog 27 #[.pointer (some ⟨pa, 0, none⟩)] w fun z w' => ∃ a c RX, z = .returned (.slice a S.length c) ∧ RX.map SeenX.x = S ∧ Sys w' m (own 60 3 (.slice a S.length c) S.length (flatS RX) :: rowsT RX :: l) := by
  obtain ⟨⟨vb, vs, mo, SX⟩, h1⟩ := (h.lift kw hm).open
  obtain ⟨hSX, h2⟩ := h1.pureW
  dsimp only at hSX h2
  obtain ⟨sa, n, sc, rfl, hn⟩ := (h2.front 2 rfl).getOwn.slice
  have hnS : n = S.length := by rw [hn.out, ← hSX, List.length_map]
  rw [← hnS] at hS ⊢
  rw [← hn.out] at h2
  have h3 : Sys w (upd m kw emp) (own 60 3 (.slice none 0 0) 0 (flatS []) :: rowsT [] :: blk pa (.cells #[.pointer (some ⟨p, 0, none⟩), vb, .slice sa n sc, .map (some mo)] 119 (0, 0)) :: own 3 1 vb B.length (B.map (Value.int .i64)) :: own 60 3 (.slice sa n sc) n (flatS SX) :: mapT intKey mo O :: rowsT SX :: l) :=
    (Sys.close (f := fun _ : Unit => seenRows []) () h2).push (F := fun _ => False) (t := own 60 3 (.slice none 0 0) 0 []) (Chg.refl _ _) ⟨Own.nil _ _ _, by funext k; simp [Value.ownBlock]⟩ (fun _ h => h.elim)
  have q2 : w.cell? ⟨pa, 2, none⟩ = some (.slice sa n sc) := (cell_of_blk (h2.nth 0 rfl) 2).trans rfl
  have H3 := Lib.hid h3
  have HN := hn
  have HNS := Lib.hid hS
  have HSX := Lib.hid hSX
  have HB := Lib.hid hb
  have HM := Lib.hid hm
  have HNL := Lib.hid hnS
  clear h h1 h2 h3 hn hS hSX hb hm hnS
  go_enter Try.func27, Try.ntmps27
  go_wp2_with fail
  clear q2
  go_loopw [3, 11] (fun rv iv wr => ∃ (j : Nat) (ra : Option Addr) (rc : Nat) (RX : List SeenX), j ≤ n ∧ iv = .int .i64 (j : Int) ∧ rv = .slice ra j rc ∧ Hid (RX.map SeenX.x = (SX.take j).map SeenX.x) ∧ Sys wr (upd m kw emp) (own 60 3 (.slice ra j rc) j (flatS RX) :: rowsT RX :: blk pa (.cells #[.pointer (some ⟨p, 0, none⟩), vb, .slice sa n sc, .map (some mo)] 119 (0, 0)) :: own 3 1 vb B.length (B.map (Value.int .i64)) :: own 60 3 (.slice sa n sc) n (flatS SX) :: mapT intKey mo O :: rowsT SX :: l)) (fun _ iv _ => n - (intOf iv).toNat)
  case atStart => exact ⟨0, none, 0, [], by omega, rfl, rfl, rfl, H3.out⟩
  case round =>
    obtain ⟨j, ra, rc, RX, hj, rfl, rfl, HRX, hR⟩ := hrel
    by_cases hlt : j < n
    · have hil : (j : Int) < (n : Int) := by omega
      have hiw : IntKind.i64.wrap ((j : Int) + 1) = (j : Int) + 1 := by rw [IntKind.wrap_i64]; have := HNS.out; omega
      have hjl : j < SX.length := by rw [← HN.out]; exact hlt
      obtain ⟨g, rfl, hce⟩ := (hR.front 4 rfl).getOwn.seenCellsAt hjl
      have hmem : SX[j] ∈ SX := List.getElem_mem hjl
      obtain ⟨hom, hot⟩ := Sys.seenAt (hR.front 6 rfl) hmem
      have hb := HB.out SX[j].x (by rw [← HSX.out]; exact List.mem_map_of_mem hmem)
      have hTK : (SX.take (j + 1)).map SeenX.x = (SX.take j).map SeenX.x ++ [SX[j].x] := by
        rw [List.take_succ_eq_append_getElem hjl, List.map_append]; rfl
      obtain ⟨s, hs⟩ : ∃ s, s = SX[j] := ⟨_, rfl⟩
      rw [← hs] at hce hmem hom hot hb hTK
      obtain ⟨a1, c1, hv1, -, hat1, hnn1, -⟩ := hom.bytes
      obtain ⟨a2, c2, hv2, -, -, hnn2, -⟩ := hot.bytes
      obtain ⟨smv, sm, sc0, stv, st⟩ := s
      dsimp only at hv1 hv2 hat1 hnn1 hnn2
      subst hv1 hv2
      obtain ⟨n1, hn1⟩ : ∃ n, n = sm.length := ⟨_, rfl⟩
      obtain ⟨n2, hn2⟩ : ∃ n, n = st.length := ⟨_, rfl⟩
      have HCL1 : Hid (∀ y, BytesAt y a1 sm → Calls Try.prog 66 #[.slice a1 n1 c1] y (Cloned sm y)) := fun y hy => by rw [hn1]; exact clone_any a1 sm c1 y hy hnn1 hb.1
      have HCL2 : Hid (∀ y, BytesAt y a2 st → Calls Try.prog 66 #[.slice a2 n2 c2] y (Cloned st y)) := fun y hy => by rw [hn2]; exact clone_any a2 st c2 y hy hnn2 hb.2
      have hgo : ∀ y l', Sys y (upd m kw emp) (rowsT SX :: l') → BytesAt y a1 sm ∧ BytesAt y a2 st := fun y l' hs => by
        obtain ⟨o1, o2⟩ := Sys.seenAt hs hmem
        exact ⟨o1.bytesAt, o2.bytesAt⟩
      have HGO := Lib.hid hgo
      unfold seenCells at hce
      dsimp only at hce
      rw [← hn1, ← hn2] at hce
      have HCE := Lib.hid hce
      have HTK := Lib.hid hTK
      have HLT := Lib.hid hlt
      obtain ⟨ne, x1, EN1, EX1, ES1, H1⟩ := hR.box (.cells #[.slice a1 n1 c1, .int .i64 sc0, .slice a2 n2 c2] 60 (0, 0))
      clear hs hce hmem hom hot hb hTK hat1 hnn1 hnn2 hgo hR hlt hj hjl hn1 hn2
      go_upto_region 5 with (refine wpList_load_at rfl 60 _ rfl g (j * 3) rfl [.slice a1 n1 c1, .int .i64 sc0, .slice a2 n2 c2] _ HCE.out Try.underlying60 rfl size3S ?_)
      rw [EX1.out, EN1.out]
      refine wp_region_seq (fun x : World => x.heap[ne]? = some (.cells #[.slice a1 n1 c1, .int .i64 sc0, .slice a2 n2 c2] 60 (0, 0))) anyW [] [(0, 0, some 15), (1, 0, some 16), (2, 1, some 17), (4, 0, some 19), (5, 1, some 20), (6, 0, some 21), (7, 1, some 22), (3, 2, some 18), (8, 2, some 23), (9, 0, some 24), (10, 2, some 25), (11, 2, some 26), (12, 0, some 3)] (by kernel_rfl) (by kernel_rfl) (fun _ _ _ d _ h => by cases d <;> exact h) (H1.out.drew.nth 0 rfl) anyW.i ?_
      repeat (first | (refine seqW (v := ?_) rfl rfl (by kernel_rfl) ?_ ?_; rotate_left; (focus ((intro x; go_simp); try (with_reducible rfl))); try simp only [Act.put, List.setIfInBounds_toArray, List.set_cons_zero, List.set_cons_succ]) | (refine seqS (v := ?_) rfl rfl (by kernel_rfl) ?_ ?_; rotate_left; (focus (intro x hS; first | (have q0 : x.cell? ⟨ne, 0, none⟩ = some (.slice a1 n1 c1) := (cell_of_blk hS 0).trans rfl; have q1 : x.cell? ⟨ne, 1, none⟩ = some (.int .i64 sc0) := (cell_of_blk hS 1).trans rfl; have q2 : x.cell? ⟨ne, 2, none⟩ = some (.slice a2 n2 c2) := (cell_of_blk hS 2).trans rfl; go_simp; try (with_reducible rfl)))); try simp only [Act.put, List.setIfInBounds_toArray, List.set_cons_zero, List.set_cons_succ]) | (refine seqX rfl rfl (by kernel_rfl) ?_; try simp only [Act.put, List.setIfInBounds_toArray, List.set_cons_zero, List.set_cons_succ]))
      refine seqL rfl rfl (fun K hK => ?_)
      go_simp
      go_at_call 66
      refine (HCL1.out _ (HGO.out _ _ (H1.out.drew.front 7 rfl)).1).mono ?_
      rintro z y1 ⟨v3, rfl, ho3, hb3, hB3⟩
      obtain ⟨d1, k1, e1, rfl, -⟩ := ho3.slice
      have H2 := Lib.hid (H1.out.drew.pushOwn hB3 ho3 hb3)
      clear ho3 hb3 hB3
      go_wp2_with fail
      refine hK.out _ _ anyW.i ?_ (fun _ hSt => ?_)
      · exact H2.out.nth 1 rfl
      clear hSt hK K
      try simp only [Act.put, List.setIfInBounds_toArray, List.set_cons_zero, List.set_cons_succ]
      refine seqL rfl rfl (fun K hK => ?_)
      go_simp
      go_at_call 66
      refine (HCL2.out _ (HGO.out _ _ (H2.out.front 8 rfl)).2).mono ?_
      rintro z y2 ⟨v4, rfl, ho4, hb4, hB4⟩
      obtain ⟨d2, k2, e2, rfl, -⟩ := ho4.slice
      have H3 := Lib.hid (H2.out.pushOwn hB4 ho4 hb4)
      clear ho4 hb4 hB4
      obtain ⟨nk, y3, EN4, EX4, ES4, H4⟩ := H3.out.box (.cells #[.slice d1 k1 e1, .int .i64 sc0, .slice d2 k2 e2] 60 (0, 0))
      have h4 := H4.out.front 4 rfl
      obtain ⟨v', y4, hap, h5⟩ := h4.appSeen (h4.nth 1 rfl) rfl rfl rfl (by have := HNS.out; have := HLT.out; omega) 57
      obtain ⟨ra', n', rc', rfl, hn'⟩ := h5.getOwn.slice
      obtain rfl : n' = j + 1 := hn'.out
      have H5 := Lib.hid h5
      clear h4 h5 hn'
      go_wp2_with fail
      refine hK.out _ _ anyW.i ?_ (fun _ hSt => ?_)
      · exact H3.out.nth 2 rfl
      clear hSt hK K
      try simp only [Act.put, List.setIfInBounds_toArray, List.set_cons_zero, List.set_cons_succ]
      repeat (first | (refine seqW (v := ?_) rfl rfl (by kernel_rfl) ?_ ?_; rotate_left; (focus ((intro x; go_simp); try (with_reducible rfl))); try simp only [Act.put, List.setIfInBounds_toArray, List.set_cons_zero, List.set_cons_succ]) | (refine seqS (v := ?_) rfl rfl (by kernel_rfl) ?_ ?_; rotate_left; (focus (intro x hS; first | (have q0 : x.cell? ⟨ne, 0, none⟩ = some (.slice a1 n1 c1) := (cell_of_blk hS 0).trans rfl; have q1 : x.cell? ⟨ne, 1, none⟩ = some (.int .i64 sc0) := (cell_of_blk hS 1).trans rfl; have q2 : x.cell? ⟨ne, 2, none⟩ = some (.slice a2 n2 c2) := (cell_of_blk hS 2).trans rfl; go_simp; try (with_reducible rfl)))); try simp only [Act.put, List.setIfInBounds_toArray, List.set_cons_zero, List.set_cons_succ]) | (refine seqX rfl rfl (by kernel_rfl) ?_; try simp only [Act.put, List.setIfInBounds_toArray, List.set_cons_zero, List.set_cons_succ]))
      refine seqL rfl rfl (fun K hK => ?_)
      go_simp
      rw [EX4.out, EN4.out]
      refine hK.out _ _ anyW.i ?_ (fun _ hSt => ?_)
      · exact H4.out.nth 3 rfl
      clear hSt hK K
      try simp only [Act.put, List.setIfInBounds_toArray, List.set_cons_zero, List.set_cons_succ]
      refine seqL rfl rfl (fun K hK => ?_)
      refine step_run_append rfl (.tmp 15) (.tmp 25) 57 rfl rfl rfl hap ?_
      clear hap
      have HFIN := Lib.hid ((Sys.addRow ⟨.slice d1 k1 e1, sm, sc0, .slice d2 k2 e2, st⟩ (((((H5.out.dropAt 1 rfl).dropAt 3 rfl).front 1 rfl).front 2 rfl).front 3 rfl)).swap)
      refine hK.out _ _ anyW.i ?_ (fun _ hSt => ?_)
      · exact H5.out.nth 4 rfl
      clear hSt hK K
      try simp only [Act.put, List.setIfInBounds_toArray, List.set_cons_zero, List.set_cons_succ]
      repeat (first | (refine seqW (v := ?_) rfl rfl (by kernel_rfl) ?_ ?_; rotate_left; (focus ((intro x; go_simp); try (with_reducible rfl))); try simp only [Act.put, List.setIfInBounds_toArray, List.set_cons_zero, List.set_cons_succ]) | (refine seqS (v := ?_) rfl rfl (by kernel_rfl) ?_ ?_; rotate_left; (focus (intro x hS; first | (have q0 : x.cell? ⟨ne, 0, none⟩ = some (.slice a1 n1 c1) := (cell_of_blk hS 0).trans rfl; have q1 : x.cell? ⟨ne, 1, none⟩ = some (.int .i64 sc0) := (cell_of_blk hS 1).trans rfl; have q2 : x.cell? ⟨ne, 2, none⟩ = some (.slice a2 n2 c2) := (cell_of_blk hS 2).trans rfl; go_simp; try (with_reducible rfl)))); try simp only [Act.put, List.setIfInBounds_toArray, List.set_cons_zero, List.set_cons_succ]) | (refine seqX rfl rfl (by kernel_rfl) ?_; try simp only [Act.put, List.setIfInBounds_toArray, List.set_cons_zero, List.set_cons_succ]))
      refine seqE ?_
      go_wp2_with fail
      go_roundw
      case rel => exact ⟨j + 1, ra', rc', RX ++ [⟨.slice d1 k1 e1, sm, sc0, .slice d2 k2 e2, st⟩], by have := HLT.out; omega, by go_num, rfl, by rw [HTK.out]; show _ = _; rw [List.map_append, HRX.out]; rfl, by rw [flatS_snoc]; exact HFIN.out⟩
      case measure => simp [intOf]; have := HLT.out; omega
    · obtain rfl : n = j := by omega
      have h5 : Sys wr (upd m kw emp) (pureW (SX.map SeenX.x = S) :: blk pa (.cells #[.pointer (some ⟨p, 0, none⟩), vb, .slice sa n sc, .map (some mo)] 119 (0, 0)) :: own 3 1 vb B.length (B.map (Value.int .i64)) :: own 60 3 (.slice sa n sc) SX.length (flatS SX) :: mapT intKey mo O :: rowsT SX :: own 60 3 (.slice ra n rc) n (flatS RX) :: rowsT RX :: l) := by
        rw [← HN.out]
        exact (((((hR.front 6 rfl).front 6 rfl).front 6 rfl).front 6 rfl).front 6 rfl).addPureW HSX.out
      have h6 := Sys.put kw (Sys.close (f := watchF pa p B S O) ⟨vb, .slice sa n sc, mo, SX⟩ h5)
      have HFIN : Hid (Sys wr m (own 60 3 (.slice ra n rc) n (flatS RX) :: rowsT RX :: l)) := by
        have e : upd m kw (ex (watchF pa p B S O)) = m := upd_self HM.out
        rw [e] at h6
        exact h6
      have HRX2 : Hid (RX.map SeenX.x = S) := by show _ = _; rw [HRX.out, List.take_of_length_le (by rw [← HN.out]; exact Nat.le_refl _), HSX.out]
      clear hR hlt hj h5 h6
      go_wp2_with fail
      go_ret
      refine ⟨ra, rc, ?_⟩
      exact ⟨RX, rfl, HRX2.out, HFIN.out⟩
end
end Go.Proofs.Ytcfhkpjheemkgaa
