/-
  Drop: what leaves the pool by its digest.
-/
import Derived.Test.YtcfhkpjheemkgaaGreatMake
namespace Go.Proofs.YtcfhkpjheemkgaaGreat
set_option linter.unusedSectionVars false
set_option linter.unnecessarySimpa false
set_option linter.unusedSimpArgs false
set_option linter.unusedVariables false
open Go.RowKit Go.MapKept

section
variable {w w' : World} {m : Nat → Thing} {l r ts : List Thing} {p pp pl n : Nat} {d : Wd} {X : WX} {most : Int} {L : List EnvX} {e x : EnvX}
set_option maxRecDepth 100000 in
set_option maxHeartbeats 2000000 in
theorem drop_fun (nsk np : Nat) (I : List Int) (sa : Option Addr) (sk sc : Nat) (hsk : I.length = sk) (hsk2 : sk ≤ 1000000) (hskb : Cap r (fun y => y.heap[nsk]? = some (.cells #[.slice sa sk sc] 32 (0, 0)))) (hski : Cap r (fun y => IntsAt y sa I)) (hnp : Cap r (fun y => y.heap[np]? = some (.cells #[.pointer (some ⟨pp, 0, none⟩)] 30 (0, 0))))
    (hpp : Cap r (fun y => y.cell? ⟨pp, 0, none⟩ = some (.pointer (some ⟨p, 0, none⟩)))) (hwf : e.wf) (hin : envB e ∈ X.T) (hT : X.T.length ≤ 1000000000) (hm0 : m 0 = worldT p d X) (h : Sys w m r) :
    Calls Tryz.prog 69 #[.agg #[.int .i64 e.client, .int .u64 e.nonce, .int .u64 e.fee, .int .i64 e.cipher], .pointer (some ⟨nsk, 0, none⟩), .pointer (some ⟨np, 0, none⟩)] w fun z w' => z = .returned (.bool (decide (dg X.T (envB e) ∈ I))) ∧ Sys w' m r := by
  obtain ⟨ne, x1, EN1, EX1, ES1, H1⟩ := h.box (.cells #[.int .i64 e.client, .int .u64 e.nonce, .int .u64 e.fee, .int .i64 e.cipher] 55 (0, 0))
  have HDG := Lib.hid (world_digest e hwf H1.out.drew hm0 hT)
  change Hid (Calls _ _ #[_, .agg #[.int .i64 e.client, .int .u64 e.nonce, .int .u64 e.fee, .int .i64 e.cipher]] _ _) at HDG
  have HSAME : Hid ({ X with T := addT X.T (envB e) } = X) := by show _ = _; unfold addT; rw [if_pos hin]
  have HM0 := Lib.hid hm0
  have HSK := Lib.hid hskb
  have HSI := Lib.hid hski
  have HNP := Lib.hid hnp
  have HPP := Lib.hid hpp
  have HSKL := Lib.hid hsk
  have HSKB := Lib.hid hsk2
  clear h hwf hin hT hm0 hskb hski hnp hsk hsk2 hpp
  go_enter Tryz.func69, Tryz.ntmps69
  go_upto_region 1 with fail
  rw [EX1.out, EN1.out]
  refine wp_region_seq (fun x : World => x.heap[ne]? = some (.cells #[.int .i64 e.client, .int .u64 e.nonce, .int .u64 e.fee, .int .i64 e.cipher] 55 (0, 0)) ∧ x.heap[nsk]? = some (.cells #[.slice sa sk sc] 32 (0, 0)) ∧ x.heap[np]? = some (.cells #[.pointer (some ⟨pp, 0, none⟩)] 30 (0, 0)) ∧ x.cell? ⟨pp, 0, none⟩ = some (.pointer (some ⟨p, 0, none⟩))) anyW [] [(0, 1, some 5), (1, 1, some 6), (2, 0, some 7), (3, 0, some 8), (4, 1, some 9), (5, 1, some 10), (6, 2, some 11), (7, 2, some 12), (8, 0, some 4)] (by kernel_rfl) (by kernel_rfl) (fun _ _ _ d _ h => by cases d <;> exact h) ⟨H1.out.drew.nth 0 rfl, HSK.out _ _ H1.out.drew.tail, HNP.out _ _ H1.out.drew.tail, HPP.out _ _ H1.out.drew.tail⟩ anyW.i ?_
  repeat (first | (refine seqW (v := ?_) rfl rfl (by kernel_rfl) ?_ ?_; rotate_left; (focus ((intro x; go_simp); try (with_reducible rfl))); try simp only [Act.put, List.setIfInBounds_toArray, List.set_cons_zero, List.set_cons_succ]) | (refine seqS (v := ?_) rfl rfl (by kernel_rfl) ?_ ?_; rotate_left; (focus (intro x hS; first | (refine (exec_row 55 _ (by rfl) ne (by rfl) _ _ _ _ hS.1 Tryz.underlying55 rfl size4).trans ?_; with_reducible rfl) | (obtain ⟨hS1, hS2, hS3, hS4⟩ := hS; have s0 := cell_of_blk hS2 0; have p0 := cell_of_blk hS3 0; simp at s0 p0; go_simp; try (with_reducible rfl)))); try simp only [Act.put, List.setIfInBounds_toArray, List.set_cons_zero, List.set_cons_succ]) | (refine seqX rfl rfl (by kernel_rfl) ?_; try simp only [Act.put, List.setIfInBounds_toArray, List.set_cons_zero, List.set_cons_succ]))
  refine seqL rfl rfl (fun K hK => ?_)
  go_simp
  go_at_call 22
  refine (HDG.out).mono ?_
  rintro z z1 ⟨rfl, h⟩
  rw [HSAME.out, upd_self HM0.out] at h
  have H2 := Lib.hid h
  clear h
  refine hK.out _ _ anyW.i ?_ (fun _ hSt => ?_)
  · exact ⟨H2.out.nth 0 rfl, HSK.out _ _ H2.out.tail, HNP.out _ _ H2.out.tail, HPP.out _ _ H2.out.tail⟩
  clear hSt hK K
  try simp only [Act.put, List.setIfInBounds_toArray, List.set_cons_zero, List.set_cons_succ]
  refine seqL rfl rfl (fun K hK => ?_)
  go_simp
  go_at_call 70
  refine (ints_contains (dg X.T (envB e)) HSKL.out HSKB.out (HSI.out _ _ H2.out.tail)).mono ?_
  rintro z z2 ⟨rfl, rfl⟩
  refine hK.out _ _ anyW.i ?_ (fun _ hSt => ?_)
  · exact ⟨H2.out.nth 0 rfl, HSK.out _ _ H2.out.tail, HNP.out _ _ H2.out.tail, HPP.out _ _ H2.out.tail⟩
  clear hSt hK K
  try simp only [Act.put, List.setIfInBounds_toArray, List.set_cons_zero, List.set_cons_succ]
  repeat (first | (refine seqW (v := ?_) rfl rfl (by kernel_rfl) ?_ ?_; rotate_left; (focus ((intro x; go_simp); try (with_reducible rfl))); try simp only [Act.put, List.setIfInBounds_toArray, List.set_cons_zero, List.set_cons_succ]) | (refine seqS (v := ?_) rfl rfl (by kernel_rfl) ?_ ?_; rotate_left; (focus (intro x hS; first | (refine (exec_row 55 _ (by rfl) ne (by rfl) _ _ _ _ hS.1 Tryz.underlying55 rfl size4).trans ?_; with_reducible rfl) | (obtain ⟨hS1, hS2, hS3, hS4⟩ := hS; have s0 := cell_of_blk hS2 0; have p0 := cell_of_blk hS3 0; simp at s0 p0; go_simp; try (with_reducible rfl)))); try simp only [Act.put, List.setIfInBounds_toArray, List.set_cons_zero, List.set_cons_succ]) | (refine seqX rfl rfl (by kernel_rfl) ?_; try simp only [Act.put, List.setIfInBounds_toArray, List.set_cons_zero, List.set_cons_succ]))
  refine seqE ?_
  go_wp2_with fail
  go_ret
  exact ⟨rfl, H2.out.tail⟩
theorem enter_drop (zs : Array Value) (x : World) : (callFunc 69 zs).run Tryz.prog x = .ok (.enter 69 zs) x := by kernel_rfl
set_option maxRecDepth 100000 in
set_option maxHeartbeats 8000000 in
theorem pool_drop (I : List Int) (sa : Option Addr) (sk sc : Nat) (hsk : I.length = sk) (hsk2 : sk ≤ 1000000) (hski : Cap l (fun y => IntsAt y sa I)) (hwf : ∀ e ∈ L, e.wf) (hin : ∀ e ∈ L, envB e ∈ X.T) (hL : L.length ≤ 1000000) (hT : X.T.length ≤ 1000000000) (hm0 : m 0 = worldT p d X) (hm3 : m 3 = poolT pp p most L) (h : Sys w m l) :
    Calls Tryz.prog 23 #[.pointer (some ⟨pp, 0, none⟩), .slice sa sk sc] w fun z w' => z = .returned (.tuple #[]) ∧ Sys w' (upd m 3 (poolT pp p most (L.filter fun e => !(decide (dg X.T (envB e) ∈ I))))) l := by
  obtain ⟨np, x1, EN1, EX1, ES1, H1⟩ := h.box (.cells #[.pointer (some ⟨pp, 0, none⟩)] 30 (0, 0))
  obtain ⟨nsk, x2, EN2, EX2, ES2, H2⟩ := Sys.box' H1 ES1 (.cells #[.slice sa sk sc] 32 (0, 0))
  obtain ⟨v, h1⟩ := (H2.out.lift 3 hm3).open
  obtain ⟨va, k, vc, rfl, hk⟩ := (h1.front 1 rfl).getOwn.slice
  obtain rfl := hk.out
  replace h1 : Sys x2 (upd m 3 emp) (blk pp (.cells #[.pointer (some ⟨p, 0, none⟩), .int .i64 most, .slice va L.length vc] 86 (0, 0)) :: own 55 4 (.slice va L.length vc) L.length (flatE L) :: blk nsk (.cells #[.slice sa sk sc] 32 (0, 0)) :: blk np (.cells #[.pointer (some ⟨pp, 0, none⟩)] 30 (0, 0)) :: l) := h1
  have H3 := Lib.hid h1.swap
  have hm0' : (upd m 3 emp) 0 = worldT p d X := upd_ne (by decide) hm0
  have HF : Hid (∀ e ∈ L, ∀ (j : Nat) w ts m', j < 0 + 2 * L.length → m' = upd m 3 emp → Sys w m' (ts ++ (blk pp (.cells #[.pointer (some ⟨p, 0, none⟩), .int .i64 most, .slice va L.length vc] 86 (0, 0)) :: blk nsk (.cells #[.slice sa sk sc] 32 (0, 0)) :: blk np (.cells #[.pointer (some ⟨pp, 0, none⟩)] 30 (0, 0)) :: l)) → Calls Tryz.prog 69 #[.agg #[.int .i64 e.client, .int .u64 e.nonce, .int .u64 e.fee, .int .i64 e.cipher], .pointer (some ⟨nsk, 0, none⟩), .pointer (some ⟨np, 0, none⟩)] w fun z w' => z = .returned (.bool (decide (dg X.T (envB e) ∈ I))) ∧ ∃ m'', m'' = upd m 3 emp ∧ Sys w' m'' (ts ++ (blk pp (.cells #[.pointer (some ⟨p, 0, none⟩), .int .i64 most, .slice va L.length vc] 86 (0, 0)) :: blk nsk (.cells #[.slice sa sk sc] 32 (0, 0)) :: blk np (.cells #[.pointer (some ⟨pp, 0, none⟩)] 30 (0, 0)) :: l))) := by
    intro e he j w ts m' _ hm' hs
    subst hm'
    exact (drop_fun nsk np I sa sk sc hsk hsk2 (Cap.app fun y m' hs => hs.nth 1 rfl) (Cap.app (hski.push.push.push)) (Cap.app fun y m' hs => hs.nth 2 rfl) (Cap.app fun y m' hs => cell_of_blk (hs.nth 0 rfl) 0) (hwf e he) (hin e he) hT hm0' hs).mono fun z w' ⟨h1, h2⟩ => ⟨h1, _, rfl, h2⟩
  have HDF := Lib.hid (env_delfunc2 69 enter_drop (.pointer (some ⟨nsk, 0, none⟩)) (.pointer (some ⟨np, 0, none⟩)) (fun e => decide (dg X.T (envB e) ∈ I)) L va vc L.length rfl hL (fun _ m' => m' = upd m 3 emp) 0 HF.out rfl H3.out.drew)
  clear h h1 hk hsk hsk2 hski hwf hin hL hT hm0 hm3 hm0' HF
  go_enter Tryz.func23, Tryz.ntmps23
  go_upto_region 1 with fail
  rw [EX1.out, EX2.out, EN2.out, EN1.out]
  refine wp_region_seq (fun x : World => x.cell? ⟨pp, 2, none⟩ = some (.slice va L.length vc)) (fun x : World => x.heap[np]? = some (.cells #[.pointer (some ⟨pp, 0, none⟩)] 30 (0, 0))) [6] [(0, 5, some 4), (1, 5, some 5), (2, 0, some 6), (3, 0, some 7), (4, 1, some 8), (5, 0, some 9), (6, 3, some 10), (7, 0, some 11), (8, 0, some 12), (9, 3, none)] (by kernel_rfl) (by kernel_rfl) (fun _ _ _ d _ h => by cases d <;> exact h) (cell_of_blk (H3.out.drew.nth 1 rfl) 2) (H3.out.drew.nth 3 rfl) ?_
  repeat (first | (refine seqW (v := ?_) rfl rfl (by kernel_rfl) ?_ ?_; rotate_left; (focus ((intro x; go_simp); try (with_reducible rfl))); try simp only [Act.put, List.setIfInBounds_toArray, List.set_cons_zero, List.set_cons_succ]) | (refine seqS (v := ?_) rfl rfl (by kernel_rfl) ?_ ?_; rotate_left; (focus (intro x hS; first | (go_simp; try (with_reducible rfl)))); try simp only [Act.put, List.setIfInBounds_toArray, List.set_cons_zero, List.set_cons_succ]) | (refine seqP (v := ?_) rfl rfl (by kernel_rfl) ?_ ?_; rotate_left; (focus (intro x hS; first | (have p0 := cell_of_blk hS 0; simp at p0; go_simp; try (with_reducible rfl)))); try simp only [Act.put, List.setIfInBounds_toArray, List.set_cons_zero, List.set_cons_succ]) | (refine seqX rfl rfl (by kernel_rfl) ?_; try simp only [Act.put, List.setIfInBounds_toArray, List.set_cons_zero, List.set_cons_succ]))
  refine seqT rfl rfl (fun K hK => ?_)
  go_simp
  go_at_call 68
  refine HDF.out.mono ?_
  rintro z z2 ⟨rfl, _, m', _, rfl, h⟩
  have H4 := Lib.hid h.swap
  have cp := cell_of_blk (H4.out.nth 0 rfl) 2
  simp at cp
  have fp := frozen_of_blk (H4.out.nth 0 rfl) 2
  clear h
  refine hK.out _ _ ?_ (fun _ => ?_)
  · exact H4.out.nth 3 rfl
  clear hK K
  try simp only [Act.put, List.setIfInBounds_toArray, List.set_cons_zero, List.set_cons_succ]
  repeat (first | (refine seqW (v := ?_) rfl rfl (by kernel_rfl) ?_ ?_; rotate_left; (focus ((intro x; go_simp); try (with_reducible rfl))); try simp only [Act.put, List.setIfInBounds_toArray, List.set_cons_zero, List.set_cons_succ]) | (refine seqS (v := ?_) rfl rfl (by kernel_rfl) ?_ ?_; rotate_left; (focus (intro x hS; first | (go_simp; try (with_reducible rfl)))); try simp only [Act.put, List.setIfInBounds_toArray, List.set_cons_zero, List.set_cons_succ]) | (refine seqP (v := ?_) rfl rfl (by kernel_rfl) ?_ ?_; rotate_left; (focus (intro x hS; first | (have p0 := cell_of_blk hS 0; simp at p0; go_simp; try (with_reducible rfl)))); try simp only [Act.put, List.setIfInBounds_toArray, List.set_cons_zero, List.set_cons_succ]) | (refine seqX rfl rfl (by kernel_rfl) ?_; try simp only [Act.put, List.setIfInBounds_toArray, List.set_cons_zero, List.set_cons_succ]))
  refine seqT rfl rfl (fun K hK => ?_)
  go_simp
  refine hK.out _ _ ?_ (fun _ => ?_)
  · exact (H4.out.setCell (i := 2) _).nth 3 rfl
  clear hK K
  try simp only [Act.put, List.setIfInBounds_toArray, List.set_cons_zero, List.set_cons_succ]
  refine seqE ?_
  go_wp2_with fail
  go_end0
  refine ⟨rfl, ?_⟩
  have h9 := Sys.put 3 (Sys.close (f := poolF pp p most (L.filter fun e => !(decide (dg X.T (envB e) ∈ I)))) (.slice va (L.filter fun e => !(decide (dg X.T (envB e) ∈ I))).length vc) (H4.out.setCell (i := 2) _))
  exact h9.tail.tail
end
end Go.Proofs.YtcfhkpjheemkgaaGreat
