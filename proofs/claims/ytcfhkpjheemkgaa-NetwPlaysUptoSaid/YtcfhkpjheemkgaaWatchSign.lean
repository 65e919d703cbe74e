/-
  What who listens may send, and what it signs: adve.May, Sign.
-/
import Derived.Test.YtcfhkpjheemkgaaWatch
import Derived.Test.YtcfhkpjheemkgaaBlokOk
import Derived.Test.YtcfhkpjheemkgaaVaultD
namespace Go.Proofs.Ytcfhkpjheemkgaa
set_option linter.unusedSectionVars false
set_option linter.unnecessarySimpa false
set_option linter.unusedSimpArgs false
set_option linter.unusedVariables false
open Go.RowKit Go.MapKept
section
variable {w w' : World} {m : Nat → Thing} {l : List Thing} {pa p mo : Nat} {d : Wd} {X : WX} {B : List Int} {S : List (List UInt8 × Int × List UInt8)} {O : List (Int × Value)} {vb vs : Value}
theorem Sys.watchCell (h : Sys w m l) (hm : m 1 = watchT pa p B S O) : w.cell? ⟨pa, 0, none⟩ = some (.pointer (some ⟨p, 0, none⟩)) := by
  obtain ⟨⟨vb, vs, mo, SX⟩, h1⟩ := (h.lift 1 hm).open
  exact (cell_of_blk (h1.tail.nth 0 rfl) 0).trans rfl
set_option maxRecDepth 100000 in
set_option maxHeartbeats 1000000 in
theorem watch_may (P : MsgP) (hown : OwnMsg P) (hP : Cap l P.At) (hwf : P.wf) (hlen : P.bytes.length ≤ 1000000000) (hB : B.length ≤ 1000000) (h : Sys w m l) (hm : m 1 = watchT pa p B S O) :
    Calls Try.prog 69 #[.pointer (some ⟨pa, 0, none⟩), .agg P.cells.toArray] w fun z w' => z = .returned (.bool (decide (P.i.frm ∈ B))) ∧ Sys w' m l := by
  obtain ⟨frm, hfrm⟩ : ∃ x, x = P.i.frm := ⟨_, rfl⟩
  obtain ⟨cs, hcs⟩ : ∃ cs, cs = P.cells.toArray := ⟨_, rfl⟩
  have hsz : (Try.prog.info? 36).map (·.size) = some cs.size := by rw [hcs]; exact size19
  have hc1 : cs[1]? = some (.int .i64 frm) := by rw [hcs, hfrm]; rfl
  have HC := Lib.hid (fun (w : World) (l' : List Thing) (hP : Cap l' P.At) (h : Sys w m l') => mess_code_own P hown hP hwf hlen h)
  rw [← hcs] at HC ⊢
  rw [← hfrm]
  obtain ⟨n1, x1, EN1, EX1, ES1, H1⟩ := h.box (.cells cs 36 (0, 0))
  have HP := Lib.hid hP
  have HM := Lib.hid hm
  have HB := Lib.hid hB
  have HC1 := Lib.hid hc1
  clear h hP hcs hown hm hB hc1 hfrm hlen
  go_enter Try.func69, Try.ntmps69
  go_upto_region 1 with fail
  rw [EX1.out, EN1.out]
  have hb1 := H1.out.nth 0 rfl
  go_wp2_with (refine wpList_load_row rfl 36 _ rfl n1 rfl _ _ _ _ hb1 Try.underlying36 rfl hsz ?_)
  refine (HC.out x1 _ HP.out.push H1.out).mono ?_
  rintro z w2 ⟨v, rfl, h⟩
  have H2 := Lib.hid h.tail
  clear h hb1
  have q1 : w2.cell? ⟨n1, 1, none⟩ = some (.int .i64 frm) := (cell_of_blk (H2.out.nth 0 rfl) 1).trans HC1.out
  go_wp2_with fail
  refine (watch_bad frm HB.out H2.out HM.out).mono ?_
  rintro z w3 ⟨rfl, rfl⟩
  go_wp2_with fail
  go_ret
  exact ⟨rfl, H2.out.tail⟩
end
/-- The messages that are said here. -/
def voteP (frm view num : Int) : MsgP := (⟨⟨3, frm, 0, view, num, 0, 0, 0, 0, 0, 0, 0, 0, 0⟩, [], [], [], [], [], none, none, none, none, none, 0, 0, 0, 0, 0⟩ : MsgP)
def outP (frm view qb : Int) : MsgP := (⟨⟨4, frm, 0, view, 0, 0, qb, 0, 0, 0, 0, 0, 0, 0⟩, [], [], [], [], [], none, none, none, none, none, 0, 0, 0, 0, 0⟩ : MsgP)
def shareP (frm num : Int) : MsgP := (⟨⟨8, frm, 0, 0, num, 0, 0, 0, 0, 0, 0, 0, 0, 0⟩, [], [], [], [], [], none, none, none, none, none, 0, 0, 0, 0, 0⟩ : MsgP)
def blockP (frm : Int) (e : BlkX × Value × Value) (ba : Option Addr) (bc : Nat) : MsgP := (⟨⟨2, frm, 0, 0, 0, 0, 0, 0, 0, 0, 0, 0, 0, 0⟩, [], [], [], [], [e], none, none, none, none, ba, 0, 0, 0, 0, bc⟩ : MsgP)
theorem vote_own (frm view num : Int) : OwnMsg (voteP frm view num) := fun w m l h => mess_own_vote frm 0 view num 0 0 0 0 0 0 0 0 0 (.slice none 0 0) (.slice none 0 0) (.slice none 0 0) (.slice none 0 0) (.slice none 0 0) h
theorem out_own (frm view qb : Int) : OwnMsg (outP frm view qb) := fun w m l h => mess_own_out frm 0 view 0 0 qb 0 0 0 0 0 0 0 none 0 0 (.slice none 0 0) (.slice none 0 0) (.slice none 0 0) (.slice none 0 0) h
theorem share_own (frm num : Int) : OwnMsg (shareP frm num) := fun w m l h => mess_own_share frm 0 0 num 0 0 0 0 0 0 0 0 0 (.slice none 0 0) (.slice none 0 0) (.slice none 0 0) (.slice none 0 0) (.slice none 0 0) h
theorem block_own (frm : Int) (e : BlkX × Value × Value) (ba : Option Addr) (bc : Nat) : OwnMsg (blockP frm e ba bc) := fun w m l h => mess_own_block frm 0 0 0 0 0 0 0 0 0 0 0 0 ba bc (.slice none 0 0) (.slice none 0 0) (.slice none 0 0) (.slice none 0 0) h
theorem intsIn_nil (w : World) : IntsIn anyK w (.slice none 0 0) [] := SliceIn.nil _ _
theorem vote_at (frm view num : Int) (l : List Thing) : Cap l (voteP frm view num).At := fun w _ _ => ⟨intsIn_nil w, intsIn_nil w, intsIn_nil w, intsIn_nil w, SliceIn.nil _ _, fun e he => nomatch he⟩
theorem out_at (frm view qb : Int) (l : List Thing) : Cap l (outP frm view qb).At := fun w _ _ => ⟨intsIn_nil w, intsIn_nil w, intsIn_nil w, intsIn_nil w, SliceIn.nil _ _, fun e he => nomatch he⟩
theorem share_at (frm num : Int) (l : List Thing) : Cap l (shareP frm num).At := fun w _ _ => ⟨intsIn_nil w, intsIn_nil w, intsIn_nil w, intsIn_nil w, SliceIn.nil _ _, fun e he => nomatch he⟩
theorem block_at (frm : Int) (e : BlkX × Value × Value) (ba : Option Addr) (bc : Nat) {l : List Thing} (h : Cap l (fun w => BlksAt w ba bc [e])) : Cap l (blockP frm e ba bc).At := fun w m hs => ⟨intsIn_nil w, intsIn_nil w, intsIn_nil w, intsIn_nil w, h w m hs⟩
theorem zenv_wf : EnvX.wf ⟨0, 0, 0, 0⟩ := ⟨⟨by decide, by decide⟩, ⟨by decide, by decide⟩, by decide, by decide⟩
theorem vote_wf (frm view num : Int) : (voteP frm view num).wf := ⟨zenv_wf, fun e he => nomatch he⟩
theorem out_wf (frm view qb : Int) : (outP frm view qb).wf := ⟨zenv_wf, fun e he => nomatch he⟩
theorem share_wf (frm num : Int) : (shareP frm num).wf := ⟨zenv_wf, fun e he => nomatch he⟩
theorem block_wf (frm : Int) (e : BlkX × Value × Value) (ba : Option Addr) (bc : Nat) (h : ∀ x ∈ e.1.envs, x.wf) : (blockP frm e ba bc).wf := ⟨zenv_wf, fun y hy => by rcases List.mem_singleton.1 hy with rfl; exact h⟩
theorem vote_len (frm view num : Int) : (voteP frm view num).bytes.length ≤ 1000000000 := by rw [show (voteP frm view num).bytes = (voteP frm view num).headB from List.append_nil _]; exact Nat.le_trans (MsgP.head_length _ default (vote_at frm view num [] default (fun _ => emp) (Sys.start default).tail)) (by decide)
theorem out_len (frm view qb : Int) : (outP frm view qb).bytes.length ≤ 1000000000 := by rw [show (outP frm view qb).bytes = (outP frm view qb).headB from List.append_nil _]; exact Nat.le_trans (MsgP.head_length _ default (out_at frm view qb [] default (fun _ => emp) (Sys.start default).tail)) (by decide)
theorem share_len (frm num : Int) : (shareP frm num).bytes.length ≤ 1000000000 := by rw [show (shareP frm num).bytes = (shareP frm num).headB from List.append_nil _]; exact Nat.le_trans (MsgP.head_length _ default (share_at frm num [] default (fun _ => emp) (Sys.start default).tail)) (by decide)
theorem block_len {w : World} (frm : Int) (e : BlkX × Value × Value) (ba : Option Addr) (bc : Nat) (h : (blockP frm e ba bc).At w) : (blockP frm e ba bc).bytes.length ≤ 1000000000 := by
  have h1 := MsgP.head_length _ w h
  obtain ⟨h2, h3⟩ := h.b.2 e (List.mem_singleton.2 rfl)
  obtain ⟨_, _, _, _, _, _, h4⟩ := h2
  obtain ⟨_, _, _, _, _, _, h5⟩ := h3
  unfold MsgP.bytes
  rw [List.length_append]
  show _ + ([e].flatMap fun e => mBlkB e.1).length ≤ _
  rw [List.flatMap_cons, List.flatMap_nil, List.append_nil, mBlkB_length]
  omega
section
variable {w w' : World} {m : Nat → Thing} {l : List Thing} {pa p mo : Nat} {d : Wd} {X : WX} {B : List Int} {S : List (List UInt8 × Int × List UInt8)} {O : List (Int × Value)} {vb vs : Value}
set_option maxRecDepth 100000 in
set_option maxHeartbeats 2000000 in
theorem watch_sign_vote (frm view num : Int) (hfrm : (Lit.int .i64 frm).wf = true) (hB : B.length ≤ 1000000) (h : Sys w m l) (hm0 : m 0 = worldT p d X) (hm : m 1 = watchT pa p B S O) (hT : X.T.length ≤ 800000000) :
    Calls Try.prog 30 #[.pointer (some ⟨pa, 0, none⟩), .agg #[.int .i64 3, .int .i64 frm, .int .i64 0, .int .i64 view, .int .i64 num, .int .i64 0, .int .i64 0, .slice none 0 0, .int .i64 0, .slice none 0 0, .slice none 0 0, .int .i64 0, .int .i64 0, .slice none 0 0, .int .i64 0, .int .u64 0, .int .u64 0, .int .i64 0, .slice none 0 0]] w fun z w' => z = .returned (.bool (decide (frm ∈ B))) ∧ Sys w' (upd m 0 (worldT p d (if frm ∈ B then X.signB frm (voteB view num) else X))) l := by
  obtain ⟨n1, x1, EN1, EX1, ES1, H1⟩ := h.box (.cells #[.int .i64 3, .int .i64 frm, .int .i64 0, .int .i64 view, .int .i64 num, .int .i64 0, .int .i64 0, .slice none 0 0, .int .i64 0, .slice none 0 0, .slice none 0 0, .int .i64 0, .int .i64 0, .slice none 0 0, .int .i64 0, .int .u64 0, .int .u64 0, .int .i64 0, .slice none 0 0] 36 (0, 0))
  have HMAY : Hid (Calls Try.prog 69 #[.pointer (some ⟨pa, 0, none⟩), .agg #[.int .i64 3, .int .i64 frm, .int .i64 0, .int .i64 view, .int .i64 num, .int .i64 0, .int .i64 0, .slice none 0 0, .int .i64 0, .slice none 0 0, .slice none 0 0, .int .i64 0, .int .i64 0, .slice none 0 0, .int .i64 0, .int .u64 0, .int .u64 0, .int .i64 0, .slice none 0 0]] x1 fun z w' => z = .returned (.bool (decide (frm ∈ B))) ∧ Sys w' m (blk n1 (.cells #[.int .i64 3, .int .i64 frm, .int .i64 0, .int .i64 view, .int .i64 num, .int .i64 0, .int .i64 0, .slice none 0 0, .int .i64 0, .slice none 0 0, .slice none 0 0, .int .i64 0, .int .i64 0, .slice none 0 0, .int .i64 0, .int .u64 0, .int .u64 0, .int .i64 0, .slice none 0 0] 36 (0, 0)) :: l)) := watch_may (voteP frm view num) (vote_own frm view num) (vote_at frm view num _) (vote_wf frm view num) (vote_len frm view num) hB H1.out hm
  have HM0 := Lib.hid hm0
  have HM1 := Lib.hid hm
  have HT := Lib.hid hT
  have HF := Lib.hid hfrm
  clear hm0 hm hT hB hfrm
  by_cases hin : frm ∈ B
  · rw [if_pos hin]
    rw [decide_eq_true hin] at HMAY ⊢
    clear hin h
    go_enter Try.func30, Try.ntmps30
    go_upto_region 1 with fail
    rw [EX1.out, EN1.out]
    have hb1 := H1.out.nth 0 rfl
    go_wp2_with (refine wpList_load_row rfl 36 _ rfl n1 rfl _ _ _ _ hb1 Try.underlying36 rfl size19 ?_)
    refine HMAY.out.mono ?_
    rintro z w2 ⟨rfl, h⟩
    have H2 := Lib.hid h
    clear h hb1
    have q0 : w2.cell? ⟨n1, 0, none⟩ = some (.int .i64 3) := (cell_of_blk (H2.out.nth 0 rfl) 0).trans rfl
    go_upto_region 5 with fail
    clear q0
    refine wp_region_seq (fun x : World => x.heap[n1]? = some (.cells #[.int .i64 3, .int .i64 frm, .int .i64 0, .int .i64 view, .int .i64 num, .int .i64 0, .int .i64 0, .slice none 0 0, .int .i64 0, .slice none 0 0, .slice none 0 0, .int .i64 0, .int .i64 0, .slice none 0 0, .int .i64 0, .int .u64 0, .int .u64 0, .int .i64 0, .slice none 0 0] 36 (0, 0)) ∧ x.cell? ⟨pa, 0, none⟩ = some (.pointer (some ⟨p, 0, none⟩))) anyW [] [(0, 0, some 13), (1, 0, some 14), (2, 0, some 15), (3, 1, some 16), (5, 0, some 18), (6, 1, some 19), (7, 0, some 20), (8, 0, some 21), (9, 0, some 22), (10, 1, some 23), (11, 0, some 24), (12, 1, some 25), (13, 0, some 26), (14, 1, some 27), (4, 2, some 17), (15, 2, some 28), (16, 2, some 29)] (by kernel_rfl) (by kernel_rfl) (fun _ _ _ d _ h => by cases d <;> exact h) ⟨H2.out.drew.nth 0 rfl, H2.out.drew.watchCell HM1.out⟩ anyW.i ?_
    repeat (first | (refine seqW (v := ?_) rfl rfl (by kernel_rfl) ?_ ?_; rotate_left; (focus ((intro x; go_simp); try (with_reducible rfl))); try simp only [Act.put, List.setIfInBounds_toArray, List.set_cons_zero, List.set_cons_succ]) | (refine seqS (v := ?_) rfl rfl (by kernel_rfl) ?_ ?_; rotate_left; (focus (intro x hS; first | (obtain ⟨hS1, hS2⟩ := hS; have q1 : x.cell? ⟨n1, 1, none⟩ = some (.int .i64 frm) := (cell_of_blk hS1 1).trans rfl; have q3 : x.cell? ⟨n1, 3, none⟩ = some (.int .i64 view) := (cell_of_blk hS1 3).trans rfl; have q4 : x.cell? ⟨n1, 4, none⟩ = some (.int .i64 num) := (cell_of_blk hS1 4).trans rfl; go_simp; try (with_reducible rfl)))); try simp only [Act.put, List.setIfInBounds_toArray, List.set_cons_zero, List.set_cons_succ]) | (refine seqX rfl rfl (by kernel_rfl) ?_; try simp only [Act.put, List.setIfInBounds_toArray, List.set_cons_zero, List.set_cons_succ]))
    refine seqL rfl rfl (fun K hK => ?_)
    go_simp
    go_at_call 37
    refine (world_signs H2.out.drew HM0.out).mono ?_
    rintro z y1 ⟨rfl, rfl⟩
    go_wp2_with fail
    refine hK.out _ _ anyW.i ?_ (fun _ hSt => ?_)
    · exact ⟨H2.out.drew.nth 0 rfl, H2.out.drew.watchCell HM1.out⟩
    clear hSt hK K
    try simp only [Act.put, List.setIfInBounds_toArray, List.set_cons_zero, List.set_cons_succ]
    refine seqL rfl rfl (fun K hK => ?_)
    go_simp
    go_at_call 39
    refine (cert_vote view num H2.out.drew HM0.out (by have := HT.out; omega)).mono ?_
    rintro z y2 ⟨rfl, h⟩
    have H3 := Lib.hid h
    have HM0' := Lib.hid (upd_same m 0 (worldT p d (X.digest (voteB view num))))
    clear h
    go_wp2_with fail
    refine hK.out _ _ anyW.i ?_ (fun _ hSt => ?_)
    · exact ⟨H3.out.nth 0 rfl, H3.out.watchCell (upd_ne (by decide) HM1.out)⟩
    clear hSt hK K
    try simp only [Act.put, List.setIfInBounds_toArray, List.set_cons_zero, List.set_cons_succ]
    refine seqL rfl rfl (fun K hK => ?_)
    go_simp
    go_at_call 38
    refine (world_sign frm _ HF.out H3.out HM0'.out).mono ?_
    rintro z y3 ⟨rfl, h⟩
    rw [upd_upd] at h
    have HEND := Lib.hid h.tail
    have H4 := Lib.hid h
    clear h
    go_wp2_with fail
    refine hK.out _ _ anyW.i ?_ (fun _ hSt => ?_)
    · exact ⟨H4.out.nth 0 rfl, H4.out.watchCell (upd_ne (by decide) HM1.out)⟩
    clear hSt hK K
    try simp only [Act.put, List.setIfInBounds_toArray, List.set_cons_zero, List.set_cons_succ]
    refine seqE ?_
    go_wp2_with fail
    go_ret
    exact ⟨rfl, HEND.out⟩
  · rw [if_neg hin, upd_self HM0.out]
    rw [decide_eq_false hin] at HMAY ⊢
    clear hin h
    go_enter Try.func30, Try.ntmps30
    go_upto_region 1 with fail
    rw [EX1.out, EN1.out]
    have hb1 := H1.out.nth 0 rfl
    go_wp2_with (refine wpList_load_row rfl 36 _ rfl n1 rfl _ _ _ _ hb1 Try.underlying36 rfl size19 ?_)
    refine HMAY.out.mono ?_
    rintro z w2 ⟨rfl, h⟩
    have H2 := Lib.hid h.tail
    clear h hb1
    go_wp2_with fail
    go_ret
    exact ⟨rfl, H2.out⟩
set_option maxRecDepth 100000 in
set_option maxHeartbeats 2000000 in
theorem watch_sign_out (frm view qb : Int) (hfrm : (Lit.int .i64 frm).wf = true) (hB : B.length ≤ 1000000) (h : Sys w m l) (hm0 : m 0 = worldT p d X) (hm : m 1 = watchT pa p B S O) (hT : X.T.length ≤ 800000000) :
    Calls Try.prog 30 #[.pointer (some ⟨pa, 0, none⟩), .agg #[.int .i64 4, .int .i64 frm, .int .i64 0, .int .i64 view, .int .i64 0, .int .i64 0, .int .i64 qb, .slice none 0 0, .int .i64 0, .slice none 0 0, .slice none 0 0, .int .i64 0, .int .i64 0, .slice none 0 0, .int .i64 0, .int .u64 0, .int .u64 0, .int .i64 0, .slice none 0 0]] w fun z w' => z = .returned (.bool (decide (frm ∈ B))) ∧ Sys w' (upd m 0 (worldT p d (if frm ∈ B then X.signB frm (outB view 0) else X))) l := by
  obtain ⟨n1, x1, EN1, EX1, ES1, H1⟩ := h.box (.cells #[.int .i64 4, .int .i64 frm, .int .i64 0, .int .i64 view, .int .i64 0, .int .i64 0, .int .i64 qb, .slice none 0 0, .int .i64 0, .slice none 0 0, .slice none 0 0, .int .i64 0, .int .i64 0, .slice none 0 0, .int .i64 0, .int .u64 0, .int .u64 0, .int .i64 0, .slice none 0 0] 36 (0, 0))
  have HMAY : Hid (Calls Try.prog 69 #[.pointer (some ⟨pa, 0, none⟩), .agg #[.int .i64 4, .int .i64 frm, .int .i64 0, .int .i64 view, .int .i64 0, .int .i64 0, .int .i64 qb, .slice none 0 0, .int .i64 0, .slice none 0 0, .slice none 0 0, .int .i64 0, .int .i64 0, .slice none 0 0, .int .i64 0, .int .u64 0, .int .u64 0, .int .i64 0, .slice none 0 0]] x1 fun z w' => z = .returned (.bool (decide (frm ∈ B))) ∧ Sys w' m (blk n1 (.cells #[.int .i64 4, .int .i64 frm, .int .i64 0, .int .i64 view, .int .i64 0, .int .i64 0, .int .i64 qb, .slice none 0 0, .int .i64 0, .slice none 0 0, .slice none 0 0, .int .i64 0, .int .i64 0, .slice none 0 0, .int .i64 0, .int .u64 0, .int .u64 0, .int .i64 0, .slice none 0 0] 36 (0, 0)) :: l)) := watch_may (outP frm view qb) (out_own frm view qb) (out_at frm view qb _) (out_wf frm view qb) (out_len frm view qb) hB H1.out hm
  have HM0 := Lib.hid hm0
  have HM1 := Lib.hid hm
  have HT := Lib.hid hT
  have HF := Lib.hid hfrm
  clear hm0 hm hT hB hfrm
  by_cases hin : frm ∈ B
  · rw [if_pos hin]
    rw [decide_eq_true hin] at HMAY ⊢
    clear hin h
    go_enter Try.func30, Try.ntmps30
    go_upto_region 1 with fail
    rw [EX1.out, EN1.out]
    have hb1 := H1.out.nth 0 rfl
    go_wp2_with (refine wpList_load_row rfl 36 _ rfl n1 rfl _ _ _ _ hb1 Try.underlying36 rfl size19 ?_)
    refine HMAY.out.mono ?_
    rintro z w2 ⟨rfl, h⟩
    have H2 := Lib.hid h
    clear h hb1
    have q0 : w2.cell? ⟨n1, 0, none⟩ = some (.int .i64 4) := (cell_of_blk (H2.out.nth 0 rfl) 0).trans rfl
    go_upto_region 7 with fail
    clear q0
    refine wp_region_seq (fun x : World => x.heap[n1]? = some (.cells #[.int .i64 4, .int .i64 frm, .int .i64 0, .int .i64 view, .int .i64 0, .int .i64 0, .int .i64 qb, .slice none 0 0, .int .i64 0, .slice none 0 0, .slice none 0 0, .int .i64 0, .int .i64 0, .slice none 0 0, .int .i64 0, .int .u64 0, .int .u64 0, .int .i64 0, .slice none 0 0] 36 (0, 0)) ∧ x.cell? ⟨pa, 0, none⟩ = some (.pointer (some ⟨p, 0, none⟩))) anyW [] [(0, 0, some 32), (1, 0, some 33), (2, 0, some 34), (3, 1, some 35), (5, 0, some 37), (6, 1, some 38), (7, 0, some 39), (8, 0, some 40), (9, 0, some 41), (10, 1, some 42), (11, 0, some 43), (12, 1, some 44), (13, 0, some 45), (14, 0, some 46), (15, 1, some 47), (4, 2, some 36), (16, 2, some 48), (17, 2, some 49)] (by kernel_rfl) (by kernel_rfl) (fun _ _ _ d _ h => by cases d <;> exact h) ⟨H2.out.drew.nth 0 rfl, H2.out.drew.watchCell HM1.out⟩ anyW.i ?_
    repeat (first | (refine seqW (v := ?_) rfl rfl (by kernel_rfl) ?_ ?_; rotate_left; (focus ((intro x; go_simp); try (with_reducible rfl))); try simp only [Act.put, List.setIfInBounds_toArray, List.set_cons_zero, List.set_cons_succ]) | (refine seqS (v := ?_) rfl rfl (by kernel_rfl) ?_ ?_; rotate_left; (focus (intro x hS; first | (obtain ⟨hS1, hS2⟩ := hS; have q1 : x.cell? ⟨n1, 1, none⟩ = some (.int .i64 frm) := (cell_of_blk hS1 1).trans rfl; have q3 : x.cell? ⟨n1, 3, none⟩ = some (.int .i64 view) := (cell_of_blk hS1 3).trans rfl; have q5 : x.cell? ⟨n1, 5, none⟩ = some (.int .i64 0) := (cell_of_blk hS1 5).trans rfl; go_simp; try (with_reducible rfl)))); try simp only [Act.put, List.setIfInBounds_toArray, List.set_cons_zero, List.set_cons_succ]) | (refine seqX rfl rfl (by kernel_rfl) ?_; try simp only [Act.put, List.setIfInBounds_toArray, List.set_cons_zero, List.set_cons_succ]))
    refine seqL rfl rfl (fun K hK => ?_)
    go_simp
    go_at_call 37
    refine (world_signs H2.out.drew HM0.out).mono ?_
    rintro z y1 ⟨rfl, rfl⟩
    go_wp2_with fail
    refine hK.out _ _ anyW.i ?_ (fun _ hSt => ?_)
    · exact ⟨H2.out.drew.nth 0 rfl, H2.out.drew.watchCell HM1.out⟩
    clear hSt hK K
    try simp only [Act.put, List.setIfInBounds_toArray, List.set_cons_zero, List.set_cons_succ]
    refine seqL rfl rfl (fun K hK => ?_)
    go_simp
    go_at_call 43
    refine (cert_out view 0 H2.out.drew HM0.out (by have := HT.out; omega)).mono ?_
    rintro z y2 ⟨rfl, h⟩
    have H3 := Lib.hid h
    have HM0' := Lib.hid (upd_same m 0 (worldT p d (X.digest (outB view 0))))
    clear h
    go_wp2_with fail
    refine hK.out _ _ anyW.i ?_ (fun _ hSt => ?_)
    · exact ⟨H3.out.nth 0 rfl, H3.out.watchCell (upd_ne (by decide) HM1.out)⟩
    clear hSt hK K
    try simp only [Act.put, List.setIfInBounds_toArray, List.set_cons_zero, List.set_cons_succ]
    refine seqL rfl rfl (fun K hK => ?_)
    go_simp
    go_at_call 38
    refine (world_sign frm _ HF.out H3.out HM0'.out).mono ?_
    rintro z y3 ⟨rfl, h⟩
    rw [upd_upd] at h
    have HEND := Lib.hid h.tail
    have H4 := Lib.hid h
    clear h
    go_wp2_with fail
    refine hK.out _ _ anyW.i ?_ (fun _ hSt => ?_)
    · exact ⟨H4.out.nth 0 rfl, H4.out.watchCell (upd_ne (by decide) HM1.out)⟩
    clear hSt hK K
    try simp only [Act.put, List.setIfInBounds_toArray, List.set_cons_zero, List.set_cons_succ]
    refine seqE ?_
    go_wp2_with fail
    go_ret
    exact ⟨rfl, HEND.out⟩
  · rw [if_neg hin, upd_self HM0.out]
    rw [decide_eq_false hin] at HMAY ⊢
    clear hin h
    go_enter Try.func30, Try.ntmps30
    go_upto_region 1 with fail
    rw [EX1.out, EN1.out]
    have hb1 := H1.out.nth 0 rfl
    go_wp2_with (refine wpList_load_row rfl 36 _ rfl n1 rfl _ _ _ _ hb1 Try.underlying36 rfl size19 ?_)
    refine HMAY.out.mono ?_
    rintro z w2 ⟨rfl, h⟩
    have H2 := Lib.hid h.tail
    clear h hb1
    go_wp2_with fail
    go_ret
    exact ⟨rfl, H2.out⟩
set_option maxRecDepth 100000 in
set_option maxHeartbeats 2000000 in
theorem watch_sign_share (frm num : Int) (hfrm : (Lit.int .i64 frm).wf = true) (hB : B.length ≤ 1000000) (h : Sys w m l) (hm0 : m 0 = worldT p d X) (hm : m 1 = watchT pa p B S O) (hT : X.T.length ≤ 800000000) :
    Calls Try.prog 30 #[.pointer (some ⟨pa, 0, none⟩), .agg #[.int .i64 8, .int .i64 frm, .int .i64 0, .int .i64 0, .int .i64 num, .int .i64 0, .int .i64 0, .slice none 0 0, .int .i64 0, .slice none 0 0, .slice none 0 0, .int .i64 0, .int .i64 0, .slice none 0 0, .int .i64 0, .int .u64 0, .int .u64 0, .int .i64 0, .slice none 0 0]] w fun z w' => z = .returned (.bool (decide (frm ∈ B))) ∧ Sys w' (upd m 0 (worldT p d (if frm ∈ B then { X with C := shareC X.C frm num } else X))) l := by
  obtain ⟨n1, x1, EN1, EX1, ES1, H1⟩ := h.box (.cells #[.int .i64 8, .int .i64 frm, .int .i64 0, .int .i64 0, .int .i64 num, .int .i64 0, .int .i64 0, .slice none 0 0, .int .i64 0, .slice none 0 0, .slice none 0 0, .int .i64 0, .int .i64 0, .slice none 0 0, .int .i64 0, .int .u64 0, .int .u64 0, .int .i64 0, .slice none 0 0] 36 (0, 0))
  have HMAY : Hid (Calls Try.prog 69 #[.pointer (some ⟨pa, 0, none⟩), .agg #[.int .i64 8, .int .i64 frm, .int .i64 0, .int .i64 0, .int .i64 num, .int .i64 0, .int .i64 0, .slice none 0 0, .int .i64 0, .slice none 0 0, .slice none 0 0, .int .i64 0, .int .i64 0, .slice none 0 0, .int .i64 0, .int .u64 0, .int .u64 0, .int .i64 0, .slice none 0 0]] x1 fun z w' => z = .returned (.bool (decide (frm ∈ B))) ∧ Sys w' m (blk n1 (.cells #[.int .i64 8, .int .i64 frm, .int .i64 0, .int .i64 0, .int .i64 num, .int .i64 0, .int .i64 0, .slice none 0 0, .int .i64 0, .slice none 0 0, .slice none 0 0, .int .i64 0, .int .i64 0, .slice none 0 0, .int .i64 0, .int .u64 0, .int .u64 0, .int .i64 0, .slice none 0 0] 36 (0, 0)) :: l)) := watch_may (shareP frm num) (share_own frm num) (share_at frm num _) (share_wf frm num) (share_len frm num) hB H1.out hm
  have HM0 := Lib.hid hm0
  have HM1 := Lib.hid hm
  have HT := Lib.hid hT
  have HF := Lib.hid hfrm
  clear hm0 hm hT hB hfrm
  by_cases hin : frm ∈ B
  · rw [if_pos hin]
    rw [decide_eq_true hin] at HMAY ⊢
    clear hin h
    go_enter Try.func30, Try.ntmps30
    go_upto_region 1 with fail
    rw [EX1.out, EN1.out]
    have hb1 := H1.out.nth 0 rfl
    go_wp2_with (refine wpList_load_row rfl 36 _ rfl n1 rfl _ _ _ _ hb1 Try.underlying36 rfl size19 ?_)
    refine HMAY.out.mono ?_
    rintro z w2 ⟨rfl, h⟩
    have H2 := Lib.hid h
    clear h hb1
    have q0 : w2.cell? ⟨n1, 0, none⟩ = some (.int .i64 8) := (cell_of_blk (H2.out.nth 0 rfl) 0).trans rfl
    go_upto_region 12 with fail
    clear q0
    refine wp_region_seq (fun x : World => x.heap[n1]? = some (.cells #[.int .i64 8, .int .i64 frm, .int .i64 0, .int .i64 0, .int .i64 num, .int .i64 0, .int .i64 0, .slice none 0 0, .int .i64 0, .slice none 0 0, .slice none 0 0, .int .i64 0, .int .i64 0, .slice none 0 0, .int .i64 0, .int .u64 0, .int .u64 0, .int .i64 0, .slice none 0 0] 36 (0, 0)) ∧ x.cell? ⟨pa, 0, none⟩ = some (.pointer (some ⟨p, 0, none⟩))) anyW [] [(0, 0, some 71), (1, 0, some 72), (2, 0, some 73), (3, 1, some 74), (5, 0, some 76), (6, 1, some 77), (7, 0, some 78), (8, 1, some 79), (4, 2, some 75), (9, 2, some 80)] (by kernel_rfl) (by kernel_rfl) (fun _ _ _ d _ h => by cases d <;> exact h) ⟨H2.out.drew.nth 0 rfl, H2.out.drew.watchCell HM1.out⟩ anyW.i ?_
    repeat (first | (refine seqW (v := ?_) rfl rfl (by kernel_rfl) ?_ ?_; rotate_left; (focus ((intro x; go_simp); try (with_reducible rfl))); try simp only [Act.put, List.setIfInBounds_toArray, List.set_cons_zero, List.set_cons_succ]) | (refine seqS (v := ?_) rfl rfl (by kernel_rfl) ?_ ?_; rotate_left; (focus (intro x hS; first | (obtain ⟨hS1, hS2⟩ := hS; have q1 : x.cell? ⟨n1, 1, none⟩ = some (.int .i64 frm) := (cell_of_blk hS1 1).trans rfl; have q4 : x.cell? ⟨n1, 4, none⟩ = some (.int .i64 num) := (cell_of_blk hS1 4).trans rfl; go_simp; try (with_reducible rfl)))); try simp only [Act.put, List.setIfInBounds_toArray, List.set_cons_zero, List.set_cons_succ]) | (refine seqX rfl rfl (by kernel_rfl) ?_; try simp only [Act.put, List.setIfInBounds_toArray, List.set_cons_zero, List.set_cons_succ]))
    refine seqL rfl rfl (fun K hK => ?_)
    go_simp
    go_at_call 24
    refine (world_vault H2.out.drew HM0.out).mono ?_
    rintro z y1 ⟨rfl, rfl⟩
    go_wp2_with fail
    refine hK.out _ _ anyW.i ?_ (fun _ hSt => ?_)
    · exact ⟨H2.out.drew.nth 0 rfl, H2.out.drew.watchCell HM1.out⟩
    clear hSt hK K
    try simp only [Act.put, List.setIfInBounds_toArray, List.set_cons_zero, List.set_cons_succ]
    refine seqL rfl rfl (fun K hK => ?_)
    go_simp
    go_at_call 25
    refine (world_share frm num HF.out H2.out.drew HM0.out).mono ?_
    rintro z y3 ⟨rfl, h⟩
    have HEND := Lib.hid h.tail
    have H4 := Lib.hid h
    clear h
    go_wp2_with fail
    refine hK.out _ _ anyW.i ?_ (fun _ hSt => ?_)
    · exact ⟨H4.out.nth 0 rfl, H4.out.watchCell (upd_ne (by decide) HM1.out)⟩
    clear hSt hK K
    try simp only [Act.put, List.setIfInBounds_toArray, List.set_cons_zero, List.set_cons_succ]
    refine seqE ?_
    go_wp2_with fail
    go_ret
    exact ⟨rfl, HEND.out⟩
  · rw [if_neg hin, upd_self HM0.out]
    rw [decide_eq_false hin] at HMAY ⊢
    clear hin h
    go_enter Try.func30, Try.ntmps30
    go_upto_region 1 with fail
    rw [EX1.out, EN1.out]
    have hb1 := H1.out.nth 0 rfl
    go_wp2_with (refine wpList_load_row rfl 36 _ rfl n1 rfl _ _ _ _ hb1 Try.underlying36 rfl size19 ?_)
    refine HMAY.out.mono ?_
    rintro z w2 ⟨rfl, h⟩
    have H2 := Lib.hid h.tail
    clear h hb1
    go_wp2_with fail
    go_ret
    exact ⟨rfl, H2.out⟩
set_option maxRecDepth 100000 in
set_option maxHeartbeats 2000000 in
theorem watch_sign_block (b : BlkX) (ua va : Option Addr) (uc vc : Nat) (bb bo bc : Nat) (hfrm : (Lit.int .i64 b.author).wf = true) (hB : B.length ≤ 1000000) (hb : Cap l (fun y => BlksAt y (some ⟨bb, bo, none⟩) bc [(b, .slice ua b.by_.length uc, .slice va b.envs.length vc)])) (hwe : ∀ x ∈ b.envs, x.wf) (h : Sys w m l) (hm0 : m 0 = worldT p d X) (hm : m 1 = watchT pa p B S O) (hT : X.T.length ≤ 800000000) :
    Calls Try.prog 30 #[.pointer (some ⟨pa, 0, none⟩), .agg #[.int .i64 2, .int .i64 b.author, .int .i64 0, .int .i64 0, .int .i64 0, .int .i64 0, .int .i64 0, .slice none 0 0, .int .i64 0, .slice none 0 0, .slice none 0 0, .int .i64 0, .int .i64 0, .slice none 0 0, .int .i64 0, .int .u64 0, .int .u64 0, .int .i64 0, .slice (some ⟨bb, bo, none⟩) 1 bc]] w fun z w' => z = .returned (.bool (decide (b.author ∈ B))) ∧ Sys w' (upd m 0 (worldT p d (if b.author ∈ B then signBlk X b else X))) l := by
  obtain ⟨n1, x1, EN1, EX1, ES1, H1⟩ := h.box (.cells #[.int .i64 2, .int .i64 b.author, .int .i64 0, .int .i64 0, .int .i64 0, .int .i64 0, .int .i64 0, .slice none 0 0, .int .i64 0, .slice none 0 0, .slice none 0 0, .int .i64 0, .int .i64 0, .slice none 0 0, .int .i64 0, .int .u64 0, .int .u64 0, .int .i64 0, .slice (some ⟨bb, bo, none⟩) 1 bc] 36 (0, 0))
  have HMAY : Hid (Calls Try.prog 69 #[.pointer (some ⟨pa, 0, none⟩), .agg #[.int .i64 2, .int .i64 b.author, .int .i64 0, .int .i64 0, .int .i64 0, .int .i64 0, .int .i64 0, .slice none 0 0, .int .i64 0, .slice none 0 0, .slice none 0 0, .int .i64 0, .int .i64 0, .slice none 0 0, .int .i64 0, .int .u64 0, .int .u64 0, .int .i64 0, .slice (some ⟨bb, bo, none⟩) 1 bc]] x1 fun z w' => z = .returned (.bool (decide (b.author ∈ B))) ∧ Sys w' m (blk n1 (.cells #[.int .i64 2, .int .i64 b.author, .int .i64 0, .int .i64 0, .int .i64 0, .int .i64 0, .int .i64 0, .slice none 0 0, .int .i64 0, .slice none 0 0, .slice none 0 0, .int .i64 0, .int .i64 0, .slice none 0 0, .int .i64 0, .int .u64 0, .int .u64 0, .int .i64 0, .slice (some ⟨bb, bo, none⟩) 1 bc] 36 (0, 0)) :: l)) := watch_may (blockP b.author (b, .slice ua b.by_.length uc, .slice va b.envs.length vc) (some ⟨bb, bo, none⟩) bc) (block_own _ _ _ _) (block_at _ _ _ _ hb.push) (block_wf _ _ _ _ hwe) (block_len _ _ _ _ (block_at _ _ _ _ hb.push _ _ H1.out)) hB H1.out hm
  have HCB : Hid (Cap l (fun y => ∀ (j : Nat) (v : Value), ([.int .i64 b.view, .int .i64 b.author, .int .i64 b.jv, .int .i64 b.jb, .slice ua b.by_.length uc, .slice va b.envs.length vc] : List Value)[j]? = some v → y.cell? ⟨bb, bo + j, none⟩ = some v)) := fun y m' hs j v hv => by
    have := (hb y m' hs).get (i := 0) (by simp) j v hv
    simpa using this
  have HBA : Hid (Cap l (fun y => BlkAt y b ua uc va vc)) := fun y m' hs => ⟨_, _, rfl, ((hb y m' hs).2 _ (List.mem_singleton.2 rfl)).1, ((hb y m' hs).2 _ (List.mem_singleton.2 rfl)).2⟩
  have HWX := Lib.hid hwe
  have HM0 := Lib.hid hm0
  have HM1 := Lib.hid hm
  have HT := Lib.hid hT
  have HF := Lib.hid hfrm
  clear hm0 hm hT hB hfrm hb hwe
  by_cases hin : b.author ∈ B
  · rw [if_pos hin]
    rw [decide_eq_true hin] at HMAY ⊢
    clear hin h
    go_enter Try.func30, Try.ntmps30
    go_upto_region 1 with fail
    rw [EX1.out, EN1.out]
    have hb1 := H1.out.nth 0 rfl
    go_wp2_with (refine wpList_load_row rfl 36 _ rfl n1 rfl _ _ _ _ hb1 Try.underlying36 rfl size19 ?_)
    refine HMAY.out.mono ?_
    rintro z w2 ⟨rfl, h⟩
    have H2 := Lib.hid h
    clear h hb1
    have q0 : w2.cell? ⟨n1, 0, none⟩ = some (.int .i64 2) := (cell_of_blk (H2.out.nth 0 rfl) 0).trans rfl
    go_upto_region 9 with fail
    clear q0
    refine wp_region_seq (fun x : World => x.heap[n1]? = some (.cells #[.int .i64 2, .int .i64 b.author, .int .i64 0, .int .i64 0, .int .i64 0, .int .i64 0, .int .i64 0, .slice none 0 0, .int .i64 0, .slice none 0 0, .slice none 0 0, .int .i64 0, .int .i64 0, .slice none 0 0, .int .i64 0, .int .u64 0, .int .u64 0, .int .i64 0, .slice (some ⟨bb, bo, none⟩) 1 bc] 36 (0, 0)) ∧ x.cell? ⟨pa, 0, none⟩ = some (.pointer (some ⟨p, 0, none⟩)) ∧ ∀ (j : Nat) (v : Value), ([.int .i64 b.view, .int .i64 b.author, .int .i64 b.jv, .int .i64 b.jb, .slice ua b.by_.length uc, .slice va b.envs.length vc] : List Value)[j]? = some v → x.cell? ⟨bb, bo + j, none⟩ = some v) anyW [] [(0, 0, some 52), (1, 1, some 53), (2, 0, some 54), (3, 0, some 55), (4, 1, some 56), (5, 0, some 57), (6, 1, some 58), (7, 0, some 59)] (by kernel_rfl) (by kernel_rfl) (fun _ _ _ d _ h => by cases d <;> exact h) ⟨H2.out.drew.nth 0 rfl, H2.out.drew.watchCell HM1.out, HCB.out _ _ H2.out.drew.tail⟩ anyW.i ?_
    repeat (first | (refine seqW (v := ?_) rfl rfl (by kernel_rfl) ?_ ?_; rotate_left; (focus ((intro x; go_simp); try (with_reducible rfl))); try simp only [Act.put, List.setIfInBounds_toArray, List.set_cons_zero, List.set_cons_succ]) | (refine seqS (v := ?_) rfl rfl (by kernel_rfl) ?_ ?_; rotate_left; (focus (intro x hS; first | (obtain ⟨hS1, hS2, hS3⟩ := hS; have q1 : x.cell? ⟨n1, 1, none⟩ = some (.int .i64 b.author) := (cell_of_blk hS1 1).trans rfl; have q18 : x.cell? ⟨n1, 18, none⟩ = some (.slice (some ⟨bb, bo, none⟩) 1 bc) := (cell_of_blk hS1 18).trans rfl; have a1 : x.cell? ⟨bb, bo + 1, none⟩ = some (.int .i64 b.author) := hS3 1 _ rfl; go_simp; try (with_reducible rfl)))); try simp only [Act.put, List.setIfInBounds_toArray, List.set_cons_zero, List.set_cons_succ]) | (refine seqX rfl rfl (by kernel_rfl) ?_; try simp only [Act.put, List.setIfInBounds_toArray, List.set_cons_zero, List.set_cons_succ]))
    refine seqE ?_
    go_upto_region 10 with fail
    refine wp_region_seq (fun x : World => x.heap[n1]? = some (.cells #[.int .i64 2, .int .i64 b.author, .int .i64 0, .int .i64 0, .int .i64 0, .int .i64 0, .int .i64 0, .slice none 0 0, .int .i64 0, .slice none 0 0, .slice none 0 0, .int .i64 0, .int .i64 0, .slice none 0 0, .int .i64 0, .int .u64 0, .int .u64 0, .int .i64 0, .slice (some ⟨bb, bo, none⟩) 1 bc] 36 (0, 0)) ∧ x.cell? ⟨pa, 0, none⟩ = some (.pointer (some ⟨p, 0, none⟩)) ∧ ∀ (j : Nat) (v : Value), ([.int .i64 b.view, .int .i64 b.author, .int .i64 b.jv, .int .i64 b.jb, .slice ua b.by_.length uc, .slice va b.envs.length vc] : List Value)[j]? = some v → x.cell? ⟨bb, bo + j, none⟩ = some v) anyW [] [(0, 0, some 60), (1, 0, some 61), (2, 0, some 62), (3, 1, some 63), (4, 0, some 64), (5, 1, some 65), (6, 0, some 66), (7, 1, some 67), (8, 2, some 68)] (by kernel_rfl) (by kernel_rfl) (fun _ _ _ d _ h => by cases d <;> exact h) ⟨H2.out.drew.drew.nth 0 rfl, H2.out.drew.drew.watchCell HM1.out, HCB.out _ _ H2.out.drew.drew.tail⟩ anyW.i ?_
    repeat (first | (refine seqW (v := ?_) rfl rfl (by kernel_rfl) ?_ ?_; rotate_left; (focus ((intro x; go_simp); try (with_reducible rfl))); try simp only [Act.put, List.setIfInBounds_toArray, List.set_cons_zero, List.set_cons_succ]) | (refine seqS (v := ?_) rfl rfl (by kernel_rfl) ?_ ?_; rotate_left; (focus (intro x hS; first | (refine (exec_at 65 _ (by rfl) bb bo (by rfl) [.int .i64 b.view, .int .i64 b.author, .int .i64 b.jv, .int .i64 b.jb, .slice ua b.by_.length uc, .slice va b.envs.length vc] _ hS.2.2 Try.underlying65 rfl size6B).trans ?_; with_reducible rfl) | (obtain ⟨hS1, hS2, hS3⟩ := hS; have q1 : x.cell? ⟨n1, 1, none⟩ = some (.int .i64 b.author) := (cell_of_blk hS1 1).trans rfl; have q18 : x.cell? ⟨n1, 18, none⟩ = some (.slice (some ⟨bb, bo, none⟩) 1 bc) := (cell_of_blk hS1 18).trans rfl; have a1 : x.cell? ⟨bb, bo + 1, none⟩ = some (.int .i64 b.author) := hS3 1 _ rfl; go_simp; try (with_reducible rfl)))); try simp only [Act.put, List.setIfInBounds_toArray, List.set_cons_zero, List.set_cons_succ]) | (refine seqX rfl rfl (by kernel_rfl) ?_; try simp only [Act.put, List.setIfInBounds_toArray, List.set_cons_zero, List.set_cons_succ]))
    refine seqL rfl rfl (fun K hK => ?_)
    go_simp
    go_at_call 70
    refine (blok_sign b ua uc va vc HBA.out.push HWX.out HF.out H2.out.drew.drew HM0.out (by have := HT.out; omega)).mono ?_
    rintro z y3 ⟨rfl, h⟩
    have HEND := Lib.hid h.tail
    have H4 := Lib.hid h
    clear h
    go_wp2_with fail
    refine hK.out _ _ anyW.i ?_ (fun _ hSt => ?_)
    · exact ⟨H4.out.nth 0 rfl, H4.out.watchCell (upd_ne (by decide) HM1.out), HCB.out _ _ H4.out.tail⟩
    clear hSt hK K
    try simp only [Act.put, List.setIfInBounds_toArray, List.set_cons_zero, List.set_cons_succ]
    refine seqE ?_
    go_wp2_with fail
    go_ret
    exact ⟨rfl, HEND.out⟩
  · rw [if_neg hin, upd_self HM0.out]
    rw [decide_eq_false hin] at HMAY ⊢
    clear hin h
    go_enter Try.func30, Try.ntmps30
    go_upto_region 1 with fail
    rw [EX1.out, EN1.out]
    have hb1 := H1.out.nth 0 rfl
    go_wp2_with (refine wpList_load_row rfl 36 _ rfl n1 rfl _ _ _ _ hb1 Try.underlying36 rfl size19 ?_)
    refine HMAY.out.mono ?_
    rintro z w2 ⟨rfl, h⟩
    have H2 := Lib.hid h.tail
    clear h hb1
    go_wp2_with fail
    go_ret
    exact ⟨rfl, H2.out⟩
end
end Go.Proofs.Ytcfhkpjheemkgaa
