/-
  mess.own of any message; mess.Same of two; mess.Code of any.
-/
import Derived.Test.YtcfhkpjheemkgaaMessOwnB
import Derived.Test.YtcfhkpjheemkgaaMessCode
namespace Go.Proofs.Ytcfhkpjheemkgaa
set_option linter.unusedSectionVars false
set_option linter.unnecessarySimpa false
set_option linter.unusedSimpArgs false
set_option linter.unusedVariables false
open Go.RowKit Go.MapKept

def zeroI : MsgI := ⟨0, 0, 0, 0, 0, 0, 0, 0, 0, 0, 0, 0, 0, 0⟩
def baseI (i : MsgI) : MsgI := { zeroI with kind := i.kind, frm := i.frm, to_ := i.to_ }
def zeroP : MsgP := ⟨zeroI, [], [], [], [], [], none, none, none, none, none, 0, 0, 0, 0, 0⟩
/-- A message with the fields of its kind alone. -/
def MsgP.own (P : MsgP) : MsgP :=
  if P.i.kind = 1 then { zeroP with i := { baseI P.i with ec := P.i.ec, en := P.i.en, ef := P.i.ef, eci := P.i.eci } }
  else if P.i.kind = 2 ∨ P.i.kind = 7 then { zeroP with i := baseI P.i, E := P.E, ba := P.ba, bc := P.bc }
  else if P.i.kind = 3 then { zeroP with i := { baseI P.i with view := P.i.view, num := P.i.num } }
  else if P.i.kind = 4 ∨ P.i.kind = 6 then { zeroP with i := { baseI P.i with view := P.i.view, qv := P.i.qv, qb := P.i.qb }, q := P.q, qa := P.qa, qc := P.qc }
  else if P.i.kind = 5 then
    if P.i.num = 1 then { zeroP with i := { baseI P.i with num := P.i.num, tv := P.i.tv, hv := P.i.hv, hb := P.i.hb }, t := P.t, h := P.h, g := P.g, ta := P.ta, ha := P.ha, ga := P.ga, tc := P.tc, hc := P.hc, gc := P.gc }
    else { zeroP with i := { baseI P.i with num := P.i.num, qv := P.i.qv, qb := P.i.qb }, q := P.q, qa := P.qa, qc := P.qc }
  else if P.i.kind = 8 then { zeroP with i := { baseI P.i with num := P.i.num } }
  else zeroP
/-- Whether it is of a kind. -/
def MsgP.isOne (P : MsgP) : Bool :=
  if P.i.kind = 2 then decide ((P.E.length : Int) = 1)
  else if P.i.kind = 7 then decide ((P.E.length : Int) ≤ 1000)
  else if P.i.kind = 5 then decide (P.i.num = 0 ∨ P.i.num = 1)
  else decide (1 ≤ P.i.kind ∧ P.i.kind ≤ 8)
section
variable {w w' : World} {m : Nat → Thing} {l : List Thing}
theorem mess_own (P : MsgP) (h : Sys w m l) : Calls Try.prog 78 #[.agg P.cells.toArray] w fun z w' => z = .returned (.tuple #[.agg P.own.cells.toArray, .bool P.isOne]) ∧ Sys w' m l := by
  obtain ⟨⟨ik, ifr, ito, iv, im, qv, qb, tv, hv, hb, ec, en, ef, ei⟩, IQ, IT, IH, IG, E, qa, ta, ha, ga, ba, qc, tc, hc, gc, bc⟩ := P
  by_cases h1 : ik = 1
  · subst h1
    exact mess_own_env ifr ito iv im qv qb tv hv hb ec en ef ei (.slice qa IQ.length qc) (.slice ta IT.length tc) (.slice ha IH.length hc) (.slice ga IG.length gc) (.slice ba E.length bc) h
  by_cases h2 : ik = 2
  · subst h2
    exact mess_own_blocks ifr ito iv im qv qb tv hv hb ec en ef ei ba E.length bc (.slice qa IQ.length qc) (.slice ta IT.length tc) (.slice ha IH.length hc) (.slice ga IG.length gc) h
  by_cases h7 : ik = 7
  · subst h7
    exact mess_own_tell ifr ito iv im qv qb tv hv hb ec en ef ei ba E.length bc (.slice qa IQ.length qc) (.slice ta IT.length tc) (.slice ha IH.length hc) (.slice ga IG.length gc) h
  by_cases h3 : ik = 3
  · subst h3
    exact mess_own_vote ifr ito iv im qv qb tv hv hb ec en ef ei (.slice qa IQ.length qc) (.slice ta IT.length tc) (.slice ha IH.length hc) (.slice ga IG.length gc) (.slice ba E.length bc) h
  by_cases h4 : ik = 4
  · subst h4
    exact mess_own_out ifr ito iv im qv qb tv hv hb ec en ef ei qa IQ.length qc (.slice ta IT.length tc) (.slice ha IH.length hc) (.slice ga IG.length gc) (.slice ba E.length bc) h
  by_cases h6 : ik = 6
  · subst h6
    exact mess_own_ask ifr ito iv im qv qb tv hv hb ec en ef ei qa IQ.length qc (.slice ta IT.length tc) (.slice ha IH.length hc) (.slice ga IG.length gc) (.slice ba E.length bc) h
  by_cases h8 : ik = 8
  · subst h8
    exact mess_own_share ifr ito iv im qv qb tv hv hb ec en ef ei (.slice qa IQ.length qc) (.slice ta IT.length tc) (.slice ha IH.length hc) (.slice ga IG.length gc) (.slice ba E.length bc) h
  by_cases h5 : ik = 5
  · subst h5
    by_cases n1 : im = 1
    · subst n1
      exact mess_own_cert1 ifr ito iv qv qb tv hv hb ec en ef ei qa ta ha ga IQ.length qc IT.length tc IH.length hc IG.length gc (.slice ba E.length bc) h
    by_cases n0 : im = 0
    · subst n0
      exact mess_own_cert0 ifr ito iv qv qb tv hv hb ec en ef ei qa ta ha ga IQ.length qc IT.length tc IH.length hc IG.length gc (.slice ba E.length bc) h
    · have e1 : MsgP.isOne ⟨⟨5, ifr, ito, iv, im, qv, qb, tv, hv, hb, ec, en, ef, ei⟩, IQ, IT, IH, IG, E, qa, ta, ha, ga, ba, qc, tc, hc, gc, bc⟩ = false := by
        unfold MsgP.isOne
        exact decide_eq_false (fun h => h.elim n0 n1)
      have e2 : MsgP.own ⟨⟨5, ifr, ito, iv, im, qv, qb, tv, hv, hb, ec, en, ef, ei⟩, IQ, IT, IH, IG, E, qa, ta, ha, ga, ba, qc, tc, hc, gc, bc⟩ = { zeroP with i := { baseI ⟨5, ifr, ito, iv, im, qv, qb, tv, hv, hb, ec, en, ef, ei⟩ with num := im, qv := qv, qb := qb }, q := IQ, qa := qa, qc := qc } := by
        unfold MsgP.own
        exact if_neg n1
      rw [e1, e2]
      exact mess_own_certN ifr ito iv im qv qb tv hv hb ec en ef ei qa ta ha ga IQ.length qc IT.length tc IH.length hc IG.length gc (.slice ba E.length bc) ⟨n0, n1⟩ h
  have hk : ik < 1 ∨ 8 < ik := by omega
  have e1 : MsgP.isOne ⟨⟨ik, ifr, ito, iv, im, qv, qb, tv, hv, hb, ec, en, ef, ei⟩, IQ, IT, IH, IG, E, qa, ta, ha, ga, ba, qc, tc, hc, gc, bc⟩ = false := by
    unfold MsgP.isOne
    dsimp only
    rw [if_neg h2, if_neg h7, if_neg h5]
    exact decide_eq_false (by omega)
  have e2 : MsgP.own ⟨⟨ik, ifr, ito, iv, im, qv, qb, tv, hv, hb, ec, en, ef, ei⟩, IQ, IT, IH, IG, E, qa, ta, ha, ga, ba, qc, tc, hc, gc, bc⟩ = zeroP := by
    unfold MsgP.own
    dsimp only
    rw [if_neg h1, if_neg (by omega), if_neg h3, if_neg (by omega), if_neg h5, if_neg h8]
  rw [e1, e2]
  exact mess_own_none ik ifr ito iv im qv qb tv hv hb ec en ef ei (.slice qa IQ.length qc) (.slice ta IT.length tc) (.slice ha IH.length hc) (.slice ga IG.length gc) (.slice ba E.length bc) hk h
theorem own_rows (P : MsgP) : (P.own.q = P.q ∧ P.own.qa = P.qa ∧ P.own.qc = P.qc ∨ P.own.q = [] ∧ P.own.qa = none ∧ P.own.qc = 0) ∧ (P.own.t = P.t ∧ P.own.ta = P.ta ∧ P.own.tc = P.tc ∨ P.own.t = [] ∧ P.own.ta = none ∧ P.own.tc = 0) ∧
    (P.own.h = P.h ∧ P.own.ha = P.ha ∧ P.own.hc = P.hc ∨ P.own.h = [] ∧ P.own.ha = none ∧ P.own.hc = 0) ∧ (P.own.g = P.g ∧ P.own.ga = P.ga ∧ P.own.gc = P.gc ∨ P.own.g = [] ∧ P.own.ga = none ∧ P.own.gc = 0) ∧
    (P.own.E = P.E ∧ P.own.ba = P.ba ∧ P.own.bc = P.bc ∨ P.own.E = [] ∧ P.own.ba = none ∧ P.own.bc = 0) := by
  unfold MsgP.own
  split
  · exact ⟨.inr ⟨rfl, rfl, rfl⟩, .inr ⟨rfl, rfl, rfl⟩, .inr ⟨rfl, rfl, rfl⟩, .inr ⟨rfl, rfl, rfl⟩, .inr ⟨rfl, rfl, rfl⟩⟩
  split
  · exact ⟨.inr ⟨rfl, rfl, rfl⟩, .inr ⟨rfl, rfl, rfl⟩, .inr ⟨rfl, rfl, rfl⟩, .inr ⟨rfl, rfl, rfl⟩, .inl ⟨rfl, rfl, rfl⟩⟩
  split
  · exact ⟨.inr ⟨rfl, rfl, rfl⟩, .inr ⟨rfl, rfl, rfl⟩, .inr ⟨rfl, rfl, rfl⟩, .inr ⟨rfl, rfl, rfl⟩, .inr ⟨rfl, rfl, rfl⟩⟩
  split
  · exact ⟨.inl ⟨rfl, rfl, rfl⟩, .inr ⟨rfl, rfl, rfl⟩, .inr ⟨rfl, rfl, rfl⟩, .inr ⟨rfl, rfl, rfl⟩, .inr ⟨rfl, rfl, rfl⟩⟩
  split
  · split
    · exact ⟨.inr ⟨rfl, rfl, rfl⟩, .inl ⟨rfl, rfl, rfl⟩, .inl ⟨rfl, rfl, rfl⟩, .inl ⟨rfl, rfl, rfl⟩, .inr ⟨rfl, rfl, rfl⟩⟩
    · exact ⟨.inl ⟨rfl, rfl, rfl⟩, .inr ⟨rfl, rfl, rfl⟩, .inr ⟨rfl, rfl, rfl⟩, .inr ⟨rfl, rfl, rfl⟩, .inr ⟨rfl, rfl, rfl⟩⟩
  split
  · exact ⟨.inr ⟨rfl, rfl, rfl⟩, .inr ⟨rfl, rfl, rfl⟩, .inr ⟨rfl, rfl, rfl⟩, .inr ⟨rfl, rfl, rfl⟩, .inr ⟨rfl, rfl, rfl⟩⟩
  · exact ⟨.inr ⟨rfl, rfl, rfl⟩, .inr ⟨rfl, rfl, rfl⟩, .inr ⟨rfl, rfl, rfl⟩, .inr ⟨rfl, rfl, rfl⟩, .inr ⟨rfl, rfl, rfl⟩⟩
theorem MsgP.At.own {P : MsgP} (h : P.At w) : P.own.At w := by
  obtain ⟨h1, h2, h3, h4, h5⟩ := own_rows P
  refine ⟨?_, ?_, ?_, ?_, ?_⟩
  · rcases h1 with ⟨a, b, c⟩ | ⟨a, b, c⟩ <;> rw [a, b, c]
    · exact h.q
    · exact SliceIn.nil _ _
  · rcases h2 with ⟨a, b, c⟩ | ⟨a, b, c⟩ <;> rw [a, b, c]
    · exact h.t
    · exact SliceIn.nil _ _
  · rcases h3 with ⟨a, b, c⟩ | ⟨a, b, c⟩ <;> rw [a, b, c]
    · exact h.h
    · exact SliceIn.nil _ _
  · rcases h4 with ⟨a, b, c⟩ | ⟨a, b, c⟩ <;> rw [a, b, c]
    · exact h.g
    · exact SliceIn.nil _ _
  · rcases h5 with ⟨a, b, c⟩ | ⟨a, b, c⟩ <;> rw [a, b, c]
    · exact h.b
    · exact ⟨SliceIn.nil _ _, fun e he => nomatch he⟩
theorem MsgP.wf.own {P : MsgP} (h : P.wf) : P.own.wf := by
  obtain ⟨_, _, _, _, h5⟩ := own_rows P
  refine ⟨?_, fun e he => ?_⟩
  · have hz : EnvX.wf ⟨0, 0, 0, 0⟩ := ⟨⟨by decide, by decide⟩, ⟨by decide, by decide⟩, by decide, by decide⟩
    unfold MsgP.own
    split
    · exact h.e
    repeat' (first | exact hz | split)
  · rcases h5 with ⟨a, _, _⟩ | ⟨a, _, _⟩
    · rw [a] at he; exact h.b e he
    · rw [a] at he; cases he
/-- The bytes of a message's blocks. -/
def MsgP.blkB (P : MsgP) : List UInt8 := P.E.flatMap fun e => mBlkB e.1
theorem MsgP.bytes_le {P : MsgP} (h : P.At w) (hb : P.blkB.length ≤ 900000000) : P.bytes.length ≤ 1000000000 := by
  have h1 := P.head_length w h
  unfold MsgP.bytes
  unfold MsgP.blkB at hb
  rw [List.length_append]
  omega
theorem MsgP.own_blkB {P : MsgP} (hb : P.blkB.length ≤ 900000000) : P.own.blkB.length ≤ 900000000 := by
  obtain ⟨_, _, _, _, h5⟩ := own_rows P
  unfold MsgP.blkB at *
  rcases h5 with ⟨a, _, _⟩ | ⟨a, _, _⟩
  · rw [a]; exact hb
  · rw [a]; exact Nat.zero_le _
end
section
variable {w w' : World} {m : Nat → Thing} {l : List Thing}
set_option maxRecDepth 100000 in
set_option maxHeartbeats 2000000 in
theorem mess_same (P Q : MsgP) (hP : Cap l P.At) (hQ : Cap l Q.At) (wP : P.wf) (wQ : Q.wf) (lP : P.bytes.length ≤ 1000000000) (lQ : Q.bytes.length ≤ 1000000000) (h : Sys w m l) :
    Calls Try.prog 79 #[.agg P.cells.toArray, .agg Q.cells.toArray] w fun z w' => z = .returned (.bool (decide (P.bytes = Q.bytes))) ∧ Sys w' m l := by
  obtain ⟨cs, hcs⟩ : ∃ cs, cs = P.cells.toArray := ⟨_, rfl⟩
  obtain ⟨ds, hds⟩ : ∃ cs, cs = Q.cells.toArray := ⟨_, rfl⟩
  have hsz : (Try.prog.info? 36).map (·.size) = some cs.size := by rw [hcs]; exact size19
  have hsd : (Try.prog.info? 36).map (·.size) = some ds.size := by rw [hds]; exact size19
  have HA := fun (w : World) (l' : List Thing) (hP : Cap l' P.At) (h : Sys w m l') => mess_all P hP wP lP h
  have HD := fun (w : World) (l' : List Thing) (hP : Cap l' Q.At) (h : Sys w m l') => mess_all Q hP wQ lQ h
  rw [← hcs] at HA ⊢
  rw [← hds] at HD ⊢
  obtain ⟨n1, x1, EN1, EX1, ES1, H1⟩ := h.box (.cells cs 36 (0, 0))
  obtain ⟨n2, x2, EN2, EX2, ES2, H2⟩ := Sys.box' H1 ES1 (.cells ds 36 (0, 0))
  have HP := Lib.hid hP
  have HQ := Lib.hid hQ
  have HALL := Lib.hid HA
  have HALD := Lib.hid HD
  clear h hP hQ HA HD hcs hds lP lQ
  go_enter Try.func79, Try.ntmps79
  go_upto_region 1 with fail
  rw [EX1.out, EX2.out, EN2.out, EN1.out]
  refine wp_region_seq (fun x : World => x.heap[n1]? = some (.cells cs 36 (0, 0)) ∧ x.heap[n2]? = some (.cells ds 36 (0, 0))) anyW [] [(0, 1, some 5), (2, 1, some 7), (1, 2, some 6), (3, 2, some 8), (4, 2, some 9), (5, 0, some 4)] (by kernel_rfl) (by kernel_rfl) (fun _ _ _ d _ h => by cases d <;> exact h) ⟨H2.out.drew.nth 1 rfl, H2.out.drew.nth 0 rfl⟩ anyW.i ?_
  repeat (first | (refine seqW (v := ?_) rfl rfl (by kernel_rfl) ?_ ?_; rotate_left; (focus ((intro x; go_simp); try (with_reducible rfl))); try simp only [Act.put, List.setIfInBounds_toArray, List.set_cons_zero, List.set_cons_succ]) | (refine seqS (v := ?_) rfl rfl (by kernel_rfl) ?_ ?_; rotate_left; (focus (intro x hS; first | (refine (exec_rowA 36 _ (by rfl) n1 (by rfl) cs _ _ _ hS.1 Try.underlying36 rfl hsz).trans ?_; with_reducible rfl) | (refine (exec_rowA 36 _ (by rfl) n2 (by rfl) ds _ _ _ hS.2 Try.underlying36 rfl hsd).trans ?_; with_reducible rfl) | (obtain ⟨hS1, hS2⟩ := hS; go_simp; try (with_reducible rfl)))); try simp only [Act.put, List.setIfInBounds_toArray, List.set_cons_zero, List.set_cons_succ]) | (refine seqX rfl rfl (by kernel_rfl) ?_; try simp only [Act.put, List.setIfInBounds_toArray, List.set_cons_zero, List.set_cons_succ]))
  refine seqL rfl rfl (fun K hK => ?_)
  go_simp
  go_at_call 80
  refine (HALL.out _ _ HP.out.push.push H2.out.drew).mono ?_
  rintro z w3 ⟨v1, rfl, h⟩
  have H3 := Lib.hid h
  clear h
  go_wp2_with fail
  refine hK.out _ _ anyW.i ?_ (fun _ hSt => ?_)
  · exact ⟨H3.out.nth 2 rfl, H3.out.nth 1 rfl⟩
  clear hSt hK K
  try simp only [Act.put, List.setIfInBounds_toArray, List.set_cons_zero, List.set_cons_succ]
  refine seqL rfl rfl (fun K hK => ?_)
  go_simp
  go_at_call 80
  refine (HALD.out _ _ HQ.out.push.push.push H3.out).mono ?_
  rintro z w4 ⟨v2, rfl, h⟩
  have H4 := Lib.hid h
  clear h
  go_wp2_with fail
  refine hK.out _ _ anyW.i ?_ (fun _ hSt => ?_)
  · exact ⟨H4.out.nth 3 rfl, H4.out.nth 2 rfl⟩
  clear hSt hK K
  try simp only [Act.put, List.setIfInBounds_toArray, List.set_cons_zero, List.set_cons_succ]
  refine seqL rfl rfl (fun K hK => ?_)
  go_simp
  obtain ⟨a1, c1, rfl, -⟩ := H4.out.swap.getOwn.bytes
  obtain ⟨a2, c2, rfl, -⟩ := H4.out.getOwn.bytes
  go_at_call 103
  refine (bytes_equal rfl rfl (bytes_cap (List.mem_cons_of_mem _ (List.mem_cons_self ..)) rfl) (bytes_cap (List.mem_cons_self ..) rfl) H4.out).mono ?_
  rintro z w5 ⟨rfl, h⟩
  have H5 := Lib.hid h.tail.tail.tail.tail
  have H6 := Lib.hid h
  clear h
  go_wp2_with fail
  refine hK.out _ _ anyW.i ?_ (fun _ hSt => ?_)
  · exact ⟨H6.out.nth 3 rfl, H6.out.nth 2 rfl⟩
  clear hSt hK K
  try simp only [Act.put, List.setIfInBounds_toArray, List.set_cons_zero, List.set_cons_succ]
  repeat (first | (refine seqW (v := ?_) rfl rfl (by kernel_rfl) ?_ ?_; rotate_left; (focus ((intro x; go_simp); try (with_reducible rfl))); try simp only [Act.put, List.setIfInBounds_toArray, List.set_cons_zero, List.set_cons_succ]) | (refine seqS (v := ?_) rfl rfl (by kernel_rfl) ?_ ?_; rotate_left; (focus (intro x hS; first | (refine (exec_rowA 36 _ (by rfl) n1 (by rfl) cs _ _ _ hS.1 Try.underlying36 rfl hsz).trans ?_; with_reducible rfl) | (refine (exec_rowA 36 _ (by rfl) n2 (by rfl) ds _ _ _ hS.2 Try.underlying36 rfl hsd).trans ?_; with_reducible rfl) | (obtain ⟨hS1, hS2⟩ := hS; go_simp; try (with_reducible rfl)))); try simp only [Act.put, List.setIfInBounds_toArray, List.set_cons_zero, List.set_cons_succ]) | (refine seqX rfl rfl (by kernel_rfl) ?_; try simp only [Act.put, List.setIfInBounds_toArray, List.set_cons_zero, List.set_cons_succ]))
  refine seqE ?_
  go_wp2_with fail
  go_ret
  exact ⟨rfl, H5.out⟩
/-- What mess.Code tells. -/
def MsgP.code (P : MsgP) : Option (List UInt8) := if P.isOne = true ∧ P.own.bytes = P.bytes then some P.bytes else none
set_option maxRecDepth 100000 in
set_option maxHeartbeats 4000000 in
theorem mess_code (P : MsgP) (hP : Cap l P.At) (hwf : P.wf) (hb : P.blkB.length ≤ 900000000) (h : Sys w m l) :
    Calls Try.prog 35 #[.agg P.cells.toArray] w fun z w' => ∃ v, z = .returned (.tuple #[v, .bool P.code.isSome]) ∧ Sys w' m (own 5 1 v (P.code.getD []).length (bcells (P.code.getD [])) :: l) := by
  have lP := MsgP.bytes_le (hP _ _ h) hb
  have lQ := MsgP.bytes_le (hP _ _ h).own (MsgP.own_blkB hb)
  have hQ : Cap l P.own.At := fun y m' hs => (hP y m' hs).own
  have hone : P.own.cells.toArray.all (·.oneCell') = true := by simp [MsgP.cells, msgCells, Value.oneCell']
  obtain ⟨cs, hcs⟩ : ∃ cs, cs = P.cells.toArray := ⟨_, rfl⟩
  obtain ⟨ds, hds⟩ : ∃ cs, cs = P.own.cells.toArray := ⟨_, rfl⟩
  have hsz : (Try.prog.info? 36).map (·.size) = some cs.size := by rw [hcs]; exact size19
  have hsd : (Try.prog.info? 36).map (·.size) = some ds.size := by rw [hds]; exact size19
  have hcz : (#[.int .i64 0, .int .i64 0, .int .i64 0, .int .i64 0, .int .i64 0, .int .i64 0, .int .i64 0, .slice none 0 0, .int .i64 0, .slice none 0 0, .slice none 0 0, .int .i64 0, .int .i64 0, .slice none 0 0, .int .i64 0, .int .u64 0, .int .u64 0, .int .i64 0, .slice none 0 0] : Array Value).size = ds.size := by rw [hds]; rfl
  have HOW := fun (w : World) (m : Nat → Thing) (l' : List Thing) (h : Sys w m l') => mess_own P h
  have HA := fun (w : World) (l' : List Thing) (hP : Cap l' P.At) (h : Sys w m l') => mess_all P hP hwf lP h
  have HS := fun (w : World) (l' : List Thing) (hQ : Cap l' P.own.At) (hP : Cap l' P.At) (h : Sys w m l') => mess_same P.own P hQ hP hwf.own hwf lQ lP h
  rw [← hcs] at HA HS HOW ⊢
  rw [← hds] at HS HOW hone
  obtain ⟨n1, x1, EN1, EX1, ES1, H1⟩ := h.box (.cells cs 36 (0, 0))
  obtain ⟨ob, hob⟩ : ∃ b, b = P.isOne := ⟨_, rfl⟩
  obtain ⟨sb, hsb⟩ : ∃ b, b = decide (P.own.bytes = P.bytes) := ⟨_, rfl⟩
  rw [← hob] at HOW
  rw [← hsb] at HS
  have hcode : P.code = if (ob && sb) = true then some P.bytes else none := by
    unfold MsgP.code
    rw [hob, hsb]
    by_cases e1 : P.isOne = true <;> by_cases e2 : P.own.bytes = P.bytes <;> simp [e1, e2]
  have HP := Lib.hid hP
  have HQ := Lib.hid hQ
  have HOWN := Lib.hid HOW
  have HALL := Lib.hid HA
  have HSAME := Lib.hid HS
  have HCODE := Lib.hid hcode
  clear h hP hQ HA HS HOW hcs hds lP lQ hob hsb hcode hb
  go_enter Try.func35, Try.ntmps35
  go_upto_region 1 with fail
  rw [EX1.out, EN1.out]
  have hb1 := H1.out.nth 0 rfl
  go_wp2_with (refine wpList_load_row rfl 36 _ rfl n1 rfl _ _ _ _ hb1 Try.underlying36 rfl hsz ?_)
  refine (HOWN.out x1 m _ H1.out).mono ?_
  rintro z w2 ⟨rfl, h⟩
  have H2 := Lib.hid h
  clear h hb1
  obtain ⟨n4, x4, EN4, EX4, ES4, H4⟩ := H2.out.box (.cells #[.int .i64 0, .int .i64 0, .int .i64 0, .int .i64 0, .int .i64 0, .int .i64 0, .int .i64 0, .slice none 0 0, .int .i64 0, .slice none 0 0, .slice none 0 0, .int .i64 0, .int .i64 0, .slice none 0 0, .int .i64 0, .int .u64 0, .int .u64 0, .int .i64 0, .slice none 0 0] 36 (0, 0))
  have hb4 : x4.heap[n4]? = some (.cells #[.int .i64 0, .int .i64 0, .int .i64 0, .int .i64 0, .int .i64 0, .int .i64 0, .int .i64 0, .slice none 0 0, .int .i64 0, .slice none 0 0, .slice none 0 0, .int .i64 0, .int .i64 0, .slice none 0 0, .int .i64 0, .int .u64 0, .int .u64 0, .int .i64 0, .slice none 0 0] 36 (0, 0)) := H4.out.nth 0 rfl
  obtain ⟨x5, hx5⟩ : ∃ x, x = x4.setRow n4 ds := ⟨_, rfl⟩
  have H5 : Hid (Sys x5 m (blk n4 (.cells ds 36 (0, 0)) :: blk n1 (.cells cs 36 (0, 0)) :: l)) := by
    rw [hx5]
    exact H4.out.store ((Chg.refl (· = n4) x4).row ds) (setRow_heap _ _ _ _ _ _ hb4)
  have HX5 := Lib.hid hx5
  have HB4 := Lib.hid hb4
  clear hx5 hb4
  go_upto_region 2 with (rw [EX4.out, EN4.out]; refine wpList_store_row rfl 36 _ _ rfl n4 ds rfl rfl _ _ HB4.out hsd hcz hone ?_; rw [← HX5.out])
  cases ob with
  | false =>
    have HN : Hid (P.code = none) := by show _ = _; rw [HCODE.out]; simp
    go_wp2_with fail
    go_ret2
    rw [HN.out]
    exact ⟨.slice none 0 0, rfl, H5.out.tail.tail.push (F := fun _ => False) (Chg.refl _ _) ⟨Own.nil _ _ _, by funext k; simp [Value.ownBlock]⟩ (fun _ h => h.elim)⟩
  | true =>
    have hc1 := H5.out.nth 1 rfl
    have hc4 := H5.out.nth 0 rfl
    go_wp2_with (first | (refine wpList_load_rowG rfl 36 _ rfl n4 rfl _ _ _ _ hc4 Try.underlying36 rfl hsd ?_) | (refine wpList_load_rowG rfl 36 _ rfl n1 rfl _ _ _ _ hc1 Try.underlying36 rfl hsz ?_))
    refine (HSAME.out x5 _ HQ.out.push.push HP.out.push.push H5.out).mono ?_
    rintro z w3 ⟨rfl, h⟩
    have H6 := Lib.hid h
    clear h hc1 hc4
    cases sb with
    | false =>
      have HN : Hid (P.code = none) := by show _ = _; rw [HCODE.out]; simp
      go_wp2_with fail
      go_ret2
      rw [HN.out]
      exact ⟨.slice none 0 0, rfl, H6.out.tail.tail.push (F := fun _ => False) (Chg.refl _ _) ⟨Own.nil _ _ _, by funext k; simp [Value.ownBlock]⟩ (fun _ h => h.elim)⟩
    | true =>
      have HN : Hid (P.code = some P.bytes) := by show _ = _; rw [HCODE.out]; simp
      have hd1 := H6.out.nth 1 rfl
      go_wp2_with (refine wpList_load_row rfl 36 _ rfl n1 rfl _ _ _ _ hd1 Try.underlying36 rfl hsz ?_)
      refine (HALL.out w3 _ HP.out.push.push H6.out).mono ?_
      rintro z w4 ⟨v, rfl, h⟩
      have H7 := Lib.hid h
      clear h hd1
      go_wp2_with fail
      go_ret2
      rw [HN.out]
      exact ⟨v, rfl, H7.out.swap.tail.swap.tail⟩
end
end Go.Proofs.Ytcfhkpjheemkgaa
