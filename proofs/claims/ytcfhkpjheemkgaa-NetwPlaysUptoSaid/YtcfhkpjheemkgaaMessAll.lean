/-
  A message as a value, its rows named; mess.all: a message's bytes; bytes.Equal.
-/
import Derived.Test.YtcfhkpjheemkgaaMess
import Derived.Test.YtcfhkpjheemkgaaMsg
namespace Go.Proofs.Ytcfhkpjheemkgaa
set_option linter.unusedSectionVars false
set_option linter.unnecessarySimpa false
set_option linter.unusedSimpArgs false
set_option linter.unusedVariables false
open Go.RowKit Go.MapKept

/-- A message: its numbers, its rows, and where they lie. -/
structure MsgP where
  i : MsgI
  q : List Int
  t : List Int
  h : List Int
  g : List Int
  E : List (BlkX × Value × Value)
  qa : Option Addr
  ta : Option Addr
  ha : Option Addr
  ga : Option Addr
  ba : Option Addr
  qc : Nat
  tc : Nat
  hc : Nat
  gc : Nat
  bc : Nat
def MsgP.cells (P : MsgP) : List Value := msgCells P.i (.slice P.qa P.q.length P.qc) (.slice P.ta P.t.length P.tc) (.slice P.ha P.h.length P.hc) (.slice P.ga P.g.length P.gc) (.slice P.ba P.E.length P.bc)
def MsgP.env (P : MsgP) : EnvX := ⟨P.i.ec, P.i.en, P.i.ef, P.i.eci⟩
def BlksAt (w : World) (a : Option Addr) (c : Nat) (E : List (BlkX × Value × Value)) : Prop := SliceIn anyK w (.slice a E.length c) E.length (flatB E) ∧ ∀ e ∈ E, IntsIn anyK w e.2.1 e.1.by_ ∧ EnvsIn anyK w e.2.2 e.1.envs
structure MsgP.At (P : MsgP) (w : World) : Prop where
  q : IntsIn anyK w (.slice P.qa P.q.length P.qc) P.q
  t : IntsIn anyK w (.slice P.ta P.t.length P.tc) P.t
  h : IntsIn anyK w (.slice P.ha P.h.length P.hc) P.h
  g : IntsIn anyK w (.slice P.ga P.g.length P.gc) P.g
  b : BlksAt w P.ba P.bc P.E
structure MsgP.wf (P : MsgP) : Prop where
  e : P.env.wf
  b : ∀ e ∈ P.E, ∀ x ∈ e.1.envs, x.wf
def MsgP.headB (P : MsgP) : List UInt8 := mIntsB [P.i.kind, P.i.frm, P.i.to_, P.i.view, P.i.num] ++ mQcB P.i.qv P.i.qb P.q ++ intB P.i.tv ++ mIntsB P.t ++ mIntsB P.h ++ mQcB P.i.hv P.i.hb P.g ++ mEnvB P.env ++ intB (P.E.length : Int)
def MsgP.bytes (P : MsgP) : List UInt8 := P.headB ++ P.E.flatMap fun e => mBlkB e.1
theorem ints_len {w : World} {a : Option Addr} {c : Nat} {I : List Int} (h : IntsIn anyK w (.slice a I.length c) I) : I.length ≤ 2000000 := by obtain ⟨_, _, _, _, _, _, h⟩ := h; exact h
theorem MsgP.head_length (P : MsgP) (w : World) (h : P.At w) : P.headB.length ≤ 80000000 := by
  have h1 := ints_len h.q
  have h2 := ints_len h.t
  have h3 := ints_len h.h
  have h4 := ints_len h.g
  unfold MsgP.headB
  simp only [List.length_append, mIntsB_length, mQcB_length, mEnvB_length]
  show _ + 8 + _ + _ + _ + _ + 8 ≤ _
  simp only [List.length_cons, List.length_nil]
  omega
theorem cells_at {w : World} {n : Nat} {cs : Array Value} {t : TypeId} {fr : Nat × Nat} (h : w.heap[n]? = some (.cells cs t fr)) (off : Nat) (L : List Value) (hL : (cs.toList.drop off).take L.length = L) (j : Nat) (v : Value) (hv : L[j]? = some v) : w.cell? ⟨n, off + j, none⟩ = some v := by
  rw [cell_of_blk h]
  have hj : j < L.length := (List.getElem?_eq_some_iff.1 hv).1
  rw [← hL, List.getElem?_take, if_pos hj, List.getElem?_drop, Array.getElem?_toList] at hv
  exact hv
theorem BlksAt.some_ {w : World} {a : Option Addr} {c i : Nat} {E : List (BlkX × Value × Value)} (h : BlksAt w a c E) (hi : i < E.length) : ∃ b off, a = some ⟨b, off, none⟩ := by
  obtain ⟨⟨a', c', e, hs, _, hn, _⟩, _⟩ := h
  cases e
  rcases hs with h0 | ⟨b, off, e, _⟩
  · have := congrArg List.length h0
    rw [flatB_length] at this
    simp at this
    omega
  · exact ⟨b, off, e⟩
theorem BlksAt.get {w : World} {b off c i : Nat} {E : List (BlkX × Value × Value)} (h : BlksAt w (some ⟨b, off, none⟩) c E) (hi : i < E.length) : ∀ (j : Nat) (u : Value), (blkCells E[i].1 E[i].2.1 E[i].2.2)[j]? = some u → w.cell? ⟨b, off + i * 6 + j, none⟩ = some u := by
  obtain ⟨⟨a', c', e, hs, _, hn, _⟩, _⟩ := h
  cases e
  intro j u hu
  have hj : j < 6 := (List.getElem?_eq_some_iff.1 hu).1
  rw [← flatB_at E i hi j hj] at hu
  rcases hs with h0 | ⟨b', off', e, h1⟩
  · rw [h0] at hu; simp at hu
  · cases e
    have h2 := h1 (i * 6 + j) u hu
    rw [← Nat.add_assoc] at h2
    exact h2.1
section
variable {w w' : World} {m : Nat → Thing} {l : List Thing} {p : Nat} {L : List UInt8}
theorem size19 : (Try.prog.info? 36).map (·.size) = some 19 := by kernel_rfl
set_option maxRecDepth 100000 in
set_option maxHeartbeats 8000000 in
theorem mess_all (P : MsgP) (hP : Cap l P.At) (hwf : P.wf) (hlen : P.bytes.length ≤ 1000000000) (h : Sys w m l) :
    Calls Try.prog 80 #[.agg P.cells.toArray] w fun z w' => ∃ v, z = .returned v ∧ Sys w' m (own 5 1 v P.bytes.length (bcells P.bytes) :: l) := by
  have h1 := ints_len (hP _ _ h).q
  have h2 := ints_len (hP _ _ h).t
  have h3 := ints_len (hP _ _ h).h
  have h4 := ints_len (hP _ _ h).g
  have hhd := P.head_length w (hP _ _ h)
  obtain ⟨hwe, hwb⟩ := hwf
  have hA := hP
  obtain ⟨⟨ik, ifr, ito, iv, im, qv, qb, tv, hv, hb, ec, en, ef, ei⟩, IQ, IT, IH, IG, E, qa, ta, ha, ga, ba, qc, tc, hc, gc, bc⟩ := P
  dsimp only [MsgP.env] at h1 h2 h3 h4 hwe hwb
  obtain ⟨nq, hnq⟩ : ∃ n, n = IQ.length := ⟨_, rfl⟩
  obtain ⟨nt, hnt⟩ : ∃ n, n = IT.length := ⟨_, rfl⟩
  obtain ⟨nh, hnh⟩ : ∃ n, n = IH.length := ⟨_, rfl⟩
  obtain ⟨ng, hng⟩ : ∃ n, n = IG.length := ⟨_, rfl⟩
  obtain ⟨nb, hnb⟩ : ∃ n, n = E.length := ⟨_, rfl⟩
  obtain ⟨HB, hHB⟩ : ∃ x, x = MsgP.headB ⟨⟨ik, ifr, ito, iv, im, qv, qb, tv, hv, hb, ec, en, ef, ei⟩, IQ, IT, IH, IG, E, qa, ta, ha, ga, ba, qc, tc, hc, gc, bc⟩ := ⟨_, rfl⟩
  have HQ := Lib.hid hnq
  have HT := Lib.hid hnt
  have HH := Lib.hid hnh
  have HG := Lib.hid hng
  have HNB := Lib.hid hnb
  have CQ : Cap l (fun y => IntsAt y qa IQ) := fun y m' hs => SliceIn.intsAt (hA y m' hs).q
  have CT : Cap l (fun y => IntsAt y ta IT) := fun y m' hs => SliceIn.intsAt (hA y m' hs).t
  have CH : Cap l (fun y => IntsAt y ha IH) := fun y m' hs => SliceIn.intsAt (hA y m' hs).h
  have CG : Cap l (fun y => IntsAt y ga IG) := fun y m' hs => SliceIn.intsAt (hA y m' hs).g
  have CB : Cap l (fun y => BlksAt y ba bc E) := fun y m' hs => (hA y m' hs).b
  have L1 : Hid (nq ≤ 2000000) := by show _ ≤ _; rw [hnq]; exact h1
  have L2 : Hid (nt ≤ 2000000) := by show _ ≤ _; rw [hnt]; exact h2
  have L3 : Hid (nh ≤ 2000000) := by show _ ≤ _; rw [hnh]; exact h3
  have L4 : Hid (ng ≤ 2000000) := by show _ ≤ _; rw [hng]; exact h4
  have LB : Hid (nb ≤ 2000000) := by show _ ≤ _; rw [hnb]; obtain ⟨_, _, _, _, _, _, h5⟩ := (CB _ _ h).1; exact h5
  have HA := Lib.hid hA
  have HWE := Lib.hid hwe
  have HWB := Lib.hid hwb
  rw [← hHB] at hhd
  have HHD := Lib.hid hhd
  have HLEN := Lib.hid hlen
  unfold MsgP.bytes at hlen ⊢
  rw [← hHB] at hlen ⊢
  dsimp only at hlen ⊢
  have HLE := Lib.hid hlen
  change Calls Try.prog 80 #[.agg #[.int .i64 ik, .int .i64 ifr, .int .i64 ito, .int .i64 iv, .int .i64 im, .int .i64 qv, .int .i64 qb, .slice qa IQ.length qc, .int .i64 tv, .slice ta IT.length tc, .slice ha IH.length hc, .int .i64 hv, .int .i64 hb, .slice ga IG.length gc, .int .i64 ec, .int .u64 en, .int .u64 ef, .int .i64 ei, .slice ba E.length bc]] w _
  rw [← HQ.out, ← HT.out, ← HH.out, ← HG.out, ← HNB.out]
  obtain ⟨nx, x1, EN1, EX1, ES1, H0⟩ := h.box (.cells #[.int .i64 ik, .int .i64 ifr, .int .i64 ito, .int .i64 iv, .int .i64 im, .int .i64 qv, .int .i64 qb, .slice qa nq qc, .int .i64 tv, .slice ta nt tc, .slice ha nh hc, .int .i64 hv, .int .i64 hb, .slice ga ng gc, .int .i64 ec, .int .u64 en, .int .u64 ef, .int .i64 ei, .slice ba nb bc] 36 (0, 0))
  clear hP h hwe hwb hlen h1 h2 h3 h4 hnq hnt hnh hng hnb hhd hA
  have HHB := Lib.hid hHB
  clear hHB
  have HZ := Lib.hid HLEN
  clear HLEN
  go_enter Try.func80, Try.ntmps80
  go_upto_region 1 with fail
  rw [EX1.out, EN1.out]
  go_wp2_with fail
  refine (wire_new_m H0.out).mono ?_
  rintro z w1 ⟨p, rfl, h⟩
  obtain ⟨ni, x2, EN2, EX2, ES2, H1⟩ := h.box (.cells #[.int .i64 ik, .int .i64 ifr, .int .i64 ito, .int .i64 iv, .int .i64 im] 3 (0, 0))
  have H2 := Lib.hid H1.out.swap
  have hm : w1.heap[nx]? = some (.cells #[.int .i64 ik, .int .i64 ifr, .int .i64 ito, .int .i64 iv, .int .i64 im, .int .i64 qv, .int .i64 qb, .slice qa nq qc, .int .i64 tv, .slice ta nt tc, .slice ha nh hc, .int .i64 hv, .int .i64 hb, .slice ga ng gc, .int .i64 ec, .int .u64 en, .int .u64 ef, .int .i64 ei, .slice ba nb bc] 36 (0, 0)) := h.nth 1 rfl
  have q0 : w1.cell? ⟨nx, 0, none⟩ = some (.int .i64 ik) := (cell_of_blk hm 0).trans rfl
  have q1 : w1.cell? ⟨nx, 1, none⟩ = some (.int .i64 ifr) := (cell_of_blk hm 1).trans rfl
  have q2 : w1.cell? ⟨nx, 2, none⟩ = some (.int .i64 ito) := (cell_of_blk hm 2).trans rfl
  have q3 : w1.cell? ⟨nx, 3, none⟩ = some (.int .i64 iv) := (cell_of_blk hm 3).trans rfl
  have q4 : w1.cell? ⟨nx, 4, none⟩ = some (.int .i64 im) := (cell_of_blk hm 4).trans rfl
  clear h hm
  go_wp2_with fail
  rw [EX2.out, EN2.out]
  refine (mess_ints [ik, ifr, ito, iv, im] (some ⟨ni, 0, none⟩) 5 5 rfl (by decide) (fun y m' hs => ints_const (t := [ik, ifr, ito, iv, im]) (hs.nth 0 rfl)) H2.out (by decide)).mono ?_
  rintro z w2 ⟨rfl, h⟩
  have h := h.swap.tail
  rw [List.nil_append] at h
  have H3 := Lib.hid h
  clear h q0 q1 q2 q3 q4 H2 H1
  have hm : w2.heap[nx]? = some (.cells #[.int .i64 ik, .int .i64 ifr, .int .i64 ito, .int .i64 iv, .int .i64 im, .int .i64 qv, .int .i64 qb, .slice qa nq qc, .int .i64 tv, .slice ta nt tc, .slice ha nh hc, .int .i64 hv, .int .i64 hb, .slice ga ng gc, .int .i64 ec, .int .u64 en, .int .u64 ef, .int .i64 ei, .slice ba nb bc] 36 (0, 0)) := H3.out.nth 1 rfl
  have HM := Lib.hid (cells_at hm 5 [.int .i64 qv, .int .i64 qb, .slice qa nq qc] rfl)
  clear hm
  go_wp2_with (refine wpList_load_at rfl 28 _ rfl nx 5 rfl [.int .i64 qv, .int .i64 qb, .slice qa nq qc] _ HM.out Try.underlying28 rfl size3 ?_)
  refine (mess_qc qv qb IQ qa nq qc HQ.out.symm L1.out CQ.push H3.out (by rw [mIntsB_length]; simp only [List.length_cons, List.length_nil]; decide)).mono ?_
  rintro z w3 ⟨rfl, h⟩
  have H4 := Lib.hid h
  clear h HM
  obtain ⟨P1, hP1⟩ : ∃ x, x = mIntsB [ik, ifr, ito, iv, im] ++ mQcB qv qb IQ := ⟨_, rfl⟩
  have B1 : Hid (P1.length ≤ 18000000) := by
    show _ ≤ _
    rw [hP1, List.length_append, mIntsB_length, mQcB_length, ← HQ.out]
    have := L1.out
    simp only [List.length_cons, List.length_nil]
    omega
  rw [← hP1] at H4
  have HP1 := Lib.hid hP1
  clear hP1
  have hm : w3.heap[nx]? = some (.cells #[.int .i64 ik, .int .i64 ifr, .int .i64 ito, .int .i64 iv, .int .i64 im, .int .i64 qv, .int .i64 qb, .slice qa nq qc, .int .i64 tv, .slice ta nt tc, .slice ha nh hc, .int .i64 hv, .int .i64 hb, .slice ga ng gc, .int .i64 ec, .int .u64 en, .int .u64 ef, .int .i64 ei, .slice ba nb bc] 36 (0, 0)) := H4.out.nth 1 rfl
  have q8 : w3.cell? ⟨nx, 8, none⟩ = some (.int .i64 tv) := (cell_of_blk hm 8).trans rfl
  clear hm
  go_wp2_with fail
  refine (wire_int tv H4.out (by have := B1.out; omega)).mono ?_
  rintro z w4 ⟨rfl, h⟩
  have H5 := Lib.hid h
  clear h q8
  have hm : w4.heap[nx]? = some (.cells #[.int .i64 ik, .int .i64 ifr, .int .i64 ito, .int .i64 iv, .int .i64 im, .int .i64 qv, .int .i64 qb, .slice qa nq qc, .int .i64 tv, .slice ta nt tc, .slice ha nh hc, .int .i64 hv, .int .i64 hb, .slice ga ng gc, .int .i64 ec, .int .u64 en, .int .u64 ef, .int .i64 ei, .slice ba nb bc] 36 (0, 0)) := H5.out.nth 1 rfl
  have q9 : w4.cell? ⟨nx, 9, none⟩ = some (.slice ta nt tc) := (cell_of_blk hm 9).trans rfl
  clear hm
  go_wp2_with fail
  refine (mess_ints IT ta nt tc HT.out.symm L2.out CT.push H5.out (by rw [List.length_append]; have := B1.out; show _ + 8 ≤ _; omega)).mono ?_
  rintro z w5 ⟨rfl, h⟩
  have H6 := Lib.hid h
  clear h q9
  obtain ⟨P2, hP2⟩ : ∃ x, x = P1 ++ intB tv ++ mIntsB IT := ⟨_, rfl⟩
  have B2 : Hid (P2.length ≤ 36000000) := by
    show _ ≤ _
    rw [hP2, List.length_append, List.length_append, mIntsB_length, ← HT.out]
    have := L2.out; have := B1.out
    show _ + 8 + _ ≤ _
    omega
  rw [← hP2] at H6
  have HP2 := Lib.hid hP2
  clear hP2
  have hm : w5.heap[nx]? = some (.cells #[.int .i64 ik, .int .i64 ifr, .int .i64 ito, .int .i64 iv, .int .i64 im, .int .i64 qv, .int .i64 qb, .slice qa nq qc, .int .i64 tv, .slice ta nt tc, .slice ha nh hc, .int .i64 hv, .int .i64 hb, .slice ga ng gc, .int .i64 ec, .int .u64 en, .int .u64 ef, .int .i64 ei, .slice ba nb bc] 36 (0, 0)) := H6.out.nth 1 rfl
  have q10 : w5.cell? ⟨nx, 10, none⟩ = some (.slice ha nh hc) := (cell_of_blk hm 10).trans rfl
  clear hm
  go_wp2_with fail
  refine (mess_ints IH ha nh hc HH.out.symm L3.out CH.push H6.out (by have := B2.out; omega)).mono ?_
  rintro z w6 ⟨rfl, h⟩
  have H7 := Lib.hid h
  clear h q10
  have hm : w6.heap[nx]? = some (.cells #[.int .i64 ik, .int .i64 ifr, .int .i64 ito, .int .i64 iv, .int .i64 im, .int .i64 qv, .int .i64 qb, .slice qa nq qc, .int .i64 tv, .slice ta nt tc, .slice ha nh hc, .int .i64 hv, .int .i64 hb, .slice ga ng gc, .int .i64 ec, .int .u64 en, .int .u64 ef, .int .i64 ei, .slice ba nb bc] 36 (0, 0)) := H7.out.nth 1 rfl
  have HM := Lib.hid (cells_at hm 11 [.int .i64 hv, .int .i64 hb, .slice ga ng gc] rfl)
  clear hm
  go_wp2_with (refine wpList_load_at rfl 28 _ rfl nx 11 rfl [.int .i64 hv, .int .i64 hb, .slice ga ng gc] _ HM.out Try.underlying28 rfl size3 ?_)
  have B3 : Hid ((P2 ++ mIntsB IH).length ≤ 54000000) := by
    show _ ≤ _
    rw [List.length_append, mIntsB_length, ← HH.out]
    have := L3.out; have := B2.out
    omega
  refine (mess_qc hv hb IG ga ng gc HG.out.symm L4.out CG.push H7.out (by have := B3.out; omega)).mono ?_
  rintro z w7 ⟨rfl, h⟩
  have H8 := Lib.hid h
  clear h HM
  obtain ⟨P3, hP3⟩ : ∃ x, x = P2 ++ mIntsB IH ++ mQcB hv hb IG := ⟨_, rfl⟩
  have B4 : Hid (P3.length ≤ 72000000) := by
    show _ ≤ _
    rw [hP3, List.length_append, mQcB_length, ← HG.out]
    have := L4.out; have := B3.out
    omega
  rw [← hP3] at H8
  have HP3 := Lib.hid hP3
  clear hP3
  have hm : w7.heap[nx]? = some (.cells #[.int .i64 ik, .int .i64 ifr, .int .i64 ito, .int .i64 iv, .int .i64 im, .int .i64 qv, .int .i64 qb, .slice qa nq qc, .int .i64 tv, .slice ta nt tc, .slice ha nh hc, .int .i64 hv, .int .i64 hb, .slice ga ng gc, .int .i64 ec, .int .u64 en, .int .u64 ef, .int .i64 ei, .slice ba nb bc] 36 (0, 0)) := H8.out.nth 1 rfl
  have HM := Lib.hid (cells_at hm 14 [.int .i64 ec, .int .u64 en, .int .u64 ef, .int .i64 ei] rfl)
  clear hm
  go_wp2_with (refine wpList_load_at rfl 33 _ rfl nx 14 rfl [.int .i64 ec, .int .u64 en, .int .u64 ef, .int .i64 ei] _ HM.out Try.underlying33 rfl size4 ?_)
  refine (mess_env ⟨ec, en, ef, ei⟩ HWE.out H8.out (by have := B4.out; omega)).mono ?_
  rintro z w8 ⟨rfl, h⟩
  have H9 := Lib.hid h
  clear h HM
  have hm : w8.heap[nx]? = some (.cells #[.int .i64 ik, .int .i64 ifr, .int .i64 ito, .int .i64 iv, .int .i64 im, .int .i64 qv, .int .i64 qb, .slice qa nq qc, .int .i64 tv, .slice ta nt tc, .slice ha nh hc, .int .i64 hv, .int .i64 hb, .slice ga ng gc, .int .i64 ec, .int .u64 en, .int .u64 ef, .int .i64 ei, .slice ba nb bc] 36 (0, 0)) := H9.out.nth 1 rfl
  have q18 : w8.cell? ⟨nx, 18, none⟩ = some (.slice ba nb bc) := (cell_of_blk hm 18).trans rfl
  clear hm
  go_wp2_with fail
  refine (wire_int (nb : Int) H9.out (by rw [List.length_append, mEnvB_length]; have := B4.out; omega)).mono ?_
  rintro z w9 ⟨rfl, h⟩
  have hhead : P3 ++ mEnvB ⟨ec, en, ef, ei⟩ ++ intB (nb : Int) = HB := by
    rw [HHB.out, HP3.out, HP2.out, HP1.out, HNB.out]
    unfold MsgP.headB MsgP.env
    simp only [List.append_assoc]
  rw [hhead] at h
  have H10 := Lib.hid h
  clear h q18 hhead HP1 HP2 HP3 B1 B2 B3 B4 H3 H4 H5 H6 H7 H8 H9 CQ CT CH CG
  have hm : w9.heap[nx]? = some (.cells #[.int .i64 ik, .int .i64 ifr, .int .i64 ito, .int .i64 iv, .int .i64 im, .int .i64 qv, .int .i64 qb, .slice qa nq qc, .int .i64 tv, .slice ta nt tc, .slice ha nh hc, .int .i64 hv, .int .i64 hb, .slice ga ng gc, .int .i64 ec, .int .u64 en, .int .u64 ef, .int .i64 ei, .slice ba nb bc] 36 (0, 0)) := H10.out.nth 1 rfl
  have q18 : w9.cell? ⟨nx, 18, none⟩ = some (.slice ba nb bc) := (cell_of_blk hm 18).trans rfl
  clear hm
  go_wp2_with fail
  clear q18
  go_loopw [56] (fun xv wr => ∃ i : Nat, i ≤ nb ∧ xv = .int .i64 (i : Int) ∧ Sys wr m (writer p (HB ++ (E.take i).flatMap fun e => mBlkB e.1) :: blk nx (.cells #[.int .i64 ik, .int .i64 ifr, .int .i64 ito, .int .i64 iv, .int .i64 im, .int .i64 qv, .int .i64 qb, .slice qa nq qc, .int .i64 tv, .slice ta nt tc, .slice ha nh hc, .int .i64 hv, .int .i64 hb, .slice ga ng gc, .int .i64 ec, .int .u64 en, .int .u64 ef, .int .i64 ei, .slice ba nb bc] 36 (0, 0)) :: l)) (fun xv _ => nb - (intOf xv).toNat)
  case atStart => exact ⟨0, by omega, rfl, by rw [List.take_zero, List.flatMap_nil, List.append_nil]; exact H10.out⟩
  case round =>
    obtain ⟨i, hi, rfl, hR⟩ := hrel
    by_cases hlt : i < nb
    · have hil : (i : Int) < (nb : Int) := by omega
      have hiw : IntKind.i64.wrap ((i : Int) + 1) = (i : Int) + 1 := by rw [IntKind.wrap_i64]; have := LB.out; omega
      have hel : i < E.length := by rw [← HNB.out]; exact hlt
      have hat : BlksAt wr ba bc E := CB wr m hR.tail.tail
      obtain ⟨eb, eo, rfl⟩ := hat.some_ hel
      have hce := hat.get hel
      have hmem : E[i] ∈ E := List.getElem_mem hel
      obtain ⟨hu, hv⟩ := hat.2 _ hmem
      have hTK : (E.take (i + 1)).flatMap (fun e => mBlkB e.1) = ((E.take i).flatMap fun e => mBlkB e.1) ++ mBlkB E[i].1 := by
        rw [List.take_succ_eq_append_getElem hel, List.flatMap_append]
        simp
      have hle : (HB ++ (E.take i).flatMap fun e => mBlkB e.1).length ≤ 1000000000 := by
        have h1 := HLE.out
        rw [← List.take_append_drop i E, List.flatMap_append, ← List.append_assoc, List.length_append] at h1
        omega
      have hcb : Cap l (fun y => IntsIn anyK y E[i].2.1 E[i].1.by_ ∧ EnvsIn anyK y E[i].2.2 E[i].1.envs) := fun y m' hs => (CB y m' hs).2 _ hmem
      have hwe := HWB.out _ hmem
      obtain ⟨⟨b, u1, u2⟩, he⟩ : ∃ e, e = E[i] := ⟨_, rfl⟩
      rw [← he] at hce hu hv hTK hcb hwe
      dsimp only at hce hu hv hTK hcb hwe
      obtain ⟨ua, uc, rfl, -⟩ := hu
      obtain ⟨va, vc, rfl, -⟩ := hv
      have HCE : Hid (∀ (k : Nat) (u : Value), ([.int .i64 b.view, .int .i64 b.author, .int .i64 b.jv, .int .i64 b.jb, .slice ua b.by_.length uc, .slice va b.envs.length vc] : List Value)[k]? = some u → wr.cell? ⟨eb, eo + i * 6 + k, none⟩ = some u) := hce
      have HBA := Lib.hid (show Cap l (fun y => BlkAt y b ua uc va vc) from fun y m' hs => ⟨_, _, rfl, (hcb y m' hs).1, (hcb y m' hs).2⟩)
      have HTK := Lib.hid hTK
      have HLL := Lib.hid hle
      have HWX := Lib.hid hwe
      obtain ⟨ny, y1, EN3, EX3, ES3, H11⟩ := hR.box (.cells #[.int .i64 b.view, .int .i64 b.author, .int .i64 b.jv, .int .i64 b.jb, .slice ua b.by_.length uc, .slice va b.envs.length vc] 65 (0, 0))
      have H12 := Lib.hid H11.out.swap
      have HLT := Lib.hid hlt
      clear hat hce he hR hmem hel hi hlt hTK hle hcb hwe H11
      go_upto_region 13 with (refine wpList_load_at rfl 65 _ rfl eb (eo + i * 6) rfl [.int .i64 b.view, .int .i64 b.author, .int .i64 b.jv, .int .i64 b.jb, .slice ua b.by_.length uc, .slice va b.envs.length vc] _ HCE.out Try.underlying65 rfl size6B ?_)
      rw [EX3.out, EN3.out]
      have hbe := H12.out.nth 1 rfl
      go_wp2_with (refine wpList_load_row rfl 65 _ rfl ny rfl _ _ _ _ hbe Try.underlying65 rfl size6B ?_)
      refine (mess_block b ua uc va vc HBA.out.push.push HWX.out H12.out (by have := HLL.out; omega)).mono ?_
      rintro z w5 ⟨rfl, h⟩
      rw [List.append_assoc, ← HTK.out] at h
      have H13 := Lib.hid h.swap.tail
      clear h hbe
      go_wp2_with fail
      go_roundw
      case rel => exact ⟨i + 1, by have := HLT.out; omega, by go_num, H13.out⟩
      case measure => simp [intOf]; have := HLT.out; omega
    · obtain rfl : nb = i := by omega
      rw [List.take_of_length_le (by rw [← HNB.out]; exact Nat.le_refl _)] at hR
      have HR := Lib.hid hR
      clear hR hlt hi
      go_wp2_with fail
      refine (wire_bytes HR.out HLE.out).mono ?_
      rintro z w5 ⟨v, rfl, h⟩
      have H14 := Lib.hid h
      clear h
      go_wp2_with fail
      go_ret
      exact ⟨v, rfl, H14.out.swap.tail⟩
end
end Go.Proofs.Ytcfhkpjheemkgaa
