/-
  bytes.Equal; mess.Same; mess.Code of a message whose fields are its kind's alone.
-/
import Derived.Test.YtcfhkpjheemkgaaMessOwn
namespace Go.Proofs.Ytcfhkpjheemkgaa
set_option linter.unusedSectionVars false
set_option linter.unnecessarySimpa false
set_option linter.unusedSimpArgs false
set_option linter.unusedVariables false
open Go.RowKit Go.MapKept
section
variable {w w' : World} {m : Nat → Thing} {l : List Thing}
set_option maxHeartbeats 1000000 in
theorem bytes_equal {L1 L2 : List UInt8} {a1 a2 : Option Addr} {n1 n2 c1 c2 : Nat} (e1 : L1.length = n1) (e2 : L2.length = n2) (h1 : Cap l (fun y => BytesAt y a1 L1)) (h2 : Cap l (fun y => BytesAt y a2 L2)) (h : Sys w m l) :
    Calls Try.prog 103 #[.slice a1 n1 c1, .slice a2 n2 c2] w fun e w' => e = .returned (.bool (decide (L1 = L2))) ∧ Sys w' m l := by
  subst e1 e2
  have hs1 := bytes_string (h1 w m h) c1
  have hs2 := bytes_string (h2 w m h) c2
  have HE : Hid (((⟨L1.toArray⟩ : ByteArray).toList == (⟨L2.toArray⟩ : ByteArray).toList) = decide (L1 = L2)) := str_eq L1 L2
  have H0 := Lib.hid h
  obtain ⟨s1, hz1⟩ : ∃ s : ByteArray, s = ⟨L1.toArray⟩ := ⟨_, rfl⟩
  obtain ⟨s2, hz2⟩ : ∃ s : ByteArray, s = ⟨L2.toArray⟩ := ⟨_, rfl⟩
  rw [← hz1] at hs1 HE
  rw [← hz2] at hs2 HE
  obtain ⟨k1, hk1⟩ : ∃ n, n = L1.length := ⟨_, rfl⟩
  obtain ⟨k2, hk2⟩ : ∃ n, n = L2.length := ⟨_, rfl⟩
  rw [← hk1] at hs1 ⊢
  rw [← hk2] at hs2 ⊢
  clear h h1 h2 hz1 hz2 hk1 hk2
  go_enter Try.func103, Try.ntmps103
  go_wp2_with fail
  go_ret
  exact ⟨by first | exact congrArg _ (congrArg _ HE.out) | (rw [← HE.out]; rfl) | rw [← HE.out], H0.out⟩
end
section
variable {P : Program} {ops : Array Oper} {Q : Exit → Act → World → Prop} {a : Act} {w : World} {rest : List Oper} {o : Oper}
/-- A whole struct's load behind a guard that holds. -/
theorem wpList_load_rowG (hw : Region.wanted o (yielded ops a.tmps) = true) (ty : TypeId) (x : Operand) (ho : o.op = .load ty x) (g : Nat) (hx : a.eval x = .pointer (some ⟨g, 0, none⟩)) (cs : Array Value) (t : TypeId) (fr : Nat × Nat) (d : TypeDesc) (hg : w.heap[g]? = some (.cells cs t fr))
    (hu : P.underlying ty = some d) (hd : (match d with | .struct _ | .array _ _ => true | _ => false) = true) (hi : (P.info? ty).map (·.size) = some cs.size)
    (h : wpList P ops Q rest (a.put o.dst (.agg cs)) w) : wpList P ops Q (o :: rest) a w :=
  wpList_step fun K hK => by
    rw [if_pos hw]
    unfold Oper.wp
    rw [exec_load_row ty x ho g hx t cs fr d hg hu hd hi]
    exact hK _ _ h
end
section
variable {w w' : World} {m : Nat → Thing} {l : List Thing}
/-- A message with the fields of its kind alone. -/
def OwnMsg (P : MsgP) : Prop := ∀ (w : World) (m : Nat → Thing) (l : List Thing), Sys w m l → Calls Try.prog 78 #[.agg P.cells.toArray] w fun z w' => z = .returned (.tuple #[.agg P.cells.toArray, .bool true]) ∧ Sys w' m l
theorem bytes_cap {v : Value} {L : List UInt8} (hl : own 5 1 v L.length (bcells L) ∈ l) {a : Option Addr} {k c : Nat} (e : v = .slice a k c) : Cap l (fun y => BytesAt y a L) := by
  subst e
  intro y m' hs
  obtain ⟨F, hF⟩ := hs.mem hl
  exact hF.1.bytesAt
set_option maxRecDepth 100000 in
set_option maxHeartbeats 2000000 in
theorem mess_same_self (P : MsgP) (hP : Cap l P.At) (hwf : P.wf) (hlen : P.bytes.length ≤ 1000000000) (h : Sys w m l) :
    Calls Try.prog 79 #[.agg P.cells.toArray, .agg P.cells.toArray] w fun z w' => z = .returned (.bool true) ∧ Sys w' m l := by
  obtain ⟨cs, hcs⟩ : ∃ cs, cs = P.cells.toArray := ⟨_, rfl⟩
  have hsz : (Try.prog.info? 36).map (·.size) = some cs.size := by rw [hcs]; exact size19
  have HA := fun (w : World) (l' : List Thing) (hP : Cap l' P.At) (h : Sys w m l') => mess_all P hP hwf hlen h
  rw [← hcs] at HA ⊢
  obtain ⟨n1, x1, EN1, EX1, ES1, H1⟩ := h.box (.cells cs 36 (0, 0))
  obtain ⟨n2, x2, EN2, EX2, ES2, H2⟩ := Sys.box' H1 ES1 (.cells cs 36 (0, 0))
  have HP := Lib.hid hP
  have HALL := Lib.hid HA
  clear h hP HA hcs hlen
  go_enter Try.func79, Try.ntmps79
  go_upto_region 1 with fail
  rw [EX1.out, EX2.out, EN2.out, EN1.out]
  refine wp_region_seq (fun x : World => x.heap[n1]? = some (.cells cs 36 (0, 0)) ∧ x.heap[n2]? = some (.cells cs 36 (0, 0))) anyW [] [(0, 1, some 5), (2, 1, some 7), (1, 2, some 6), (3, 2, some 8), (4, 2, some 9), (5, 0, some 4)] (by kernel_rfl) (by kernel_rfl) (fun _ _ _ d _ h => by cases d <;> exact h) ⟨H2.out.drew.nth 1 rfl, H2.out.drew.nth 0 rfl⟩ anyW.i ?_
  repeat (first | (refine seqW (v := ?_) rfl rfl (by kernel_rfl) ?_ ?_; rotate_left; (focus ((intro x; go_simp); try (with_reducible rfl))); try simp only [Act.put, List.setIfInBounds_toArray, List.set_cons_zero, List.set_cons_succ]) | (refine seqS (v := ?_) rfl rfl (by kernel_rfl) ?_ ?_; rotate_left; (focus (intro x hS; first | (refine (exec_rowA 36 _ (by rfl) n1 (by rfl) cs _ _ _ hS.1 Try.underlying36 rfl hsz).trans ?_; with_reducible rfl) | (refine (exec_rowA 36 _ (by rfl) n2 (by rfl) cs _ _ _ hS.2 Try.underlying36 rfl hsz).trans ?_; with_reducible rfl) | (obtain ⟨hS1, hS2⟩ := hS; go_simp; try (with_reducible rfl)))); try simp only [Act.put, List.setIfInBounds_toArray, List.set_cons_zero, List.set_cons_succ]) | (refine seqX rfl rfl (by kernel_rfl) ?_; try simp only [Act.put, List.setIfInBounds_toArray, List.set_cons_zero, List.set_cons_succ]))
  refine seqL rfl rfl (fun K hK => ?_)
  go_simp
  go_at_call 80
  refine (HALL.out _ _ HP.out.push.push H2.out.drew).mono ?_
  rintro z w3 ⟨v1, rfl, h⟩
  have H3 := Lib.hid h
  clear h
  go_wp2_with fail
  refine hK.out _ _ anyW.i ?_ (fun _ hSt => ?_)
  · exact ⟨H3.out.nth 2 rfl, H3.out.nth 1 rfl⟩
  clear hSt hK K
  try simp only [Act.put, List.setIfInBounds_toArray, List.set_cons_zero, List.set_cons_succ]
  refine seqL rfl rfl (fun K hK => ?_)
  go_simp
  go_at_call 80
  refine (HALL.out _ _ HP.out.push.push.push H3.out).mono ?_
  rintro z w4 ⟨v2, rfl, h⟩
  have H4 := Lib.hid h
  clear h
  go_wp2_with fail
  refine hK.out _ _ anyW.i ?_ (fun _ hSt => ?_)
  · exact ⟨H4.out.nth 3 rfl, H4.out.nth 2 rfl⟩
  clear hSt hK K
  try simp only [Act.put, List.setIfInBounds_toArray, List.set_cons_zero, List.set_cons_succ]
  refine seqL rfl rfl (fun K hK => ?_)
  go_simp
  obtain ⟨a1, c1, rfl, -⟩ := H4.out.swap.getOwn.bytes
  obtain ⟨a2, c2, rfl, -⟩ := H4.out.getOwn.bytes
  go_at_call 103
  refine (bytes_equal rfl rfl (bytes_cap (List.mem_cons_of_mem _ (List.mem_cons_self ..)) rfl) (bytes_cap (List.mem_cons_self ..) rfl) H4.out).mono ?_
  rintro z w5 ⟨rfl, h⟩
  rw [decide_eq_true rfl]
  have H5 := Lib.hid h.tail.tail.tail.tail
  have H6 := Lib.hid h
  clear h
  go_wp2_with fail
  refine hK.out _ _ anyW.i ?_ (fun _ hSt => ?_)
  · exact ⟨H6.out.nth 3 rfl, H6.out.nth 2 rfl⟩
  clear hSt hK K
  try simp only [Act.put, List.setIfInBounds_toArray, List.set_cons_zero, List.set_cons_succ]
  repeat (first | (refine seqW (v := ?_) rfl rfl (by kernel_rfl) ?_ ?_; rotate_left; (focus ((intro x; go_simp); try (with_reducible rfl))); try simp only [Act.put, List.setIfInBounds_toArray, List.set_cons_zero, List.set_cons_succ]) | (refine seqS (v := ?_) rfl rfl (by kernel_rfl) ?_ ?_; rotate_left; (focus (intro x hS; first | (refine (exec_rowA 36 _ (by rfl) n1 (by rfl) cs _ _ _ hS.1 Try.underlying36 rfl hsz).trans ?_; with_reducible rfl) | (refine (exec_rowA 36 _ (by rfl) n2 (by rfl) cs _ _ _ hS.2 Try.underlying36 rfl hsz).trans ?_; with_reducible rfl) | (obtain ⟨hS1, hS2⟩ := hS; go_simp; try (with_reducible rfl)))); try simp only [Act.put, List.setIfInBounds_toArray, List.set_cons_zero, List.set_cons_succ]) | (refine seqX rfl rfl (by kernel_rfl) ?_; try simp only [Act.put, List.setIfInBounds_toArray, List.set_cons_zero, List.set_cons_succ]))
  refine seqE ?_
  go_wp2_with fail
  go_ret
  exact ⟨rfl, H5.out⟩
set_option maxRecDepth 100000 in
set_option maxHeartbeats 2000000 in
theorem mess_code_own (P : MsgP) (hown : OwnMsg P) (hP : Cap l P.At) (hwf : P.wf) (hlen : P.bytes.length ≤ 1000000000) (h : Sys w m l) :
    Calls Try.prog 35 #[.agg P.cells.toArray] w fun z w' => ∃ v, z = .returned (.tuple #[v, .bool true]) ∧ Sys w' m (own 5 1 v P.bytes.length (bcells P.bytes) :: l) := by
  have hone : P.cells.toArray.all (·.oneCell') = true := by simp [MsgP.cells, msgCells, Value.oneCell']
  obtain ⟨cs, hcs⟩ : ∃ cs, cs = P.cells.toArray := ⟨_, rfl⟩
  have hsz : (Try.prog.info? 36).map (·.size) = some cs.size := by rw [hcs]; exact size19
  have hcz : (#[.int .i64 0, .int .i64 0, .int .i64 0, .int .i64 0, .int .i64 0, .int .i64 0, .int .i64 0, .slice none 0 0, .int .i64 0, .slice none 0 0, .slice none 0 0, .int .i64 0, .int .i64 0, .slice none 0 0, .int .i64 0, .int .u64 0, .int .u64 0, .int .i64 0, .slice none 0 0] : Array Value).size = cs.size := by rw [hcs]; rfl
  have HOW := Lib.hid hown
  have HA := fun (w : World) (l' : List Thing) (hP : Cap l' P.At) (h : Sys w m l') => mess_all P hP hwf hlen h
  have HS := fun (w : World) (l' : List Thing) (hP : Cap l' P.At) (h : Sys w m l') => mess_same_self P hP hwf hlen h
  unfold OwnMsg at HOW
  rw [← hcs] at HA HS HOW hone ⊢
  obtain ⟨n1, x1, EN1, EX1, ES1, H1⟩ := h.box (.cells cs 36 (0, 0))
  have HP := Lib.hid hP
  have HALL := Lib.hid HA
  have HSAME := Lib.hid HS
  clear h hP HA HS hcs hlen hown
  go_enter Try.func35, Try.ntmps35
  go_upto_region 1 with fail
  rw [EX1.out, EN1.out]
  have hb1 := H1.out.nth 0 rfl
  go_wp2_with (refine wpList_load_row rfl 36 _ rfl n1 rfl _ _ _ _ hb1 Try.underlying36 rfl hsz ?_)
  refine (HOW.out x1 m _ H1.out).mono ?_
  rintro z w2 ⟨rfl, h⟩
  have H2 := Lib.hid h
  clear h hb1
  obtain ⟨n4, x4, EN4, EX4, ES4, H4⟩ := H2.out.box (.cells #[.int .i64 0, .int .i64 0, .int .i64 0, .int .i64 0, .int .i64 0, .int .i64 0, .int .i64 0, .slice none 0 0, .int .i64 0, .slice none 0 0, .slice none 0 0, .int .i64 0, .int .i64 0, .slice none 0 0, .int .i64 0, .int .u64 0, .int .u64 0, .int .i64 0, .slice none 0 0] 36 (0, 0))
  have hb4 : x4.heap[n4]? = some (.cells #[.int .i64 0, .int .i64 0, .int .i64 0, .int .i64 0, .int .i64 0, .int .i64 0, .int .i64 0, .slice none 0 0, .int .i64 0, .slice none 0 0, .slice none 0 0, .int .i64 0, .int .i64 0, .slice none 0 0, .int .i64 0, .int .u64 0, .int .u64 0, .int .i64 0, .slice none 0 0] 36 (0, 0)) := H4.out.nth 0 rfl
  obtain ⟨x5, hx5⟩ : ∃ x, x = x4.setRow n4 cs := ⟨_, rfl⟩
  have H5 : Hid (Sys x5 m (blk n4 (.cells cs 36 (0, 0)) :: blk n1 (.cells cs 36 (0, 0)) :: l)) := by
    rw [hx5]
    exact H4.out.store ((Chg.refl (· = n4) x4).row cs) (setRow_heap _ _ _ _ _ _ hb4)
  have HX5 := Lib.hid hx5
  have HB4 := Lib.hid hb4
  clear hx5 hb4
  go_upto_region 2 with (rw [EX4.out, EN4.out]; refine wpList_store_row rfl 36 _ _ rfl n4 cs rfl rfl _ _ HB4.out hsz hcz hone ?_; rw [← HX5.out])
  have hc1 := H5.out.nth 1 rfl
  have hc4 := H5.out.nth 0 rfl
  go_wp2_with (first | (refine wpList_load_rowG rfl 36 _ rfl n4 rfl _ _ _ _ hc4 Try.underlying36 rfl hsz ?_) | (refine wpList_load_rowG rfl 36 _ rfl n1 rfl _ _ _ _ hc1 Try.underlying36 rfl hsz ?_))
  refine (HSAME.out x5 _ HP.out.push.push H5.out).mono ?_
  rintro z w3 ⟨rfl, h⟩
  have H6 := Lib.hid h
  clear h hc1 hc4
  have hd1 := H6.out.nth 1 rfl
  go_wp2_with (refine wpList_load_row rfl 36 _ rfl n1 rfl _ _ _ _ hd1 Try.underlying36 rfl hsz ?_)
  refine (HALL.out w3 _ HP.out.push.push H6.out).mono ?_
  rintro z w4 ⟨v, rfl, h⟩
  have H7 := Lib.hid h
  clear h hd1
  go_wp2_with fail
  go_ret2
  exact ⟨v, rfl, H7.out.swap.tail.swap.tail⟩
end
end Go.Proofs.Ytcfhkpjheemkgaa
