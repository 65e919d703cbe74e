/-
  Who listens: its things; adve.New, Bad.
-/
import Derived.Test.YtcfhkpjheemkgaaMessCode
import Derived.Test.YtcfhkpjheemkgaaApp
import Derived.Test.YtcfhkpjheemkgaaIter2
namespace Go.Proofs.Ytcfhkpjheemkgaa
set_option linter.unusedSectionVars false
set_option linter.unnecessarySimpa false
set_option linter.unusedSimpArgs false
set_option linter.unusedVariables false
open Go.RowKit Go.MapKept

/-- What was seen once: a message's bytes, a cipher and its text; and where they lie. -/
structure SeenX where
  mv : Value
  m : List UInt8
  c : Int
  tv : Value
  t : List UInt8
def SeenX.x (s : SeenX) : List UInt8 × Int × List UInt8 := (s.m, s.c, s.t)
def seenCells (s : SeenX) : List Value := [s.mv, .int .i64 s.c, s.tv]
def flatS (S : List SeenX) : List Value := S.flatMap seenCells
def rowB (v : Value) (L : List UInt8) : Thing := own 5 1 v L.length (bcells L)
def seenRows (S : List SeenX) : List Thing := S.flatMap fun s => [rowB s.mv s.m, rowB s.tv s.t]
def rowsT (S : List SeenX) : Thing := ex fun _ : Unit => seenRows S
def pureW (φ : Prop) : Thing := ⟨fun _ F => φ ∧ ∀ k, ¬ F k, fun h k hk => (h.2 k hk).elim, fun h _ _ => h⟩
theorem Sys.pureW {w : World} {m : Nat → Thing} {l : List Thing} {φ : Prop} (h : Sys w m (pureW φ :: l)) : φ ∧ Sys w m l := by
  obtain ⟨F, hF⟩ := h.head
  exact ⟨hF.1.1, h.tail⟩
theorem Sys.addPureW {w : World} {m : Nat → Thing} {l : List Thing} {φ : Prop} (h : Sys w m l) (hp : φ) : Sys w m (Go.Proofs.Ytcfhkpjheemkgaa.pureW φ :: l) :=
  h.push (F := fun _ => False) (Chg.refl _ _) ⟨hp, fun _ h => h⟩ (fun _ h => h.elim)
theorem Sys.dropAt {w : World} {m : Nat → Thing} {t : Thing} {l : List Thing} (h : Sys w m l) (i : Nat) (hi : l[i]? = some t) : Sys w m (l.eraseIdx i) := (h.front i hi).tail
structure WatchD where
  vb : Value
  vs : Value
  mo : Nat
  S : List SeenX
def watchF (pa p : Nat) (B : List Int) (S : List (List UInt8 × Int × List UInt8)) (O : List (Int × Value)) (q : WatchD) : List Thing :=
  pureW (q.S.map SeenX.x = S) :: blk pa (.cells #[.pointer (some ⟨p, 0, none⟩), q.vb, q.vs, .map (some q.mo)] 119 (0, 0)) :: own 3 1 q.vb B.length (B.map (Value.int .i64)) :: own 60 3 q.vs q.S.length (flatS q.S) :: mapT intKey q.mo O :: [rowsT q.S]
def watchT (pa p : Nat) (B : List Int) (S : List (List UInt8 × Int × List UInt8)) (O : List (Int × Value)) : Thing := ex (watchF pa p B S O)
/-- One is named: whether it counts. -/
def badStep (c : CfgX) (B : List Int) (x : Int) : List Int := if repB c x && !(decide (x ∈ B)) && decide ((B.length : Int) < c.f) then B ++ [x] else B
def badsOf (c : CfgX) (I : List Int) : List Int := I.foldl (badStep c) []
theorem badStep_le (c : CfgX) (B : List Int) (x : Int) : (badStep c B x).length ≤ B.length + 1 := by unfold badStep; split <;> simp
theorem foldl_take {α β : Type} (f : β → α → β) (b : β) (I : List α) (i : Nat) (h : i < I.length) : (I.take (i + 1)).foldl f b = f ((I.take i).foldl f b) I[i] := by
  rw [List.take_succ_eq_append_getElem h, List.foldl_append]; rfl
theorem bads_le (c : CfgX) (I : List Int) : (badsOf c I).length ≤ I.length := by
  have : ∀ (I : List Int) (B : List Int), (I.foldl (badStep c) B).length ≤ B.length + I.length := by
    intro I
    induction I with
    | nil => intro B; simp
    | cons x I ih => intro B; rw [List.foldl_cons]; have := ih (badStep c B x); have := badStep_le c B x; simp; omega
  have := this I []
  simpa [badsOf] using this
section
variable {w w' : World} {m : Nat → Thing} {l : List Thing} {pa p mo kw : Nat} {d : Wd} {X : WX} {B : List Int} {S : List (List UInt8 × Int × List UInt8)} {O : List (Int × Value)} {vb vs : Value}
theorem contains_ints {I : List Int} {sa : Option Addr} {k c : Nat} (x : Int) (hk : I.length = k) (hk2 : k ≤ 1000000) (h : IntsAt w sa I) : Calls Try.prog 67 #[.slice sa k c, .int .i64 x] w fun z w' => z = .returned (.bool (decide (x ∈ I))) ∧ w = w' := by
  rcases h with rfl | ⟨b, off, rfl, h⟩
  · obtain rfl : k = 0 := by simpa using hk.symm
    exact (Any.slices_Contains_int_empty Try.containsA sa c x w).mono fun z w' ⟨h1, h2⟩ => ⟨by rw [h1]; rfl, h2.symm⟩
  · refine (Any.slices_Contains_int Try.containsA b off k c I x w (by omega) (by omega) (fun j hj => h j hj)).mono fun z w' ⟨h1, h2⟩ => ⟨?_, h2.symm⟩
    rw [h1, List.take_of_length_le (by omega)]
    simp
set_option maxHeartbeats 1000000 in
theorem watch_bad0 {a : Option Addr} {n cp : Nat} (hb : w.heap[pa]? = some (.cells #[.pointer (some ⟨p, 0, none⟩), .slice a n cp, vs, .map (some mo)] 119 (0, 0))) (who : Int) (hn : B.length = n) (hn2 : n ≤ 1000000) (hI : IntsAt w a B) :
    Calls Try.prog 28 #[.pointer (some ⟨pa, 0, none⟩), .int .i64 who] w fun z w' => z = .returned (.bool (decide (who ∈ B))) ∧ w = w' := by
  have q1 : w.cell? ⟨pa, 1, none⟩ = some (.slice a n cp) := (cell_of_blk hb 1).trans rfl
  have HC := Lib.hid (contains_ints (w := w) (c := cp) who hn hn2 hI)
  clear hb hn hn2 hI
  go_enter Try.func28, Try.ntmps28
  go_wp2_with fail
  refine HC.out.mono ?_
  rintro z w1 ⟨rfl, rfl⟩
  go_wp2_with fail
  go_ret
  exact ⟨rfl, rfl⟩
theorem watch_bad (who : Int) (hn2 : B.length ≤ 1000000) (h : Sys w m l) (hm : m kw = watchT pa p B S O) :
    Calls Try.prog 28 #[.pointer (some ⟨pa, 0, none⟩), .int .i64 who] w fun z w' => z = .returned (.bool (decide (who ∈ B))) ∧ w = w' := by
  obtain ⟨⟨vb, vs, mo, SX⟩, h1⟩ := (h.lift kw hm).open
  have h2 := h1.tail
  obtain ⟨a, n, cp, rfl, hn⟩ := (h2.front 1 rfl).getOwn.slice
  exact watch_bad0 (a := a) (n := n) (cp := cp) (h2.nth 0 rfl) who hn.out.symm (by have := hn.out; omega) (h2.front 1 rfl).getOwn.intsAt
set_option maxRecDepth 100000 in
set_option maxHeartbeats 4000000 in
theorem adve_new (c : CfgX) (hg : c.Good) (I : List Int) (ia : Option Addr) (n ic : Nat) (hn : I.length = n) (hn2 : n ≤ 1000000) (hI : Cap l (fun y => IntsAt y ia I)) (h : Sys w m l) (hm1 : m kw = emp) :
    Calls Try.prog 21 #[.pointer (some ⟨p, 0, none⟩), .agg #[.int .i64 c.f, .int .i64 c.n, .int .i64 c.cl, .int .i64 c.ba, .int .i64 c.mo, .int .i64 c.bt, .int .i64 c.po, .int .i64 c.wi], .slice ia n ic] w fun z w' => ∃ pa, z = .returned (.pointer (some ⟨pa, 0, none⟩)) ∧ Sys w' (upd m kw (watchT pa p (badsOf c I) [] [])) l := by
  have hmm := @run_makeMap Try.prog
  obtain ⟨nc, x1, EN1, EX1, ES1, H1⟩ := h.box (.cells #[.int .i64 c.f, .int .i64 c.n, .int .i64 c.cl, .int .i64 c.ba, .int .i64 c.mo, .int .i64 c.bt, .int .i64 c.po, .int .i64 c.wi] 49 (0, 0))
  have h2 := H1.out.push (t := mapT intKey x1.heap.size []) ((Chg.refl _ _).alloc (.map #[] 0)) (F := (· = x1.heap.size)) ⟨MapOf.made _ _ rfl, rfl⟩ (fun k e => by have e : k = _ := e; omega)
  obtain ⟨mo, hmo⟩ : ∃ n, n = x1.heap.size := ⟨_, rfl⟩
  obtain ⟨x2, hx2⟩ : ∃ y, y = x1.alloc (.map #[] 0) := ⟨_, rfl⟩
  have hmk := hmm 75 x1
  rw [← hx2, ← hmo] at h2 hmk
  obtain ⟨pa, x3, EN3, EX3, ES3, H3⟩ := h2.box (.cells #[.pointer (some ⟨p, 0, none⟩), .slice none 0 0, .slice none 0 0, .map (some mo)] 119 (0, 0))
  have h4 := (H3.out.push (F := fun _ => False) (t := own 3 1 (.slice none 0 0) 0 []) (Chg.refl _ _) ⟨Own.nil _ _ _, by funext k; simp [Value.ownBlock]⟩ (fun _ h => h.elim))
  have H4 : Hid (Sys x3 m (blk pa (.cells #[.pointer (some ⟨p, 0, none⟩), .slice none 0 0, .slice none 0 0, .map (some mo)] 119 (0, 0)) :: own 3 1 (.slice none 0 0) 0 ((badsOf c (I.take 0)).map (Value.int .i64)) :: mapT intKey mo [] :: blk nc (.cells #[.int .i64 c.f, .int .i64 c.n, .int .i64 c.cl, .int .i64 c.ba, .int .i64 c.mo, .int .i64 c.bt, .int .i64 c.po, .int .i64 c.wi] 49 (0, 0)) :: l)) := by
    rw [List.take_zero]
    exact h4.swap
  have HN := Lib.hid hn
  have HN2 := Lib.hid hn2
  have HI := Lib.hid hI
  have HG := Lib.hid hg
  have HM1 := Lib.hid hm1
  clear h h2 h4 hx2 hmo H3 H1 hn hn2 hI hmm hg hm1
  go_enter Try.func21, Try.ntmps21
  go_upto_region 1 with fail
  rw [EX1.out, EN1.out]
  go_upto_region 2 with fail
  rw [EX3.out, EN3.out]
  go_wp2_with fail
  go_loopw [16] (fun iv wr => ∃ (i : Nat) (a : Option Addr) (nb cp : Nat), i ≤ n ∧ iv = .int .i64 (i : Int) ∧ Hid ((badsOf c (I.take i)).length = nb) ∧ Sys wr m (blk pa (.cells #[.pointer (some ⟨p, 0, none⟩), .slice a nb cp, .slice none 0 0, .map (some mo)] 119 (0, 0)) :: own 3 1 (.slice a nb cp) nb ((badsOf c (I.take i)).map (Value.int .i64)) :: mapT intKey mo [] :: blk nc (.cells #[.int .i64 c.f, .int .i64 c.n, .int .i64 c.cl, .int .i64 c.ba, .int .i64 c.mo, .int .i64 c.bt, .int .i64 c.po, .int .i64 c.wi] 49 (0, 0)) :: l)) (fun iv _ => n - (intOf iv).toNat)
  case atStart => exact ⟨0, none, 0, 0, by omega, rfl, rfl, H4.out⟩
  case round =>
    obtain ⟨i, a, nb, cp, hi, rfl, HNB, hR⟩ := hrel
    by_cases hlt : i < n
    · have hil : (i : Int) < (n : Int) := by omega
      have hiw : IntKind.i64.wrap ((i : Int) + 1) = (i : Int) + 1 := by rw [IntKind.wrap_i64]; have := HN2.out; omega
      have hiI : i < I.length := by rw [HN.out]; exact hlt
      obtain ⟨x, hx⟩ : ∃ x, x = I.getD i 0 := ⟨_, rfl⟩
      obtain ⟨b, off, rfl, hc⟩ : ∃ b off, ia = some ⟨b, off, none⟩ ∧ wr.cell? ⟨b, off + i, none⟩ = some (.int .i64 x) := by
        rcases HI.out wr m hR.tail.tail.tail.tail with h | ⟨b, off, e, h⟩
        · rw [h] at hiI; simp at hiI
        · exact ⟨b, off, e, by rw [hx]; exact h i hiI⟩
      have hxg : x = I[i] := by rw [hx, List.getD_eq_getElem?_getD, List.getElem?_eq_getElem hiI]; rfl
      have HST : Hid (badsOf c (I.take (i + 1)) = badStep c (badsOf c (I.take i)) x) := by
        show _ = _
        rw [hxg]; exact foldl_take (badStep c) [] I i hiI
      obtain ⟨BN, hBN⟩ : ∃ L, L = badsOf c (I.take i) := ⟨_, rfl⟩
      have hble : nb ≤ i := by have := bads_le c (I.take i); rw [HNB.out, List.length_take] at this; omega
      rw [← hBN] at hR HST HNB
      have HLE := Lib.hid hble
      have HLT := Lib.hid hlt
      have HR := Lib.hid hR
      clear hx hxg hiI hble hBN hR hlt hi
      go_upto_region 5 with fail
      clear hc
      by_cases hrep : repB c x = true
      · have HREP := Lib.hid hrep
        by_cases hin : x ∈ BN
        · have HIN := Lib.hid hin
          have HSAME : Hid (badStep c BN x = BN) := by show _ = _; unfold badStep; simp [hin]
          clear hrep hin
          refine wp_region_seq (fun x : World => x.heap[nc]? = some (.cells #[.int .i64 c.f, .int .i64 c.n, .int .i64 c.cl, .int .i64 c.ba, .int .i64 c.mo, .int .i64 c.bt, .int .i64 c.po, .int .i64 c.wi] 49 (0, 0)) ∧ x.heap[pa]? = some (.cells #[.pointer (some ⟨p, 0, none⟩), .slice a nb cp, .slice none 0 0, .map (some mo)] 119 (0, 0))) anyW [] [(0, 1, some 20), (1, 0, some 21), (2, 2, some 22), (3, 0, some 23), (4, 0, some 24), (5, 0, some 25), (6, 2, some 26), (7, 0, some 27), (8, 0, some 28), (9, 0, some 29), (10, 4, some 30), (11, 4, some 31), (12, 4, some 32), (13, 4, some 33), (14, 4, some 34), (15, 4, some 35), (16, 4, some 36), (17, 4, some 37), (18, 0, some 38)] (by kernel_rfl) (by kernel_rfl) (fun _ _ _ d _ h => by cases d <;> exact h) ⟨HR.out.drew.nth 3 rfl, HR.out.drew.nth 0 rfl⟩ anyW.i ?_
          repeat (first | (refine seqW (v := ?_) rfl rfl (by kernel_rfl) ?_ ?_; rotate_left; (focus ((intro x; go_simp); try (with_reducible rfl))); try simp only [Act.put, List.setIfInBounds_toArray, List.set_cons_zero, List.set_cons_succ]) | (refine seqS (v := ?_) rfl rfl (by kernel_rfl) ?_ ?_; rotate_left; (focus (intro x hS; first | (refine (exec_row 49 _ (by rfl) nc (by rfl) _ _ _ _ hS.1 Try.underlying49 rfl size8).trans ?_; with_reducible rfl) | (obtain ⟨hS1, hS2⟩ := hS; have q1 : x.cell? ⟨pa, 1, none⟩ = some (.slice a nb cp) := (cell_of_blk hS2 1).trans rfl; have k0 : x.cell? ⟨nc, 0, none⟩ = some (.int .i64 c.f) := (cell_of_blk hS1 0).trans rfl; go_simp; try (with_reducible rfl)))); try simp only [Act.put, List.setIfInBounds_toArray, List.set_cons_zero, List.set_cons_succ]) | (refine seqX rfl rfl (by kernel_rfl) ?_; try simp only [Act.put, List.setIfInBounds_toArray, List.set_cons_zero, List.set_cons_succ]))
          refine seqL rfl rfl (fun K hK => ?_)
          go_simp
          go_at_call 60
          refine (cert_replica c HG.out x HR.out.drew).mono ?_
          rintro z y1 ⟨rfl, h⟩
          rw [HREP.out]
          have H6 := Lib.hid h
          clear h
          go_wp2_with fail
          refine hK.out _ _ anyW.i ?_ (fun _ hSt => ?_)
          · exact ⟨H6.out.nth 3 rfl, H6.out.nth 0 rfl⟩
          clear hSt hK K
          try simp only [Act.put, List.setIfInBounds_toArray, List.set_cons_zero, List.set_cons_succ]
          repeat (first | (refine seqW (v := ?_) rfl rfl (by kernel_rfl) ?_ ?_; rotate_left; (focus ((intro x; go_simp); try (with_reducible rfl))); try simp only [Act.put, List.setIfInBounds_toArray, List.set_cons_zero, List.set_cons_succ]) | (refine seqS (v := ?_) rfl rfl (by kernel_rfl) ?_ ?_; rotate_left; (focus (intro x hS; first | (refine (exec_row 49 _ (by rfl) nc (by rfl) _ _ _ _ hS.1 Try.underlying49 rfl size8).trans ?_; with_reducible rfl) | (obtain ⟨hS1, hS2⟩ := hS; have q1 : x.cell? ⟨pa, 1, none⟩ = some (.slice a nb cp) := (cell_of_blk hS2 1).trans rfl; have k0 : x.cell? ⟨nc, 0, none⟩ = some (.int .i64 c.f) := (cell_of_blk hS1 0).trans rfl; go_simp; try (with_reducible rfl)))); try simp only [Act.put, List.setIfInBounds_toArray, List.set_cons_zero, List.set_cons_succ]) | (refine seqX rfl rfl (by kernel_rfl) ?_; try simp only [Act.put, List.setIfInBounds_toArray, List.set_cons_zero, List.set_cons_succ]))
          refine seqL rfl rfl (fun K hK => ?_)
          go_simp
          go_at_call 28
          refine (watch_bad0 (H6.out.nth 0 rfl) x HNB.out (by have := HLE.out; have := HN2.out; have := HLT.out; omega) (H6.out.front 1 rfl).getOwn.intsAt).mono ?_
          rintro z y2 ⟨rfl, rfl⟩
          rw [decide_eq_true HIN.out]
          have H7 := H6
          go_wp2_with fail
          refine hK.out _ _ anyW.i ?_ (fun _ hSt => ?_)
          · exact ⟨H7.out.nth 3 rfl, H7.out.nth 0 rfl⟩
          clear hSt hK K
          try simp only [Act.put, List.setIfInBounds_toArray, List.set_cons_zero, List.set_cons_succ]
          repeat (first | (refine seqW (v := ?_) rfl rfl (by kernel_rfl) ?_ ?_; rotate_left; (focus ((intro x; go_simp); try (with_reducible rfl))); try simp only [Act.put, List.setIfInBounds_toArray, List.set_cons_zero, List.set_cons_succ]) | (refine seqS (v := ?_) rfl rfl (by kernel_rfl) ?_ ?_; rotate_left; (focus (intro x hS; first | (refine (exec_row 49 _ (by rfl) nc (by rfl) _ _ _ _ hS.1 Try.underlying49 rfl size8).trans ?_; with_reducible rfl) | (obtain ⟨hS1, hS2⟩ := hS; have q1 : x.cell? ⟨pa, 1, none⟩ = some (.slice a nb cp) := (cell_of_blk hS2 1).trans rfl; have k0 : x.cell? ⟨nc, 0, none⟩ = some (.int .i64 c.f) := (cell_of_blk hS1 0).trans rfl; go_simp; try (with_reducible rfl)))); try simp only [Act.put, List.setIfInBounds_toArray, List.set_cons_zero, List.set_cons_succ]) | (refine seqX rfl rfl (by kernel_rfl) ?_; try simp only [Act.put, List.setIfInBounds_toArray, List.set_cons_zero, List.set_cons_succ]))
          refine seqE ?_
          go_wp2_with fail
          go_roundw
          case rel => exact ⟨i + 1, a, nb, cp, by have := HLT.out; omega, by go_num, by rw [HST.out, HSAME.out]; exact HNB, by rw [HST.out, HSAME.out]; exact H7.out⟩
          case measure => simp [intOf]; have := HLT.out; omega
        · have HIN := Lib.hid hin
          obtain ⟨tb, htb⟩ : ∃ t, decide ((nb : Int) < c.f) = t := ⟨_, rfl⟩
          have HTB := Lib.hid htb
          clear hrep hin
          refine wp_region_seq (fun x : World => x.heap[nc]? = some (.cells #[.int .i64 c.f, .int .i64 c.n, .int .i64 c.cl, .int .i64 c.ba, .int .i64 c.mo, .int .i64 c.bt, .int .i64 c.po, .int .i64 c.wi] 49 (0, 0)) ∧ x.heap[pa]? = some (.cells #[.pointer (some ⟨p, 0, none⟩), .slice a nb cp, .slice none 0 0, .map (some mo)] 119 (0, 0))) anyW [] [(0, 1, some 20), (1, 0, some 21), (2, 2, some 22), (3, 0, some 23), (4, 0, some 24), (5, 0, some 25), (6, 2, some 26), (7, 0, some 27), (8, 0, some 28), (9, 0, some 29), (10, 0, some 30), (11, 0, some 31), (12, 0, some 32), (13, 1, some 33), (14, 0, some 34), (15, 0, some 35), (16, 1, some 36), (17, 0, some 37), (18, 0, some 38)] (by kernel_rfl) (by kernel_rfl) (fun _ _ _ d _ h => by cases d <;> exact h) ⟨HR.out.drew.nth 3 rfl, HR.out.drew.nth 0 rfl⟩ anyW.i ?_
          repeat (first | (refine seqW (v := ?_) rfl rfl (by kernel_rfl) ?_ ?_; rotate_left; (focus ((intro x; go_simp); try (with_reducible rfl))); try simp only [Act.put, List.setIfInBounds_toArray, List.set_cons_zero, List.set_cons_succ]) | (refine seqS (v := ?_) rfl rfl (by kernel_rfl) ?_ ?_; rotate_left; (focus (intro x hS; first | (refine (exec_row 49 _ (by rfl) nc (by rfl) _ _ _ _ hS.1 Try.underlying49 rfl size8).trans ?_; with_reducible rfl) | (obtain ⟨hS1, hS2⟩ := hS; have q1 : x.cell? ⟨pa, 1, none⟩ = some (.slice a nb cp) := (cell_of_blk hS2 1).trans rfl; have k0 : x.cell? ⟨nc, 0, none⟩ = some (.int .i64 c.f) := (cell_of_blk hS1 0).trans rfl; go_simp; try (with_reducible rfl)))); try simp only [Act.put, List.setIfInBounds_toArray, List.set_cons_zero, List.set_cons_succ]) | (refine seqX rfl rfl (by kernel_rfl) ?_; try simp only [Act.put, List.setIfInBounds_toArray, List.set_cons_zero, List.set_cons_succ]))
          refine seqL rfl rfl (fun K hK => ?_)
          go_simp
          go_at_call 60
          refine (cert_replica c HG.out x HR.out.drew).mono ?_
          rintro z y1 ⟨rfl, h⟩
          rw [HREP.out]
          have H6 := Lib.hid h
          clear h
          go_wp2_with fail
          refine hK.out _ _ anyW.i ?_ (fun _ hSt => ?_)
          · exact ⟨H6.out.nth 3 rfl, H6.out.nth 0 rfl⟩
          clear hSt hK K
          try simp only [Act.put, List.setIfInBounds_toArray, List.set_cons_zero, List.set_cons_succ]
          repeat (first | (refine seqW (v := ?_) rfl rfl (by kernel_rfl) ?_ ?_; rotate_left; (focus ((intro x; go_simp); try (with_reducible rfl))); try simp only [Act.put, List.setIfInBounds_toArray, List.set_cons_zero, List.set_cons_succ]) | (refine seqS (v := ?_) rfl rfl (by kernel_rfl) ?_ ?_; rotate_left; (focus (intro x hS; first | (refine (exec_row 49 _ (by rfl) nc (by rfl) _ _ _ _ hS.1 Try.underlying49 rfl size8).trans ?_; with_reducible rfl) | (obtain ⟨hS1, hS2⟩ := hS; have q1 : x.cell? ⟨pa, 1, none⟩ = some (.slice a nb cp) := (cell_of_blk hS2 1).trans rfl; have k0 : x.cell? ⟨nc, 0, none⟩ = some (.int .i64 c.f) := (cell_of_blk hS1 0).trans rfl; go_simp; try (with_reducible rfl)))); try simp only [Act.put, List.setIfInBounds_toArray, List.set_cons_zero, List.set_cons_succ]) | (refine seqX rfl rfl (by kernel_rfl) ?_; try simp only [Act.put, List.setIfInBounds_toArray, List.set_cons_zero, List.set_cons_succ]))
          refine seqL rfl rfl (fun K hK => ?_)
          go_simp
          go_at_call 28
          refine (watch_bad0 (H6.out.nth 0 rfl) x HNB.out (by have := HLE.out; have := HN2.out; have := HLT.out; omega) (H6.out.front 1 rfl).getOwn.intsAt).mono ?_
          rintro z y2 ⟨rfl, rfl⟩
          rw [decide_eq_false HIN.out]
          have H8 := H6
          go_wp2_with fail
          refine hK.out _ _ anyW.i ?_ (fun _ hSt => ?_)
          · exact ⟨H8.out.nth 3 rfl, H8.out.nth 0 rfl⟩
          clear hSt hK K
          try simp only [Act.put, List.setIfInBounds_toArray, List.set_cons_zero, List.set_cons_succ]
          repeat (first | (refine seqW (v := ?_) rfl rfl (by kernel_rfl) ?_ ?_; rotate_left; (focus ((intro x; go_simp); try (with_reducible rfl))); try simp only [Act.put, List.setIfInBounds_toArray, List.set_cons_zero, List.set_cons_succ]) | (refine seqS (v := ?_) rfl rfl (by kernel_rfl) ?_ ?_; rotate_left; (focus (intro x hS; first | (refine (exec_row 49 _ (by rfl) nc (by rfl) _ _ _ _ hS.1 Try.underlying49 rfl size8).trans ?_; with_reducible rfl) | (obtain ⟨hS1, hS2⟩ := hS; have q1 : x.cell? ⟨pa, 1, none⟩ = some (.slice a nb cp) := (cell_of_blk hS2 1).trans rfl; have k0 : x.cell? ⟨nc, 0, none⟩ = some (.int .i64 c.f) := (cell_of_blk hS1 0).trans rfl; go_simp; try (with_reducible rfl)))); try simp only [Act.put, List.setIfInBounds_toArray, List.set_cons_zero, List.set_cons_succ]) | (refine seqX rfl rfl (by kernel_rfl) ?_; try simp only [Act.put, List.setIfInBounds_toArray, List.set_cons_zero, List.set_cons_succ]))
          refine seqE ?_
          clear htb
          cases tb
          · have HSAME : Hid (badStep c BN x = BN) := by
              show _ = _
              unfold badStep
              rw [HNB.out, HTB.out, Bool.and_false]; rfl
            go_wp2_with fail
            go_roundw
            case rel => exact ⟨i + 1, a, nb, cp, by have := HLT.out; omega, by go_num, by rw [HST.out, HSAME.out]; exact HNB, by rw [HST.out, HSAME.out]; exact H8.out⟩
            case measure => simp [intOf]; have := HLT.out; omega
          · have HSAME : Hid (badStep c BN x = BN ++ [x]) := by
              show _ = _
              unfold badStep
              rw [HNB.out, HTB.out, HREP.out, decide_eq_false HIN.out]; rfl
            obtain ⟨ni, y4, EN5, EX5, ES5, H9⟩ := H8.out.box (.cells #[.int .i64 x] 3 (0, 0))
            obtain ⟨v', y5, hap, h5⟩ := (H9.out.front 2 rfl).appInts (k := 1) (some ⟨ni, 0, none⟩) 1 [x] rfl (ints_const (t := [x]) (H9.out.nth 0 rfl)) (by have := HLE.out; have := HN2.out; have := HLT.out; omega) 23
            obtain ⟨a', n', cp', rfl, hn'⟩ := h5.getOwn.slice
            obtain rfl : n' = nb + 1 := hn'.out
            have h6 := h5.dropAt 1 rfl
            have q1 : World.cell? _ ⟨pa, 1, none⟩ = some (.slice a nb cp) := (cell_of_blk (H8.out.nth 0 rfl) 1).trans rfl
            have f1 := frozen_of_blk (h6.nth 1 rfl) 1
            have c1 : y5.cell? ⟨pa, 1, none⟩ = some (.slice a nb cp) := (cell_of_blk (h6.nth 1 rfl) 1).trans rfl
            have H10 := Lib.hid h6.swap
            clear h5 h6 hn'
            go_upto_region 7 with (first | (rw [EX5.out, EN5.out]; (at_builtin; refine wpl_append rfl _ _ _ rfl rfl rfl hap ?_)) | (at_builtin; refine wpl_append rfl _ _ _ rfl rfl rfl hap ?_))
            have H11 : Hid (Sys (y5.setCell ⟨pa, 1, none⟩ (.slice a' (nb + 1) cp')) m (blk pa (.cells #[.pointer (some ⟨p, 0, none⟩), .slice a' (nb + 1) cp', .slice none 0 0, .map (some mo)] 119 (0, 0)) :: own 3 1 (.slice a' (nb + 1) cp') (nb + 1) ((BN ++ [x]).map (Value.int .i64)) :: mapT intKey mo [] :: blk nc (.cells #[.int .i64 c.f, .int .i64 c.n, .int .i64 c.cl, .int .i64 c.ba, .int .i64 c.mo, .int .i64 c.bt, .int .i64 c.po, .int .i64 c.wi] 49 (0, 0)) :: l)) := H10.out.setCell (i := 1) _
            generalize y5.setCell ⟨pa, 1, none⟩ (.slice a' (nb + 1) cp') = y6 at *
            go_wp2_with fail
            go_roundw
            case rel => exact ⟨i + 1, a', nb + 1, cp', by have := HLT.out; omega, by go_num, by rw [HST.out, HSAME.out]; show _ = _; rw [List.length_append, HNB.out]; rfl, by rw [HST.out, HSAME.out]; exact H11.out⟩
            case measure => simp [intOf]; have := HLT.out; omega
      · have hrf : repB c x = false := by simpa using hrep
        have HREP := Lib.hid hrf
        have HSAME : Hid (badStep c BN x = BN) := by show _ = _; unfold badStep; simp [hrf]
        clear hrep hrf
        refine wp_region_seq (fun x : World => x.heap[nc]? = some (.cells #[.int .i64 c.f, .int .i64 c.n, .int .i64 c.cl, .int .i64 c.ba, .int .i64 c.mo, .int .i64 c.bt, .int .i64 c.po, .int .i64 c.wi] 49 (0, 0)) ∧ x.heap[pa]? = some (.cells #[.pointer (some ⟨p, 0, none⟩), .slice a nb cp, .slice none 0 0, .map (some mo)] 119 (0, 0))) anyW [] [(0, 1, some 20), (1, 0, some 21), (2, 2, some 22), (3, 0, some 23), (4, 4, some 24), (5, 4, some 25), (6, 4, some 26), (7, 4, some 27), (8, 0, some 28), (9, 0, some 29), (10, 4, some 30), (11, 4, some 31), (12, 4, some 32), (13, 4, some 33), (14, 4, some 34), (15, 4, some 35), (16, 4, some 36), (17, 4, some 37), (18, 0, some 38)] (by kernel_rfl) (by kernel_rfl) (fun _ _ _ d _ h => by cases d <;> exact h) ⟨HR.out.drew.nth 3 rfl, HR.out.drew.nth 0 rfl⟩ anyW.i ?_
        repeat (first | (refine seqW (v := ?_) rfl rfl (by kernel_rfl) ?_ ?_; rotate_left; (focus ((intro x; go_simp); try (with_reducible rfl))); try simp only [Act.put, List.setIfInBounds_toArray, List.set_cons_zero, List.set_cons_succ]) | (refine seqS (v := ?_) rfl rfl (by kernel_rfl) ?_ ?_; rotate_left; (focus (intro x hS; first | (refine (exec_row 49 _ (by rfl) nc (by rfl) _ _ _ _ hS.1 Try.underlying49 rfl size8).trans ?_; with_reducible rfl) | (obtain ⟨hS1, hS2⟩ := hS; have q1 : x.cell? ⟨pa, 1, none⟩ = some (.slice a nb cp) := (cell_of_blk hS2 1).trans rfl; have k0 : x.cell? ⟨nc, 0, none⟩ = some (.int .i64 c.f) := (cell_of_blk hS1 0).trans rfl; go_simp; try (with_reducible rfl)))); try simp only [Act.put, List.setIfInBounds_toArray, List.set_cons_zero, List.set_cons_succ]) | (refine seqX rfl rfl (by kernel_rfl) ?_; try simp only [Act.put, List.setIfInBounds_toArray, List.set_cons_zero, List.set_cons_succ]))
        refine seqL rfl rfl (fun K hK => ?_)
        go_simp
        go_at_call 60
        refine (cert_replica c HG.out x HR.out.drew).mono ?_
        rintro z y1 ⟨rfl, h⟩
        rw [HREP.out]
        have H6 := Lib.hid h
        clear h
        go_wp2_with fail
        refine hK.out _ _ anyW.i ?_ (fun _ hSt => ?_)
        · exact ⟨H6.out.nth 3 rfl, H6.out.nth 0 rfl⟩
        clear hSt hK K
        try simp only [Act.put, List.setIfInBounds_toArray, List.set_cons_zero, List.set_cons_succ]
        repeat (first | (refine seqW (v := ?_) rfl rfl (by kernel_rfl) ?_ ?_; rotate_left; (focus ((intro x; go_simp); try (with_reducible rfl))); try simp only [Act.put, List.setIfInBounds_toArray, List.set_cons_zero, List.set_cons_succ]) | (refine seqS (v := ?_) rfl rfl (by kernel_rfl) ?_ ?_; rotate_left; (focus (intro x hS; first | (refine (exec_row 49 _ (by rfl) nc (by rfl) _ _ _ _ hS.1 Try.underlying49 rfl size8).trans ?_; with_reducible rfl) | (obtain ⟨hS1, hS2⟩ := hS; have q1 : x.cell? ⟨pa, 1, none⟩ = some (.slice a nb cp) := (cell_of_blk hS2 1).trans rfl; have k0 : x.cell? ⟨nc, 0, none⟩ = some (.int .i64 c.f) := (cell_of_blk hS1 0).trans rfl; go_simp; try (with_reducible rfl)))); try simp only [Act.put, List.setIfInBounds_toArray, List.set_cons_zero, List.set_cons_succ]) | (refine seqX rfl rfl (by kernel_rfl) ?_; try simp only [Act.put, List.setIfInBounds_toArray, List.set_cons_zero, List.set_cons_succ]))
        refine seqE ?_
        go_wp2_with fail
        go_roundw
        case rel => exact ⟨i + 1, a, nb, cp, by have := HLT.out; omega, by go_num, by rw [HST.out, HSAME.out]; exact HNB, by rw [HST.out, HSAME.out]; exact H6.out⟩
        case measure => simp [intOf]; have := HLT.out; omega
    · obtain rfl : n = i := by omega
      rw [List.take_of_length_le (by rw [HN.out]; exact Nat.le_refl _)] at hR HNB
      have HR := Lib.hid hR
      clear hR hlt hi
      go_wp2_with fail
      go_ret
      refine ⟨pa, rfl, ?_⟩
      have h7 := (HR.out.push (F := fun _ => False) (t := own 60 3 (.slice none 0 0) 0 []) (Chg.refl _ _) ⟨Own.nil _ _ _, by funext k; simp [Value.ownBlock]⟩ (fun _ h => h.elim))
      have h8 : Sys wr m (pureW (([] : List SeenX).map SeenX.x = []) :: blk pa (.cells #[.pointer (some ⟨p, 0, none⟩), .slice a nb cp, .slice none 0 0, .map (some mo)] 119 (0, 0)) :: own 3 1 (.slice a nb cp) nb ((badsOf c I).map (Value.int .i64)) :: own 60 3 (.slice none 0 0) 0 [] :: mapT intKey mo [] :: rowsT [] :: l) := ((((Sys.close (f := fun _ : Unit => seenRows []) () (h7.dropAt 4 rfl)).front 4 rfl).front 2 rfl |>.front 4 rfl).front 4 rfl).addPureW rfl
      rw [← HNB.out] at h8
      exact Sys.putN kw HM1.out (Sys.close (f := watchF pa p (badsOf c I) [] []) ⟨.slice a (badsOf c I).length cp, .slice none 0 0, mo, []⟩ h8)
end
end Go.Proofs.Ytcfhkpjheemkgaa
