/-
  tolseylaw24.Few of any message.
-/
import Derived.Test.YtcfhkpjheemkgaaMsgArgs
import Derived.Test.YtcfhkpjheemkgaaSeq
import Derived.Deep.DeepCutAuto
namespace Go.Proofs.Ytcfhkpjheemkgaa
set_option linter.unusedSectionVars false
set_option linter.unnecessarySimpa false
set_option linter.unusedSimpArgs false
set_option linter.unusedVariables false
open Go.RowKit Go.MapKept

def blkN (E : List (BlkX × Value × Value)) (i : Nat) : Nat := ((E.take i).map fun a => a.1.by_.length + a.1.envs.length).sum
def MsgP.count (P : MsgP) : Nat := P.q.length + P.t.length + P.h.length + P.g.length + P.E.length + blkN P.E 20
def MsgP.few (P : MsgP) : Bool := decide ((P.count : Int) ≤ 100) && decide ((P.E.length : Int) ≤ 12)
def MsgP.Small (P : MsgP) : Prop := P.q.length ≤ 140737488355328 ∧ P.t.length ≤ 140737488355328 ∧ P.h.length ≤ 140737488355328 ∧ P.g.length ≤ 140737488355328 ∧ P.E.length ≤ 140737488355328 ∧ ∀ a ∈ P.E, a.1.by_.length ≤ 140737488355328 ∧ a.1.envs.length ≤ 140737488355328
theorem blkN_succ (E : List (BlkX × Value × Value)) (i : Nat) (h : i < E.length) : blkN E (i + 1) = blkN E i + (E[i].1.by_.length + E[i].1.envs.length) := by
  unfold blkN
  rw [List.take_succ_eq_append_getElem h, List.map_append, List.sum_append]
  simp
section
variable {w w' : World} {m : Nat → Thing} {l : List Thing}
set_option maxRecDepth 100000 in
set_option maxHeartbeats 4000000 in
theorem mess_few (P : MsgP) (hP : Cap l P.Raw) (hsm : P.Small) (h : Sys w m l) :
    Calls Try.prog 14 #[.agg P.cells.toArray] w fun z w' => z = .returned (.bool P.few) ∧ Sys w' m l := by
  obtain ⟨b1, b2, b3, b4, b5, bE⟩ := hsm
  have bN : ∀ i, i ≤ 20 → blkN P.E i ≤ 20 * 281474976710656 := by
    obtain ⟨M, hM⟩ : ∃ M, M = 281474976710656 := ⟨_, rfl⟩
    have h1 : ∀ i, blkN P.E i ≤ i * M := by
      intro i
      induction i with
      | zero => simp [blkN]
      | succ i ih =>
        by_cases hi : i < P.E.length
        · rw [blkN_succ _ _ hi, Nat.succ_mul]
          have := bE _ (List.getElem_mem hi)
          omega
        · have : blkN P.E (i + 1) = blkN P.E i := by unfold blkN; rw [List.take_of_length_le (by omega), List.take_of_length_le (by omega)]
          rw [this, Nat.succ_mul]; omega
    intro i hi
    rw [← hM]
    exact Nat.le_trans (h1 i) (Nat.mul_le_mul_right M hi)
  have hfew : P.few = (decide ((P.count : Int) ≤ 100) && decide ((P.E.length : Int) ≤ 12)) := rfl
  have hA : Cap l (fun y => RawSl y (.slice P.ba P.E.length P.bc) P.E.length (flatB P.E) ∧ ∀ a ∈ P.E, BlkQ y a) := fun y m' hs => ⟨(hP y m' hs).b, (hP y m' hs).e⟩
  have hcount : P.count = P.q.length + P.t.length + P.h.length + P.g.length + P.E.length + blkN P.E 20 := rfl
  obtain ⟨fb, hfb⟩ : ∃ b, b = P.few := ⟨_, rfl⟩
  rw [← hfb] at hfew ⊢
  clear hfb
  obtain ⟨cnt, hcnt⟩ : ∃ c, c = P.count := ⟨_, rfl⟩
  rw [← hcnt] at hfew hcount
  clear hcnt hP
  obtain ⟨⟨ik, ifr, ito, iv, im, qv, qb, tv, hv, hb, ec, en, ef, ei⟩, IQ, IT, IH, IG, E, qa, ta, ha, ga, ba, qc, tc, hc, gc, bc⟩ := P
  dsimp only at b1 b2 b3 b4 b5 bE bN hfew hA hcount
  change Calls _ _ #[.agg #[.int .i64 ik, .int .i64 ifr, .int .i64 ito, .int .i64 iv, .int .i64 im, .int .i64 qv, .int .i64 qb, .slice qa IQ.length qc, .int .i64 tv, .slice ta IT.length tc, .slice ha IH.length hc, .int .i64 hv, .int .i64 hb, .slice ga IG.length gc, .int .i64 ec, .int .u64 en, .int .u64 ef, .int .i64 ei, .slice ba E.length bc]] w _
  obtain ⟨nq, hnq⟩ : ∃ n, n = IQ.length := ⟨_, rfl⟩
  obtain ⟨nt, hnt⟩ : ∃ n, n = IT.length := ⟨_, rfl⟩
  obtain ⟨nh, hnh⟩ : ∃ n, n = IH.length := ⟨_, rfl⟩
  obtain ⟨ng, hng⟩ : ∃ n, n = IG.length := ⟨_, rfl⟩
  obtain ⟨nb, hnb⟩ : ∃ n, n = E.length := ⟨_, rfl⟩
  rw [← hnq, ← hnt, ← hnh, ← hng, ← hnb] at hcount
  rw [← hnq] at b1 ⊢
  rw [← hnt] at b2 ⊢
  rw [← hnh] at b3 ⊢
  rw [← hng] at b4 ⊢
  rw [← hnb] at b5 hfew ⊢
  have HNB := Lib.hid hnb
  have HA := Lib.hid hA
  have HFEW := Lib.hid hfew
  have HCNT := Lib.hid hcount
  have HBN := Lib.hid bN
  have HBE := Lib.hid bE
  have HB5 := Lib.hid b5
  have HBS : Hid (nq + nt + nh + ng + nb ≤ 5 * 140737488355328) := by show _ ≤ _; omega
  have hw1 : IntKind.i64.wrap ((nq : Int) + nt) = (nq : Int) + nt := by rw [IntKind.wrap_i64]; omega
  have hw2 : IntKind.i64.wrap ((nq : Int) + nt + nh) = (nq : Int) + nt + nh := by rw [IntKind.wrap_i64]; omega
  have hw3 : IntKind.i64.wrap ((nq : Int) + nt + nh + ng) = (nq : Int) + nt + nh + ng := by rw [IntKind.wrap_i64]; omega
  have hw4 : IntKind.i64.wrap ((nq : Int) + nt + nh + ng + nb) = (nq : Int) + nt + nh + ng + nb := by rw [IntKind.wrap_i64]; omega
  obtain ⟨n1, x1, EN1, EX1, ES1, H1⟩ := h.box (.cells #[.int .i64 ik, .int .i64 ifr, .int .i64 ito, .int .i64 iv, .int .i64 im, .int .i64 qv, .int .i64 qb, .slice qa nq qc, .int .i64 tv, .slice ta nt tc, .slice ha nh hc, .int .i64 hv, .int .i64 hb, .slice ga ng gc, .int .i64 ec, .int .u64 en, .int .u64 ef, .int .i64 ei, .slice ba nb bc] 36 (0, 0))
  have hb1 := H1.out.nth 0 rfl
  have q7 : x1.cell? ⟨n1, 7, none⟩ = some (.slice qa nq qc) := (cell_of_blk hb1 7).trans rfl
  have q9 : x1.cell? ⟨n1, 9, none⟩ = some (.slice ta nt tc) := (cell_of_blk hb1 9).trans rfl
  have q10 : x1.cell? ⟨n1, 10, none⟩ = some (.slice ha nh hc) := (cell_of_blk hb1 10).trans rfl
  have q13 : x1.cell? ⟨n1, 13, none⟩ = some (.slice ga ng gc) := (cell_of_blk hb1 13).trans rfl
  have q18 : x1.cell? ⟨n1, 18, none⟩ = some (.slice ba nb bc) := (cell_of_blk hb1 18).trans rfl
  clear h hnq hnt hnh hng hnb b1 b2 b3 b4 b5 bE bN hfew hA hcount hb1
  go_enter Try.func14, Try.ntmps14
  go_upto_region 1 with fail
  rw [EX1.out, EN1.out]
  go_upto_region 3 with fail
  clear hw1 hw2 hw3 hw4 q7 q9 q10 q13 q18
  go_loopw [3, 4] (fun sv xv wr => ∃ i : Nat, i ≤ nb ∧ i ≤ 20 ∧ xv = .int .i64 (i : Int) ∧ sv = .int .i64 ((nq : Int) + nt + nh + ng + nb + (blkN E i : Nat)) ∧ Sys wr m (blk n1 (.cells #[.int .i64 ik, .int .i64 ifr, .int .i64 ito, .int .i64 iv, .int .i64 im, .int .i64 qv, .int .i64 qb, .slice qa nq qc, .int .i64 tv, .slice ta nt tc, .slice ha nh hc, .int .i64 hv, .int .i64 hb, .slice ga ng gc, .int .i64 ec, .int .u64 en, .int .u64 ef, .int .i64 ei, .slice ba nb bc] 36 (0, 0)) :: l)) (fun _ xv _ => 20 - (intOf xv).toNat)
  case atStart => exact ⟨0, by omega, by omega, rfl, by simp [blkN], H1.out⟩
  case round =>
    obtain ⟨i, hi, hi20, rfl, rfl, hR⟩ := hrel
    have q18 : World.cell? _ ⟨n1, 18, none⟩ = some (.slice ba nb bc) := (cell_of_blk (hR.nth 0 rfl) 18).trans rfl
    obtain ⟨s, hs⟩ : ∃ s, s = (nq : Int) + nt + nh + ng + nb + (blkN E i : Nat) := ⟨_, rfl⟩
    rw [← hs]
    have hsb : 0 ≤ s ∧ s ≤ 50 * 140737488355328 := by
      have h1 := HBN.out i hi20
      have h2 := HBS.out
      omega
    by_cases hgo : i < nb ∧ i < 20
    · obtain ⟨hlt, h20⟩ := hgo
      have hil : (i : Int) < (nb : Int) := by omega
      have hi2 : (i : Int) < 20 := by omega
      have hiw : IntKind.i64.wrap ((i : Int) + 1) = (i : Int) + 1 := by rw [IntKind.wrap_i64]; omega
      have hel : i < E.length := by rw [← HNB.out]; exact hlt
      obtain ⟨hrow, hq⟩ := HA.out _ _ hR.tail
      have hmem : E[i] ∈ E := List.getElem_mem hel
      obtain ⟨hy, hen, _⟩ := hq _ hmem
      obtain ⟨ua, uc, hu, -⟩ := hy
      obtain ⟨va, vc, hv2, -⟩ := hen
      obtain ⟨a_, c_, e_, hsrc, -⟩ := hrow
      cases e_
      obtain ⟨eb, eo, rfl, hcell⟩ : ∃ b off, ba = some ⟨b, off, none⟩ ∧ ∀ (j : Nat) (u : Value), (flatB E)[j]? = some u → World.cell? _ ⟨b, off + j, none⟩ = some u := by
        rcases hsrc with h0 | ⟨b, off, e, h1⟩
        · have := congrArg List.length h0; rw [flatB_length] at this; simp at this; omega
        · exact ⟨b, off, e, fun j u hu => (h1 j u hu).1⟩
      have z4 := hcell (i * 6 + 4) _ ((flatB_at E i hel 4 (by decide)).trans rfl)
      have z5 := hcell (i * 6 + 5) _ ((flatB_at E i hel 5 (by decide)).trans rfl)
      have hBB := HBE.out _ hmem
      have hsucc := blkN_succ E i hel
      obtain ⟨e0, he0⟩ : ∃ e, e = E[i] := ⟨_, rfl⟩
      rw [← he0] at z4 z5 hu hv2 hBB hsucc
      rw [hu] at z4
      rw [hv2] at z5
      obtain ⟨by_, hby⟩ : ∃ n, n = e0.1.by_.length := ⟨_, rfl⟩
      obtain ⟨ne, hne⟩ : ∃ n, n = e0.1.envs.length := ⟨_, rfl⟩
      rw [← hby] at z4 hBB hsucc
      rw [← hne] at z5 hBB hsucc
      rw [← Nat.add_assoc] at z4 z5
      have hBB2 : by_ ≤ 140737488355328 ∧ ne ≤ 140737488355328 := hBB
      have hs1 : IntKind.i64.wrap (s + by_) = s + by_ := by rw [IntKind.wrap_i64]; omega
      have hs2 : IntKind.i64.wrap (s + by_ + ne) = s + by_ + ne := by rw [IntKind.wrap_i64]; omega
      have HS := Lib.hid hs
      have HSUC := Lib.hid hsucc
      have HLT := Lib.hid hlt
      have H20 := Lib.hid h20
      have HR := Lib.hid hR
      clear hs hsb hlt h20 hi hi20 hu hv2 hcell hBB hBB2 hsucc he0 hby hne hR
      go_upto_region 5 with fail
      clear q18
      refine wp_region_seq (fun x : World => x.cell? ⟨n1, 18, none⟩ = some (.slice (some ⟨eb, eo, none⟩) nb bc) ∧ x.cell? ⟨eb, eo + i * 6 + 4, none⟩ = some (.slice ua by_ uc) ∧ x.cell? ⟨eb, eo + i * 6 + 5, none⟩ = some (.slice va ne vc)) anyW [] [(0, 0, some 40), (1, 0, some 41), (2, 1, some 42), (3, 0, some 43), (4, 0, some 44), (5, 0, some 45), (6, 0, some 46), (7, 1, some 47), (8, 0, some 48), (9, 0, some 49), (10, 0, some 50), (11, 1, some 51), (12, 0, some 52), (13, 0, some 53), (14, 0, some 54), (15, 1, some 55), (16, 0, some 56), (17, 0, some 57), (18, 0, some 3)] (by kernel_rfl) (by kernel_rfl) (fun _ _ _ d _ h => by cases d <;> exact h) ⟨(cell_of_blk (HR.out.drew.nth 0 rfl) 18).trans rfl, z4, z5⟩ anyW.i ?_
      repeat (first | (refine seqW (v := ?_) rfl rfl (by kernel_rfl) ?_ ?_; rotate_left; (focus ((intro x; go_simp); try (with_reducible rfl))); try simp only [Act.put, List.setIfInBounds_toArray, List.set_cons_zero, List.set_cons_succ]) | (refine seqS (v := ?_) rfl rfl (by kernel_rfl) ?_ ?_; rotate_left; (focus (intro x hS; first | (obtain ⟨k18, z4, z5⟩ := hS; go_simp; try (with_reducible rfl)))); try simp only [Act.put, List.setIfInBounds_toArray, List.set_cons_zero, List.set_cons_succ]) | (refine seqX rfl rfl (by kernel_rfl) ?_; try simp only [Act.put, List.setIfInBounds_toArray, List.set_cons_zero, List.set_cons_succ]))
      refine seqE ?_
      go_wp2_with fail
      go_roundw
      case rel => exact ⟨i + 1, by have := HLT.out; omega, by have := H20.out; omega, by go_num, by have h1 := HSUC.out; have h2 := HS.out; first | (congr 1; omega) | (simp only [Value.int.injEq, true_and]; omega), HR.out.drew⟩
      case measure => simp [intOf]; have := H20.out; omega
    · have hsum : s = (cnt : Int) := by
        have h1 := HCNT.out
        have h2 : blkN E 20 = blkN E i := by
          rcases Nat.lt_or_ge i 20 with h | h
          · have hnb : nb = i := by
              by_cases h3 : i < nb
              · exact absurd ⟨h3, h⟩ hgo
              · omega
            unfold blkN
            rw [List.take_of_length_le (by rw [← HNB.out]; omega), List.take_of_length_le (by rw [← HNB.out]; omega)]
          · obtain rfl : i = 20 := by omega
            rfl
        rw [hs, h1, h2]; push_cast; omega
      have HR := Lib.hid hR
      have HSUM := Lib.hid hsum
      clear hs hsb hR hsum
      go_upto_region 3 with fail
      go_cut [37] from 29 to 36 (fun tv wx => tv = .bool false ∧ wx = wr)
      case first =>
        by_cases hlt : i < nb
        · have hil : (i : Int) < (nb : Int) := by omega
          have hi3 : ¬ ((i : Int) < 20) := by omega
          go_wp2_with fail
          go_meet
          case rel => exact ⟨rfl, rfl⟩
        · have hil : ¬ ((i : Int) < (nb : Int)) := by omega
          go_wp2_with fail
          go_meet
          case rel => exact ⟨rfl, rfl⟩
      case rest =>
        obtain ⟨rfl, rfl⟩ := hcut
        clear hgo hi hi20
        have hfb := HFEW.out
        rw [← HSUM.out] at hfb
        by_cases h100 : s ≤ 100
        · by_cases h12 : (nb : Int) ≤ 12
          · rw [decide_eq_true h100, decide_eq_true h12] at hfb
            subst hfb
            go_wp2_with fail
            go_ret
            exact ⟨rfl, HR.out.tail⟩
          · rw [decide_eq_true h100, decide_eq_false h12] at hfb
            subst hfb
            go_wp2_with fail
            go_ret
            exact ⟨rfl, HR.out.tail⟩
        · rw [decide_eq_false h100, Bool.false_and] at hfb
          subst hfb
          go_wp2_with fail
          go_ret
          exact ⟨rfl, HR.out.tail⟩
end
end Go.Proofs.Ytcfhkpjheemkgaa
