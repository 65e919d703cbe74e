/-
  The bytes of a message's parts: mess.ints, mess.qc, mess.env, mess.block.
-/
import Derived.Test.YtcfhkpjheemkgaaVal
import Derived.Test.YtcfhkpjheemkgaaBlok
namespace Go.Proofs.Ytcfhkpjheemkgaa
set_option linter.unusedSectionVars false
set_option linter.unnecessarySimpa false
set_option linter.unusedSimpArgs false
set_option linter.unusedVariables false
open Go.RowKit Go.MapKept

def mIntsB (I : List Int) : List UInt8 := intB I.length ++ intsB I
def mQcB (v b : Int) (I : List Int) : List UInt8 := intB v ++ intB b ++ mIntsB I
def mEnvB (e : EnvX) : List UInt8 := intB e.client ++ be8 e.nonce ++ be8 e.fee ++ intB e.cipher
def mBlkB (b : BlkX) : List UInt8 := intB b.view ++ intB b.author ++ mQcB b.jv b.jb b.by_ ++ intB b.envs.length ++ b.envs.flatMap mEnvB
theorem mIntsB_length (I : List Int) : (mIntsB I).length = 8 + 8 * I.length := by unfold mIntsB; rw [List.length_append, intsB_length]; show 8 + _ = _; omega
theorem mEnvB_length (e : EnvX) : (mEnvB e).length = 32 := rfl
theorem mEnvs_length (E : List EnvX) : (E.flatMap mEnvB).length = 32 * E.length := by
  induction E with
  | nil => rfl
  | cons e E ih => rw [List.flatMap_cons, List.length_append, ih, mEnvB_length, List.length_cons]; omega
theorem mQcB_length (v b : Int) (I : List Int) : (mQcB v b I).length = 24 + 8 * I.length := by unfold mQcB; rw [List.length_append, mIntsB_length]; show 16 + _ = _; omega
theorem mBlkB_length (b : BlkX) : (mBlkB b).length = 48 + 8 * b.by_.length + 32 * b.envs.length := by
  unfold mBlkB
  rw [List.length_append, mEnvs_length, List.length_append, List.length_append, mQcB_length]
  show 16 + _ + 8 + _ = _
  omega
section
variable {w w' : World} {m : Nat → Thing} {l : List Thing} {p : Nat} {L : List UInt8}
set_option maxRecDepth 100000 in
set_option maxHeartbeats 4000000 in
theorem mess_ints (I : List Int) (ia : Option Addr) (n ic : Nat) (hn : I.length = n) (hnl : n ≤ 2000000) (hI : Cap l (fun y => IntsAt y ia I)) (h : Sys w m (writer p L :: l)) (hL : L.length ≤ 10000000000) :
    Calls Try.prog 104 #[.pointer (some ⟨p, 0, none⟩), .slice ia n ic] w fun e w' => e = .returned (.tuple #[]) ∧ Sys w' m (writer p (L ++ mIntsB I) :: l) := by
  have HN := Lib.hid hn
  have HNL := Lib.hid hnl
  have HI := Lib.hid hI
  have H0 := Lib.hid h
  have HL := Lib.hid hL
  clear hn hnl hI h hL
  go_enter Try.func104, Try.ntmps104
  go_wp2_with fail
  refine (wire_int (n : Int) H0.out (by have := HL.out; omega)).mono ?_
  rintro e w1 ⟨rfl, h⟩
  have H1 := Lib.hid h
  clear h
  go_wp2_with fail
  go_loopw [12] (fun iv wr => ∃ i : Nat, i ≤ n ∧ iv = .int .i64 (i : Int) ∧ Sys wr m (writer p (L ++ intB n ++ intsB (I.take i)) :: l)) (fun iv _ => n - (intOf iv).toNat)
  case atStart => exact ⟨0, by omega, rfl, by rw [List.take_zero]; show Sys _ m (writer p (L ++ intB n ++ []) :: l); rw [List.append_nil]; exact H1.out⟩
  case round =>
    obtain ⟨i, hi, rfl, hR⟩ := hrel
    by_cases hlt : i < n
    · have hil : (i : Int) < (n : Int) := by omega
      have hiw : IntKind.i64.wrap ((i : Int) + 1) = (i : Int) + 1 := by rw [IntKind.wrap_i64]; have := HNL.out; omega
      have hiI : i < I.length := by rw [HN.out]; exact hlt
      obtain ⟨x, hx⟩ : ∃ x, x = I.getD i 0 := ⟨_, rfl⟩
      obtain ⟨b, off, rfl, hc⟩ : ∃ b off, ia = some ⟨b, off, none⟩ ∧ wr.cell? ⟨b, off + i, none⟩ = some (.int .i64 x) := by
        rcases HI.out wr m hR.tail with h | ⟨b, off, e, h⟩
        · rw [h] at hiI; simp at hiI
        · exact ⟨b, off, e, by rw [hx]; exact h i hiI⟩
      have HTK : Hid (intsB (I.take (i + 1)) = intsB (I.take i) ++ intB x) := by
        show _ = _
        rw [hx, List.getD_eq_getElem?_getD, List.getElem?_eq_getElem hiI]
        unfold intsB
        rw [List.take_succ_eq_append_getElem hiI, List.flatMap_append]
        simp
      have HLT := Lib.hid hlt
      have HR := Lib.hid hR
      have hlen : (L ++ intB n ++ intsB (I.take i)).length ≤ 70368744177664 := by
        rw [List.length_append, List.length_append, intsB_length, List.length_take]
        have := HL.out; have := HNL.out; show _ + 8 + _ ≤ _; omega
      have HLN := Lib.hid hlen
      clear hR hx hiI hi hlt hlen
      go_wp2_with fail
      refine (wire_int x HR.out HLN.out).mono ?_
      rintro e w2 ⟨rfl, h⟩
      rw [List.append_assoc, ← HTK.out] at h
      have H2 := Lib.hid h
      clear h hc
      go_wp2_with fail
      go_roundw
      case rel => exact ⟨i + 1, by have := HLT.out; omega, by go_num, H2.out⟩
      case measure => simp [intOf]; have := HLT.out; omega
    · obtain rfl : n = i := by omega
      rw [List.take_of_length_le (by rw [HN.out]; exact Nat.le_refl _)] at hR
      have HR := Lib.hid hR
      clear hR hlt hi
      go_wp2_with fail
      go_end0
      refine ⟨rfl, ?_⟩
      unfold mIntsB
      rw [HN.out, ← List.append_assoc]
      exact HR.out
set_option maxRecDepth 100000 in
set_option maxHeartbeats 2000000 in
theorem mess_qc (v b : Int) (I : List Int) (ia : Option Addr) (n ic : Nat) (hn : I.length = n) (hnl : n ≤ 2000000) (hI : Cap l (fun y => IntsAt y ia I)) (h : Sys w m (writer p L :: l)) (hL : L.length ≤ 9000000000) :
    Calls Try.prog 105 #[.pointer (some ⟨p, 0, none⟩), .agg #[.int .i64 v, .int .i64 b, .slice ia n ic]] w fun e w' => e = .returned (.tuple #[]) ∧ Sys w' m (writer p (L ++ mQcB v b I) :: l) := by
  obtain ⟨nq, x1, EN1, EX1, ES1, H0⟩ := h.box (.cells #[.int .i64 v, .int .i64 b, .slice ia n ic] 28 (0, 0))
  have H1 := Lib.hid H0.out.swap
  have HN := Lib.hid hn
  have HNL := Lib.hid hnl
  have HI := Lib.hid hI
  have HL := Lib.hid hL
  clear hn hnl hI h hL
  go_enter Try.func105, Try.ntmps105
  go_upto_region 1 with fail
  rw [EX1.out, EN1.out]
  obtain ⟨q0, q1, q2⟩ := cells3 (H1.out.nth 1 rfl)
  go_wp2_with fail
  refine (wire_int v H1.out (by have := HL.out; omega)).mono ?_
  rintro e w1 ⟨rfl, h⟩
  have H2 := Lib.hid h
  clear h q0 q1 q2
  obtain ⟨q0, q1, q2⟩ := cells3 (H2.out.nth 1 rfl)
  go_wp2_with fail
  refine (wire_int b H2.out (by rw [List.length_append]; have := HL.out; show _ + 8 ≤ _; omega)).mono ?_
  rintro e w2 ⟨rfl, h⟩
  have H3 := Lib.hid h
  clear h q0 q1 q2
  obtain ⟨q0, q1, q2⟩ := cells3 (H3.out.nth 1 rfl)
  go_wp2_with fail
  refine (mess_ints I ia n ic HN.out HNL.out HI.out.push H3.out (by rw [List.length_append, List.length_append]; have := HL.out; show _ + 8 + 8 ≤ _; omega)).mono ?_
  rintro e w3 ⟨rfl, h⟩
  have H4 := Lib.hid h
  clear h q0 q1 q2
  go_wp2_with fail
  go_end0
  refine ⟨rfl, ?_⟩
  unfold mQcB
  rw [← List.append_assoc, ← List.append_assoc]
  exact H4.out.swap.tail
set_option maxRecDepth 100000 in
set_option maxHeartbeats 2000000 in
theorem mess_env (e : EnvX) (hw : e.wf) (h : Sys w m (writer p L :: l)) (hL : L.length ≤ 9000000000) :
    Calls Try.prog 106 #[.pointer (some ⟨p, 0, none⟩), .agg #[.int .i64 e.client, .int .u64 e.nonce, .int .u64 e.fee, .int .i64 e.cipher]] w fun z w' => z = .returned (.tuple #[]) ∧ Sys w' m (writer p (L ++ mEnvB e) :: l) := by
  obtain ⟨nq, x1, EN1, EX1, ES1, H0⟩ := h.box (.cells #[.int .i64 e.client, .int .u64 e.nonce, .int .u64 e.fee, .int .i64 e.cipher] 33 (0, 0))
  have H1 := Lib.hid H0.out.swap
  have HW := Lib.hid hw
  have HL := Lib.hid hL
  clear hw h hL
  go_enter Try.func106, Try.ntmps106
  go_upto_region 1 with fail
  rw [EX1.out, EN1.out]
  obtain ⟨q0, q1, q2, q3⟩ := cells4 (H1.out.nth 1 rfl)
  go_wp2_with fail
  refine (wire_int e.client H1.out (by have := HL.out; omega)).mono ?_
  rintro z w1 ⟨rfl, h⟩
  have H2 := Lib.hid h
  clear h q0 q1 q2 q3
  obtain ⟨q0, q1, q2, q3⟩ := cells4 (H2.out.nth 1 rfl)
  go_wp2_with fail
  refine (wire_num e.nonce HW.out.1.1 HW.out.1.2 H2.out (by rw [List.length_append]; have := HL.out; show _ + 8 ≤ _; omega)).mono ?_
  rintro z w2 ⟨rfl, h⟩
  have H3 := Lib.hid h
  clear h q0 q1 q2 q3
  obtain ⟨q0, q1, q2, q3⟩ := cells4 (H3.out.nth 1 rfl)
  go_wp2_with fail
  refine (wire_num e.fee HW.out.2.1.1 HW.out.2.1.2 H3.out (by rw [List.length_append, List.length_append]; have := HL.out; show _ + 8 + 8 ≤ _; omega)).mono ?_
  rintro z w3 ⟨rfl, h⟩
  have H4 := Lib.hid h
  clear h q0 q1 q2 q3
  obtain ⟨q0, q1, q2, q3⟩ := cells4 (H4.out.nth 1 rfl)
  go_wp2_with fail
  refine (wire_int e.cipher H4.out (by rw [List.length_append, List.length_append, List.length_append]; have := HL.out; show _ + 8 + 8 + 8 ≤ _; omega)).mono ?_
  rintro z w4 ⟨rfl, h⟩
  have H5 := Lib.hid h
  clear h q0 q1 q2 q3
  go_wp2_with fail
  go_end0
  refine ⟨rfl, ?_⟩
  unfold mEnvB
  rw [← List.append_assoc, ← List.append_assoc, ← List.append_assoc]
  exact H5.out.swap.tail
set_option maxRecDepth 100000 in
set_option maxHeartbeats 8000000 in
theorem mess_block (b : BlkX) (ua : Option Addr) (uc : Nat) (va : Option Addr) (vc : Nat) (hb : Cap l (fun x => BlkAt x b ua uc va vc)) (hwf : ∀ e ∈ b.envs, e.wf) (h : Sys w m (writer p L :: l)) (hL : L.length ≤ 5000000000) :
    Calls Try.prog 107 #[.pointer (some ⟨p, 0, none⟩), .agg #[.int .i64 b.view, .int .i64 b.author, .int .i64 b.jv, .int .i64 b.jb, .slice ua b.by_.length uc, .slice va b.envs.length vc]] w fun z w' => z = .returned (.tuple #[]) ∧ Sys w' m (writer p (L ++ mBlkB b) :: l) := by
  obtain ⟨hl1, hl2⟩ := (hb w m h.tail).lens
  obtain ⟨nq, x1, EN1, EX1, ES1, H0⟩ := h.box (.cells #[.int .i64 b.view, .int .i64 b.author, .int .i64 b.jv, .int .i64 b.jb, .slice ua b.by_.length uc, .slice va b.envs.length vc] 65 (0, 0))
  obtain ⟨ne, hne⟩ : ∃ n, n = b.envs.length := ⟨_, rfl⟩
  obtain ⟨nb, hnb⟩ : ∃ n, n = b.by_.length := ⟨_, rfl⟩
  rw [← hne] at H0 EX1 hl2 ⊢
  rw [← hnb] at H0 EX1 hl1 ⊢
  have H1 := Lib.hid H0.out.swap
  have HB := Lib.hid hb
  have HW := Lib.hid hwf
  have HL := Lib.hid hL
  have HL1 := Lib.hid hl1
  have HL2 := Lib.hid hl2
  have HNE := Lib.hid hne
  have HNB := Lib.hid hnb
  clear hb hwf h hL hl1 hl2 hne hnb
  go_enter Try.func107, Try.ntmps107
  go_upto_region 1 with fail
  rw [EX1.out, EN1.out]
  obtain ⟨q0, q1, q2, q3, q4, q5⟩ := cells6 (H1.out.nth 1 rfl)
  go_wp2_with fail
  refine (wire_int b.view H1.out (by have := HL.out; omega)).mono ?_
  rintro z w1 ⟨rfl, h⟩
  have H2 := Lib.hid h
  clear h q0 q1 q2 q3 q4 q5
  obtain ⟨q0, q1, q2, q3, q4, q5⟩ := cells6 (H2.out.nth 1 rfl)
  go_wp2_with fail
  refine (wire_int b.author H2.out (by rw [List.length_append]; have := HL.out; show _ + 8 ≤ _; omega)).mono ?_
  rintro z w2 ⟨rfl, h⟩
  have H3 := Lib.hid h
  clear h q0 q1 q2 q3 q4 q5
  obtain ⟨q0, q1, q2, q3, q4, q5⟩ := cells6 (H3.out.nth 1 rfl)
  go_wp2_with fail
  refine (mess_qc b.jv b.jb b.by_ ua nb uc HNB.out.symm HL1.out (fun y m' hs => (HB.out y m' hs.tail).ints) H3.out (by rw [List.length_append, List.length_append]; have := HL.out; show _ + 8 + 8 ≤ _; omega)).mono ?_
  rintro z w3 ⟨rfl, h⟩
  have H4 := Lib.hid h
  have HLQ : Hid ((L ++ intB b.view ++ intB b.author ++ mQcB b.jv b.jb b.by_).length ≤ 6000000000) := by
    show _ ≤ _
    rw [List.length_append, List.length_append, List.length_append, mQcB_length, ← HNB.out]
    have := HL.out; have := HL1.out
    show _ + 8 + 8 + _ ≤ _
    omega
  clear h q0 q1 q2 q3 q4 q5
  obtain ⟨q0, q1, q2, q3, q4, q5⟩ := cells6 (H4.out.nth 1 rfl)
  go_wp2_with fail
  refine (wire_int (ne : Int) H4.out (by have := HLQ.out; omega)).mono ?_
  rintro z w4 ⟨rfl, h⟩
  have H5 := Lib.hid h
  clear h q0 q1 q2 q3 q4 q5
  obtain ⟨q0, q1, q2, q3, q4, q5⟩ := cells6 (H5.out.nth 1 rfl)
  obtain ⟨P, hP⟩ : ∃ x, x = L ++ intB b.view ++ intB b.author ++ mQcB b.jv b.jb b.by_ ++ intB (ne : Int) := ⟨_, rfl⟩
  rw [← hP] at H5
  have HPL : Hid (P.length ≤ 6000000008) := by
    show _ ≤ _
    rw [hP, List.length_append]
    have := HLQ.out
    show _ + 8 ≤ _
    omega
  have HP := Lib.hid hP
  clear hP
  go_wp2_with fail
  clear q0 q1 q2 q3 q4 q5
  go_loopw [26] (fun iv wr => ∃ i : Nat, i ≤ ne ∧ iv = .int .i64 (i : Int) ∧ Sys wr m (writer p (P ++ (b.envs.take i).flatMap mEnvB) :: blk nq (.cells #[.int .i64 b.view, .int .i64 b.author, .int .i64 b.jv, .int .i64 b.jb, .slice ua nb uc, .slice va ne vc] 65 (0, 0)) :: l)) (fun iv _ => ne - (intOf iv).toNat)
  case atStart => exact ⟨0, by omega, rfl, by rw [List.take_zero, List.flatMap_nil, List.append_nil]; exact H5.out⟩
  case round =>
    obtain ⟨i, hi, rfl, hR⟩ := hrel
    by_cases hlt : i < ne
    · have hil : (i : Int) < (ne : Int) := by omega
      have hiw : IntKind.i64.wrap ((i : Int) + 1) = (i : Int) + 1 := by rw [IntKind.wrap_i64]; have := HL2.out; omega
      have hel : i < b.envs.length := by rw [← HNE.out]; exact hlt
      obtain ⟨⟨ec, en, ef, ei⟩, he⟩ : ∃ e, e = b.envs.getD i default := ⟨_, rfl⟩
      have hat : EnvsAt wr va b.envs := (HB.out wr m hR.tail.tail).envs
      obtain ⟨eb, eo, rfl⟩ := hat.some_ hel
      have hce := hat.get hel
      rw [← he] at hce
      have HCE : Hid (∀ (k : Nat) (u : Value), ([.int .i64 ec, .int .u64 en, .int .u64 ef, .int .i64 ei] : List Value)[k]? = some u → wr.cell? ⟨eb, eo + i * 4 + k, none⟩ = some u) := hce
      have hmem : b.envs.getD i default ∈ b.envs := by rw [List.getD_eq_getElem?_getD, List.getElem?_eq_getElem hel]; exact List.getElem_mem hel
      have hw := HW.out _ hmem
      rw [← he] at hw
      have HWE := Lib.hid hw
      have HTK : Hid ((b.envs.take (i + 1)).flatMap mEnvB = (b.envs.take i).flatMap mEnvB ++ mEnvB ⟨ec, en, ef, ei⟩) := by
        show _ = _
        rw [he, List.getD_eq_getElem?_getD, List.getElem?_eq_getElem hel, List.take_succ_eq_append_getElem hel, List.flatMap_append]
        simp
      obtain ⟨nx, y1, EN3, EX3, ES3, H6⟩ := hR.box (.cells #[.int .i64 ec, .int .u64 en, .int .u64 ef, .int .i64 ei] 33 (0, 0))
      have H7 := Lib.hid H6.out.swap
      have HLT := Lib.hid hlt
      clear hat hce he hR hmem hw hel hi hlt
      go_upto_region 8 with (refine wpList_load_at rfl 33 _ rfl eb (eo + i * 4) rfl [.int .i64 ec, .int .u64 en, .int .u64 ef, .int .i64 ei] _ HCE.out Try.underlying33 rfl size4 ?_)
      rw [EX3.out, EN3.out]
      have hbe := H7.out.nth 1 rfl
      go_wp2_with (refine wpList_load_row rfl 33 _ rfl nx rfl _ _ _ _ hbe Try.underlying33 rfl size4 ?_)
      refine (mess_env ⟨ec, en, ef, ei⟩ HWE.out H7.out (by rw [List.length_append, mEnvs_length, List.length_take]; have := HPL.out; have := HL2.out; have := HLT.out; omega)).mono ?_
      rintro z w5 ⟨rfl, h⟩
      rw [List.append_assoc, ← HTK.out] at h
      have H8 := Lib.hid h.swap.tail
      clear h hbe
      go_wp2_with fail
      go_roundw
      case rel => exact ⟨i + 1, by have := HLT.out; omega, by go_num, H8.out⟩
      case measure => simp [intOf]; have := HLT.out; omega
    · obtain rfl : ne = i := by omega
      rw [List.take_of_length_le (by rw [← HNE.out]; exact Nat.le_refl _)] at hR
      have HR := Lib.hid hR
      clear hR hlt hi
      go_wp2_with fail
      go_end0
      refine ⟨rfl, ?_⟩
      have h9 := HR.out.swap.tail
      rw [HP.out, HNE.out] at h9
      unfold mBlkB
      rw [← List.append_assoc, ← List.append_assoc, ← List.append_assoc, ← List.append_assoc]
      exact h9
end
end Go.Proofs.Ytcfhkpjheemkgaa
