/-
  The law of AdveForges in plain words: who signed anything is corrupt; they are too few for a certificate.
-/
import Derived.Test.YtcfhkpjheemkgaaWatchSign
import Derived.Test.YtcfhkpjheemkgaaTcOk
namespace Go.Proofs.Ytcfhkpjheemkgaa
set_option linter.unusedSectionVars false
set_option linter.unnecessarySimpa false
set_option linter.unusedSimpArgs false
set_option linter.unusedVariables false
open Go.RowKit Go.MapKept

def upto (j : Nat) : List Int := (List.range j).map Int.ofNat
theorem upto_length (j : Nat) : (upto j).length = j := by simp [upto]
theorem upto_nodup (j : Nat) : (upto j).Nodup := by
  unfold upto List.Nodup
  rw [List.pairwise_map]
  exact List.Pairwise.imp (fun h e => h (Int.ofNat.inj e)) (List.nodup_range (n := j))
/-- Nobody but the corrupt signed anything. -/
structure FG (R : Int) (B : List Int) (X : WX) (k : Nat) : Prop where
  ok : X.Ok
  root : rootB ∈ X.T
  rd : dg X.T rootB = R
  len : X.T.length ≤ k
  sub : ∀ x who, who ∈ X.f x → who ∈ B
section
variable {R : Int} {B : List Int} {X Y : WX} {k n : Nat}
theorem FG.ext (h : FG R B X k) (he : X.Ext n Y) : FG R B Y (k + n) :=
  ⟨he.ok h.ok, he.mem h.root, (he.dg h.root).trans h.rd, by have := he.len.2; have := h.len; omega, fun x who hw => h.sub x who (by rw [he.f] at hw; exact hw)⟩
theorem FG.mono (h : FG R B X k) (hk : k ≤ n) : FG R B X n := ⟨h.ok, h.root, h.rd, Nat.le_trans h.len hk, h.sub⟩
theorem FG.signB (h : FG R B X k) {who : Int} (hw : who ∈ B) (x : List UInt8) : FG R B (X.signB who x) (k + 1) :=
  ⟨signB_ok h.ok who x, mem_signB (.inl h.root), (dg_signB (.inl h.root)).trans h.rd, by have := (signB_len X who x).1; have := h.len; omega, fun d y hy => by
    have hy' : y ∈ addAt X.f (dg X.T x) who d := hy
    unfold addAt at hy'
    split at hy'
    · rcases mem_addTo.1 hy' with hy' | rfl
      · exact h.sub _ _ hy'
      · exact hw
    · exact h.sub _ _ hy'⟩
theorem FG.signBlk (h : FG R B X k) (b : BlkX) (he : b.envs = []) (hw : b.author ∈ B) : FG R B (signBlk X b) (k + 2) := by
  have h1 : FG R B (blkX X b) (k + 1) := (h.ext (blkX_ext X b)).mono (by rw [he]; simp)
  exact h1.signB hw _
theorem sign_block' (hX : X.Ok) (b : BlkX) (he : b.envs = []) : signedB (signBlk X b) b = true := by
  obtain ⟨bv, ba, jv, jb, hy, envs⟩ := b
  obtain rfl : envs = [] := he
  obtain ⟨b, hb⟩ : ∃ b : BlkX, b = ⟨bv, ba, jv, jb, hy, []⟩ := ⟨_, rfl⟩
  rw [← hb]
  obtain ⟨B, hB⟩ : ∃ B, B = blockB X b := ⟨_, rfl⟩
  have e0 : ∀ Y : WX, blockB Y b = B := by intro Y; rw [hB, hb]; rfl
  have e1 : ∀ Y : WX, blkX Y b = Y.digest B := by intro Y; rw [← e0 Y, hb]; rfl
  have e2 : ∀ Y : WX, blkD Y b = dg Y.T B := by intro Y; rw [← e0 Y, hb]; rfl
  have hd : (X.digest B).Ok := (X.ext_digest B).ok hX
  have hs : signBlk X b = (X.digest B).signB b.author (leadB (blkD X b)) := by unfold signBlk; rw [e1]
  have hm : B ∈ (signBlk X b).T := by rw [hs]; exact mem_signB (.inl (mem_digest _ _))
  have hok : (signBlk X b).Ok := by rw [hs]; exact signB_ok hd _ _
  have hD : blkD (signBlk X b) b = blkD X b := by
    rw [e2, e2, hs, dg_signB (.inl (mem_digest _ _)), dg_digest]
  unfold signedB
  rw [hD]
  have h1 : sg (blkX (signBlk X b) b) (leadB (blkD X b)) = sg (signBlk X b) (leadB (blkD X b)) := by
    rw [e1]; exact sg_ext hok (WX.ext_digest _ _) _
  have h2 : (blkX (signBlk X b) b).f = (signBlk X b).f := by rw [e1]; exact (WX.ext_digest _ _).f
  unfold sg at h1
  rw [h2] at h1
  rw [h1]
  have h3 : sg (signBlk X b) (leadB (blkD X b)) = addTo (sg (X.digest B) (leadB (blkD X b))) b.author := by rw [hs, sg_signB hd, if_pos rfl]
  unfold sg at h3
  rw [h3]
  simp only [decide_eq_true_eq]
  exact mem_addTo.2 (.inr rfl)
/-- A block on the root is Ok just if its author is corrupt, signed it, and leads. -/
theorem forge_ok (c : CfgX) (hbt : 0 ≤ c.bt) (view who : Int) (hv : 1 ≤ view) (h : FG R B X k) :
    blkOkB (if who ∈ B then signBlk X ⟨view, who, 0, R, [], []⟩ else X) c ⟨view, who, 0, R, [], []⟩ = (decide (who ∈ B) && decide (leadOf c view = who)) := by
  obtain ⟨b, hb⟩ : ∃ b : BlkX, b = ⟨view, who, 0, R, [], []⟩ := ⟨_, rfl⟩
  have he : b.envs = [] := by rw [hb]
  have ha : b.author = who := by rw [hb]
  rw [← hb]
  have hq : ∀ Z : WX, dg Z.T rootB = R → (qcB Z c b.jv b.jb b.by_ && decide (b.jv < b.view) && decide ((b.envs.length : Int) ≤ c.bt) && unlikeB Z b.envs) = true := fun Z hZ => by
    rw [hb]
    have h1 : qcB Z c 0 R [] = true := by unfold qcB; simp [hZ]
    have h2 : unlikeB Z [] = true := by unfold unlikeB; simp
    have h3 : decide ((0 : Int) < view) = true := decide_eq_true (by omega)
    have h4 : decide ((([] : List EnvX).length : Int) ≤ c.bt) = true := decide_eq_true (by simpa using hbt)
    dsimp only
    rw [h1, h2, h3, h4]; rfl
  have hv1 : decide (1 ≤ b.view) = true := by rw [hb]; exact decide_eq_true hv
  have hl : decide (b.author = leadOf c b.view) = decide (leadOf c view = who) := by rw [hb]; exact decide_eq_decide.2 eq_comm
  by_cases hw : who ∈ B
  · rw [if_pos hw, decide_eq_true hw]
    have h2 := h.signBlk b he (by rw [ha]; exact hw)
    unfold blkOkB
    rw [hv1, hl, sign_block' h.ok b he, hq _ h2.rd]
    simp
  · rw [if_neg hw, decide_eq_false hw]
    unfold blkOkB
    have hs : signedB X b = false := by
      unfold signedB
      refine decide_eq_false fun hin => hw ?_
      rw [ha] at hin
      exact h.sub _ _ hin
    rw [hs]
    simp
/-- They are too few. -/
theorem few_no (c : CfgX) (hB : (B.length : Int) ≤ c.f) (hf : 0 ≤ c.f) (L : List Int) (hL : L.Nodup) (hm : manyB c L = true) (hs : ∀ x ∈ L, x ∈ B) : False := by
  unfold manyB at hm
  have h1 := (of_decide_eq_true hm).2
  have h2 := List.Nodup.length_le_of_subset hL (fun x hx => hs x hx)
  omega
theorem forge_qc (c : CfgX) (hB : (B.length : Int) ≤ c.f) (hf : 0 ≤ c.f) (view num : Int) (hv : 1 ≤ view) (L : List Int) (hL : L.Nodup) (h : FG R B X k) : qcB X c view num L = false := by
  unfold qcB
  rw [if_neg (by omega)]
  cases hm : manyB c L with
  | false => rfl
  | true =>
    rw [Bool.true_and]
    cases ha : L.all fun who => decide (who ∈ X.f (dg X.T (voteB view num))) with
    | false => rfl
    | true =>
      exact (few_no c hB hf L hL hm fun x hx => h.sub _ x (of_decide_eq_true (List.all_eq_true.1 ha x hx))).elim
theorem forge_tc (c : CfgX) (hB : (B.length : Int) ≤ c.f) (hf : 0 ≤ c.f) (t : TcX) (hL : t.by_.Nodup) (h : FG R B X k) : tcB X c t = false := by
  cases hm : tcB X c t with
  | false => rfl
  | true =>
    unfold tcB at hm
    simp only [Bool.and_eq_true, decide_eq_true_iff] at hm
    obtain ⟨⟨⟨⟨⟨_, h1⟩, h2⟩, h3⟩, _⟩, _⟩ := hm
    refine (few_no c hB hf t.by_ hL h1 fun x hx => ?_).elim
    obtain ⟨i, hi, rfl⟩ := List.getElem_of_mem hx
    have h4 := h3 i (by omega)
    unfold tcAt at h4
    simp only [Bool.and_eq_true, decide_eq_true_iff] at h4
    have h5 := h4.2
    have h6 : t.by_.getD i 0 = t.by_[i] := by rw [List.getD_eq_getElem?_getD, List.getElem?_eq_getElem hi]; rfl
    rw [h6] at h5
    exact h.sub _ _ h5
theorem bads_f (c : CfgX) (hf : 0 ≤ c.f) (I : List Int) : ((badsOf c I).length : Int) ≤ c.f := by
  have : ∀ (I B : List Int), (B.length : Int) ≤ c.f → ((I.foldl (badStep c) B).length : Int) ≤ c.f := by
    intro I
    induction I with
    | nil => intro B hB; exact hB
    | cons x I ih =>
      intro B hB
      rw [List.foldl_cons]
      refine ih _ ?_
      unfold badStep
      split
      · next hc =>
        have h1 := (Bool.and_eq_true _ _ ▸ hc).2
        have h2 := of_decide_eq_true h1
        simp only [List.length_append, List.length_cons, List.length_nil]
        omega
      · exact hB
  exact this I [] (by simpa using hf)
end
end Go.Proofs.Ytcfhkpjheemkgaa
