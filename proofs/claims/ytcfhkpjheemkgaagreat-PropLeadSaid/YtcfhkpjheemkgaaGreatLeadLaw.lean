/-
  Plain laws behind tolseylaw22.PropLead.
-/
import Derived.Test.YtcfhkpjheemkgaaGreatAwakeB
namespace Go.Proofs.YtcfhkpjheemkgaaGreat
set_option linter.unusedSectionVars false
set_option linter.unnecessarySimpa false
set_option linter.unusedSimpArgs false
set_option linter.unusedVariables false
open Go.RowKit Go.MapKept

theorem i64_and63 (n : Int) : bits .and .i64 n 63 = n % 64 := i64_and_mask 6 (by decide) n
def upto (j : Nat) : List Int := (List.range j).map Int.ofNat
theorem upto_add (j : Nat) : addTo (upto j) (j : Int) = upto (j + 1) := by
  unfold addTo upto
  rw [if_neg (by simp; omega), List.range_succ, List.map_append]
  rfl
theorem upto_snoc (j : Nat) : upto (j + 1) = upto j ++ [(j : Int)] := by
  unfold upto
  rw [List.range_succ, List.map_append]
  rfl
theorem upto_length (j : Nat) : (upto j).length = j := by simp [upto]
def cL (F : Nat) : CfgX := ⟨F, 3 * (F : Int) + 1, 0, 0, 0, 2, 0, 0⟩
theorem cL_good (F : Nat) (h : F ≤ 3) : (cL F).Good := by
  show 0 ≤ (F : Int) ∧ (F : Int) ≤ 1000 ∧ 3 * (F : Int) + 1 = 3 * (F : Int) + 1
  omega
def bK : BlkX := ⟨1, 0, 0, 1, [], []⟩
def XL (F : Nat) : WX := ⟨[], fun _ => [], min (max (F : Int) 0) 100 + 1, []⟩
def XL1 (F : Nat) : WX := (XL F).digest rootB
def XL2 (F : Nat) : WX := (XL1 F).digest rootB
def XL3 (F : Nat) : WX := blkX (XL2 F) bK
def TL0 : List (Int × BlkX) := [(1, zeroBlk)]
def TL2 : List (Int × BlkX) := [(1, zeroBlk), (2, bK)]
def TK (known : Bool) : List (Int × BlkX) := if known then TL2 else TL0
def hbK (known : Bool) : Int := if known then 2 else 1099511627776
def hbA (known above : Bool) : Int := if above then 1 else hbK known
def hvA (above : Bool) (view : Int) : Int := if above then view else 1
theorem ld_root (F : Nat) : dg (XL F).T rootB = 1 := by kernel_rfl
theorem ld_root1 (F : Nat) : dg (XL1 F).T rootB = 1 := by kernel_rfl
theorem ld_blkD (F : Nat) : blkD (XL2 F) bK = 2 := by kernel_rfl
theorem ld_t1 : (alook TL0 bK.jb).isSome = true := by decide +kernel
theorem ld_t2 : (decide (bK.jv = (bk TL0 bK.jb).view) && decide (bK.jv < bK.view)) = true := by decide +kernel
theorem ld_t3 (F : Nat) : (alook TL0 (blkD (XL2 F) bK)).isSome = false := by rw [ld_blkD]; decide +kernel
def L0 (X : WX) : Prop := X.f = (fun _ => []) ∧ rootB ∈ X.T ∧ dg X.T rootB = 1 ∧ X.T.length ≤ 4
theorem L0.one (F : Nat) : L0 (XL1 F) := ⟨rfl, mem_digest _ _, (dg_digest _ _).trans (ld_root F), Nat.le_trans ((XL F).ext_digest rootB).len.2 (by show 0 + 1 ≤ 4; omega)⟩
theorem L0.ext {X Y : WX} {n : Nat} (h : L0 X) (he : X.Ext n Y) (hn : Y.T.length ≤ 4) : L0 Y := ⟨he.f.trans h.1, he.mem h.2.1, (he.dg h.2.1).trans h.2.2.1, hn⟩
theorem L0.two (F : Nat) : L0 (XL2 F) := (L0.one F).ext ((XL1 F).ext_digest rootB) (by
  have h1 := ((XL1 F).ext_digest rootB).len.2
  have h2 := ((XL F).ext_digest rootB).len.2
  have h3 : (XL F).T.length = 0 := rfl
  unfold XL2 XL1 at *
  omega)
theorem L0.three (F : Nat) : L0 (XL3 F) := (L0.two F).ext (blkX_ext _ _) (by
  have h0 := (blkX_ext (XL2 F) bK).len.2
  have h1 := ((XL1 F).ext_digest rootB).len.2
  have h2 := ((XL F).ext_digest rootB).len.2
  have h3 : (XL F).T.length = 0 := rfl
  have h4 : bK.envs.length = 0 := rfl
  unfold XL3 XL2 XL1 at *
  omega)
theorem XL_len (F : Nat) : (XL1 F).T.length ≤ 3 ∧ (XL2 F).T.length ≤ 3 ∧ (XL3 F).T.length ≤ 3 := by
  have h0 := (blkX_ext (XL2 F) bK).len.2
  have h1 := ((XL1 F).ext_digest rootB).len.2
  have h2 := ((XL F).ext_digest rootB).len.2
  have h3 : (XL F).T.length = 0 := rfl
  have h4 : bK.envs.length = 0 := rfl
  have e1 : XL1 F = (XL F).digest rootB := rfl
  have e2 : XL2 F = (XL1 F).digest rootB := rfl
  have e3 : XL3 F = blkX (XL2 F) bK := rfl
  rw [e3]
  rw [← e1] at h2
  rw [← e2] at h1
  omega
theorem L0.dig {X : WX} (h : L0 X) (hl : X.T.length ≤ 3) : L0 (X.digest rootB) := h.ext (X.ext_digest rootB) (by have := (X.ext_digest rootB).len.2; omega)
/-- Who signed the vote so far. -/
def Ld (X : WX) (k : Nat) (hv hb : Int) (j : Nat) : Prop := X.Ok ∧ rootB ∈ X.T ∧ X.T.length ≤ k ∧ sg X (voteB hv hb) = upto j
theorem L0.ld {X : WX} (h : L0 X) (hv hb : Int) : Ld X 5 hv hb 0 := ⟨fun d _ => by rw [h.1], h.2.1, by have := h.2.2.2; omega, by unfold sg; rw [h.1]; rfl⟩
theorem L0.dld {X : WX} (h : L0 X) (hv hb : Int) : Ld (X.digest rootB) 5 hv hb 0 := ⟨fun d _ => by rw [(X.ext_digest rootB).f, h.1], mem_digest _ _, by have := h.2.2.2; have := (X.ext_digest rootB).len.2; omega, by unfold sg; rw [(X.ext_digest rootB).f, h.1]; rfl⟩
theorem Ld.vote {X : WX} {k j : Nat} {hv hb : Int} (h : Ld X k hv hb j) : Ld (X.signB (j : Int) (voteB hv hb)) (k + 1) hv hb (j + 1) := by
  obtain ⟨h1, h2, h3, h4⟩ := h
  refine ⟨signB_ok h1 _ _, mem_signB (.inl h2), Nat.le_trans (signB_len _ _ _).1 (by omega), ?_⟩
  rw [sg_signB h1, if_pos rfl, h4, upto_add]
theorem many_upto (F : Nat) (h : 1 ≤ F ∧ F ≤ 3) : manyB (cL F) (upto (2 * F + 1)) = true := by
  obtain rfl | rfl | rfl : F = 1 ∨ F = 2 ∨ F = 3 := by omega
  · decide +kernel
  · decide +kernel
  · decide +kernel
theorem sign_block {X : WX} (hX : X.Ok) (b : BlkX) (he : b.envs = []) : signedB (signBlk X b) b = true ∧ (∀ x, x ≠ leadB (blkD X b) → sg (signBlk X b) x = sg X x) ∧ (signBlk X b).Ok ∧ X.Ext 2 { signBlk X b with f := X.f } := by
  obtain ⟨bv, ba, jv, jb, hy, envs⟩ := b
  obtain rfl : envs = [] := he
  obtain ⟨b, hb⟩ : ∃ b : BlkX, b = ⟨bv, ba, jv, jb, hy, []⟩ := ⟨_, rfl⟩
  rw [← hb]
  obtain ⟨B, hB⟩ : ∃ B, B = blockB X b := ⟨_, rfl⟩
  have e0 : ∀ Y : WX, blockB Y b = B := by intro Y; rw [hB, hb]; rfl
  have e1 : ∀ Y : WX, blkX Y b = Y.digest B := by intro Y; rw [← e0 Y, hb]; rfl
  have e2 : ∀ Y : WX, blkD Y b = dg Y.T B := by intro Y; rw [← e0 Y, hb]; rfl
  have hd : (X.digest B).Ok := (X.ext_digest B).ok hX
  have hs : signBlk X b = (X.digest B).signB b.author (leadB (blkD X b)) := by unfold signBlk; rw [e1]
  have hm : B ∈ (signBlk X b).T := by rw [hs]; exact mem_signB (.inl (mem_digest _ _))
  have hok : (signBlk X b).Ok := by rw [hs]; exact signB_ok hd _ _
  have hD : blkD (signBlk X b) b = blkD X b := by
    rw [e2, e2, hs, dg_signB (.inl (mem_digest _ _)), dg_digest]
  refine ⟨?_, fun x hx => ?_, hok, ?_⟩
  · unfold signedB
    rw [hD]
    have h1 : sg (blkX (signBlk X b) b) (leadB (blkD X b)) = sg (signBlk X b) (leadB (blkD X b)) := by
      rw [e1]; exact sg_ext hok (WX.ext_digest _ _) _
    have h2 : (blkX (signBlk X b) b).f = (signBlk X b).f := by rw [e1]; exact (WX.ext_digest _ _).f
    unfold sg at h1
    rw [h2] at h1
    rw [h1]
    have h3 : sg (signBlk X b) (leadB (blkD X b)) = addTo (sg (X.digest B) (leadB (blkD X b))) b.author := by rw [hs, sg_signB hd, if_pos rfl]
    unfold sg at h3
    rw [h3]
    simp only [decide_eq_true_eq]
    exact mem_addTo.2 (.inr rfl)
  · rw [hs, sg_signB hd, if_neg hx, sg_ext hX (X.ext_digest B)]
  · have h9 : { signBlk X b with f := X.f } = (X.digest B).digest (leadB (blkD X b)) := by rw [hs]; rfl
    rw [h9]
    exact (X.ext_digest B).trans (WX.ext_digest _ _)
theorem vote_lead (a b c : Int) : voteB a b ≠ leadB c := by
  intro h
  have h2 : (28 : Nat) = 20 := congrArg List.length h
  cases h2
theorem lead_ok {X : WX} {k F : Nat} {view who : Int} (hF : 1 ≤ F ∧ F ≤ 3) (h : Ld X k 1 2 (2 * F + 1)) (hv : 2 ≤ view) (hw : who = leadOf (cL F) view) :
    blkOkB (signBlk X ⟨view, who, 1, 2, upto (2 * F + 1), []⟩) (cL F) ⟨view, who, 1, 2, upto (2 * F + 1), []⟩ = true := by
  obtain ⟨h1, h2, h3, h4⟩ := h
  obtain ⟨b, hb⟩ : ∃ b : BlkX, b = ⟨view, who, 1, 2, upto (2 * F + 1), []⟩ := ⟨_, rfl⟩
  rw [← hb]
  obtain ⟨g1, g2, g3, g4⟩ := sign_block h1 b (by rw [hb])
  have hq : qcB (signBlk X b) (cL F) 1 2 (upto (2 * F + 1)) = true := by
    unfold qcB
    rw [if_neg (by decide), many_upto F hF, Bool.true_and, List.all_eq_true]
    intro x hx
    have := g2 (voteB 1 2) (vote_lead _ _ _)
    rw [h4] at this
    unfold sg at this
    rw [this]
    simpa using hx
  unfold blkOkB
  rw [g1]
  subst hb
  dsimp only
  rw [hq]
  have e1 : unlikeB (signBlk X ⟨view, who, 1, 2, upto (2 * F + 1), []⟩) [] = true := by unfold unlikeB; simp
  rw [e1]
  have e2 : decide (1 ≤ view) = true := by simp; omega
  have e3 : decide (who = leadOf (cL F) view) = true := by simp [hw]
  have e4 : decide (1 < view) = true := by simp; omega
  rw [e2, e3, e4]
  rfl
theorem lead_world {X : WX} {k F : Nat} {view who : Int} (h : Ld X k 1 2 (2 * F + 1)) :
    (signBlk X ⟨view, who, 1, 2, upto (2 * F + 1), []⟩).Ok ∧ rootB ∈ (signBlk X ⟨view, who, 1, 2, upto (2 * F + 1), []⟩).T ∧ (signBlk X ⟨view, who, 1, 2, upto (2 * F + 1), []⟩).T.length ≤ k + 2 := by
  obtain ⟨h1, h2, h3, h4⟩ := h
  obtain ⟨g1, g2, g3, g4⟩ := sign_block h1 ⟨view, who, 1, 2, upto (2 * F + 1), []⟩ rfl
  exact ⟨g3, g4.mem h2, Nat.le_trans g4.len.2 (by omega)⟩
theorem ld_inv (known : Bool) : TreeInv (TK known) 1 := by
  cases known
  · exact tree1_inv 1
  · exact tree2_inv 1 2 bK (by decide) rfl (by decide)
theorem ld_none (known : Bool) (x : Int) : (bk (TK known) x).envs = [] := by
  cases known
  · rw [show bk (TK false) x = zeroBlk from bk_nil 1 x]; rfl
  · rcases bk_two 1 2 x bK (by decide) with ⟨_, h⟩ | ⟨_, h⟩
    · rw [show bk (TK true) x = bK from h]; rfl
    · rw [show bk (TK true) x = zeroBlk from h]; rfl
theorem ld_skip : skipV (TK true) 1 1 2 = [] := by kernel_rfl
theorem ld_sk (X : WX) : (Lib.compact (rising (dsOf X (skipV (TK true) 1 1 2)))).length ≤ 1000000 := by
  rw [ld_skip, show dsOf X [] = [] from rfl, rising_eq (List.Perm.refl []) List.Pairwise.nil]
  decide
theorem ld_pack (X : WX) : packV X (TK true) 1 1 2 [] 2 = [] := batchN_nil _
theorem make_yes {F : Nat} {who view : Int} (hv : 2 ≤ view) (hw : who = leadOf (cL F) view) : makeB (TK true) (cL F) who view 1 2 = true := by
  unfold makeB
  have e1 : (alook (TK true) 2).isSome = true := by decide +kernel
  have e4 : decide (1 < view) = true := by simp; omega
  rw [e1, e4, hw]
  simp
theorem make_no1 {F : Nat} {who view : Int} (hw : ¬ who = leadOf (cL F) view) : makeB (TK true) (cL F) who view 1 2 = false := by
  unfold makeB
  rw [decide_eq_false hw]
  rfl
theorem make_no2 {F : Nat} {who view : Int} (known : Bool) : makeB (TK known) (cL F) who view view 1 = false := by
  unfold makeB
  rw [decide_eq_false (Int.lt_irrefl view)]
  simp
theorem make_no3 {F : Nat} {who view : Int} : makeB (TK false) (cL F) who view 1 1099511627776 = false := by
  unfold makeB
  have e1 : (alook (TK false) 1099511627776).isSome = false := by decide +kernel
  rw [e1]
  simp
theorem lead_eq {F : Nat} {view : Int} (hv : 2 ≤ view) : leadOf (cL F) view = view.tmod (3 * (F : Int) + 1) := by
  unfold leadOf
  rw [if_neg (by omega), show (cL F).n = 3 * (F : Int) + 1 from rfl, Int.tmod_eq_emod_of_nonneg (by omega)]
end Go.Proofs.YtcfhkpjheemkgaaGreat
