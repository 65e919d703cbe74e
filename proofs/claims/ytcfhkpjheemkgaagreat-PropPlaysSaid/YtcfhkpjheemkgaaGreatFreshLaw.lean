/-
  Plain laws behind tolseylaw22.PropFresh.
-/
import Derived.Test.YtcfhkpjheemkgaaGreatAwakeB
import Derived.Test.YtcfhkpjheemkgaaGreatCommit
import Derived.Test.YtcfhkpjheemkgaaGreatDrop
namespace Go.Proofs.YtcfhkpjheemkgaaGreat
set_option linter.unusedSectionVars false
set_option linter.unnecessarySimpa false
set_option linter.unusedSimpArgs false
set_option linter.unusedVariables false
open Go.RowKit Go.MapKept

def eF (i : Nat) : EnvX := ⟨i, 0, 1, (i : Int) + 1⟩
def fewL (j : Nat) : List EnvX := (List.range j).map eF
theorem fewL_snoc (j : Nat) : fewL (j + 1) = fewL j ++ [eF j] := by unfold fewL; rw [List.range_succ, List.map_append]; rfl
theorem fewL_length (j : Nat) : (fewL j).length = j := by simp [fewL]
def FX : Nat → WX
  | 0 => A1
  | j + 1 => ((FX j).made (eF j) []).digest (envB (eF j))
theorem fx_c : ∀ j : Nat, (FX j).C.length = j := by
  intro j
  induction j with
  | zero => rfl
  | succ j ih => show ((FX j).C ++ [_]).length = j + 1; rw [List.length_append, ih]; rfl
theorem fx_len : ∀ j, j < 9 → (FX j).T.length ≤ 100 := by decide +kernel
theorem fx_len2 : ∀ j, j < 8 → ((FX j).made (eF j) []).T.length ≤ 100 := by decide +kernel
theorem fx_add : ∀ j, j < 8 → addCode ((FX j).made (eF j) []) (fewL j) 8 (eF j) = 0 := by decide +kernel
theorem fx_fee : ∀ j, j < 8 → ∀ a ∈ feesL (eF j) (fewL j), 0 ≤ a := by decide +kernel
theorem fx_sum : ∀ j, j < 8 → (feesL (eF j) (fewL j)).sum < 18446744073709551616 := by decide +kernel
theorem eF_wf (j : Nat) (h : j < 8) : (eF j).wf := ⟨⟨by show (0 : Int) ≤ 0; decide, by show (0 : Int) < 18446744073709551616; decide⟩, ⟨by show (0 : Int) ≤ 1; decide, by show (1 : Int) < 18446744073709551616; decide⟩, wf_mk (by show (_ : Int) ≤ (j : Int); omega) (by show (j : Int) ≤ _; omega), wf_mk (by show (_ : Int) ≤ (j : Int) + 1; omega) (by show (j : Int) + 1 ≤ _; omega)⟩
def X9 : WX := (FX 8).digest rootB
theorem x9_root : dg (FX 8).T rootB = 1 := by decide +kernel
theorem x9_len : X9.T.length = 9 := by decide +kernel
theorem x9_mem : ∀ j, j < 8 → envB (eF j) ∈ X9.T := by decide +kernel
theorem x9_dg : ∀ j, j < 8 → dg X9.T (envB (eF j)) = (j : Int) + 2 := by decide +kernel
theorem x9_tag : ∀ y ∈ X9.T, y.getD 7 0 ≠ 5 := by decide +kernel
theorem fewL_mem {j : Nat} {e : EnvX} (h : e ∈ fewL j) : ∃ i, i < j ∧ e = eF i := by
  unfold fewL at h
  obtain ⟨i, hi, rfl⟩ := List.mem_map.1 h
  exact ⟨i, List.mem_range.1 hi, rfl⟩
theorem few_in {e : EnvX} (h : e ∈ fewL 8) : envB e ∈ X9.T ∧ e.wf := by
  obtain ⟨i, hi, rfl⟩ := fewL_mem h
  exact ⟨x9_mem i hi, eF_wf i hi⟩
theorem blockB_tag (X : WX) (b : BlkX) : (blockB X b).getD 7 0 = 5 := rfl
theorem digest_in {X : WX} {x : List UInt8} (h : x ∈ X.T) : X.digest x = X := by unfold WX.digest addT; rw [if_pos h]
theorem envsX_in {X : WX} : ∀ E : List EnvX, (∀ e ∈ E, envB e ∈ X.T) → envsX X E = X := by
  intro E
  induction E with
  | nil => intro _; rfl
  | cons e E ih =>
    intro h
    show envsX (X.digest (envB e)) E = X
    rw [digest_in (h e (.head _))]
    exact ih fun e he => h e (.tail _ he)
def qI (a0 : Int) (e : EnvX) : Bool := bits BinOp.and IntKind.i64 (a0 / 2 ^ e.client.toNat) 1 == 1
theorem qI_at (a0 : Int) (j : Nat) : qI a0 (eF j) = (bits BinOp.and IntKind.i64 (a0 / 2 ^ j) 1 == 1) := by
  unfold qI
  rw [show (eF j).client = (j : Int) from rfl, Int.toNat_natCast]
theorem qI_not (a0 : Int) (j : Nat) : (bits BinOp.and IntKind.i64 (a0 / 2 ^ j) 1 == 0) = !(qI a0 (eF j)) := by
  rw [qI_at, i64_and1]
  have h : a0 / 2 ^ j % 2 = 0 ∨ a0 / 2 ^ j % 2 = 1 := by omega
  rcases h with h | h <;> rw [h] <;> rfl
theorem filt_snoc (q : EnvX → Bool) (j : Nat) : (fewL (j + 1)).filter q = (fewL j).filter q ++ (if q (eF j) = true then [eF j] else []) := by
  rw [fewL_snoc, List.filter_append]
  congr 1
  simp only [List.filter_cons, List.filter_nil]
def insV (q : EnvX → Bool) : List EnvX := (fewL 8).filter q
def bA1 (q : EnvX → Bool) : BlkX := ⟨1, 0, 0, 1, [], insV q⟩
def bB1 : BlkX := ⟨2, 0, 0, 1, [], []⟩
def X10 (q : EnvX → Bool) : WX := blkX X9 (bA1 q)
def X11 (q : EnvX → Bool) : WX := blkX (X10 q) bB1
theorem ins_in {q : EnvX → Bool} {e : EnvX} (h : e ∈ insV q) : envB e ∈ X9.T ∧ e.wf := few_in (List.mem_filter.1 h).1
theorem envs9 (q : EnvX → Bool) : envsX X9 (bA1 q).envs = X9 := envsX_in _ fun e he => (ins_in he).1
theorem x10_eq (q : EnvX → Bool) : X10 q = X9.digest (blockB X9 (bA1 q)) := by
  unfold X10 blkX
  rw [envs9]
theorem b1_out (q : EnvX → Bool) : blockB X9 (bA1 q) ∉ X9.T := fun h => x9_tag _ h (blockB_tag _ _)
theorem x10_T (q : EnvX → Bool) : (X10 q).T = X9.T ++ [blockB X9 (bA1 q)] := by rw [x10_eq]; unfold WX.digest addT; rw [if_neg (b1_out q)]
theorem fr_D1 (q : EnvX → Bool) : blkD X9 (bA1 q) = 10 := by
  unfold blkD
  rw [envs9, dg_out (b1_out q), x9_len]
  rfl
theorem b2_out (q : EnvX → Bool) : blockB (X10 q) bB1 ∉ (X10 q).T := by
  rw [x10_T, List.mem_append]
  rintro (h | h)
  · exact x9_tag _ h (blockB_tag _ _)
  · have h1 : blockB (X10 q) bB1 = blockB X9 (bA1 q) := by simpa using h
    have h2 : (blockB (X10 q) bB1).getD 20 0 = 2 := rfl
    have h3 : (blockB X9 (bA1 q)).getD 20 0 = 1 := rfl
    rw [h1, h3] at h2
    exact absurd h2 (by decide)
theorem fr_D2 (q : EnvX → Bool) : blkD (X10 q) bB1 = 11 := by
  unfold blkD
  rw [show bB1.envs = [] from rfl]
  show dg (X10 q).T _ = 11
  rw [dg_out (b2_out q), x10_T, List.length_append, x9_len]
  rfl
theorem fr_ext (q : EnvX → Bool) : X9.Ext 2 (X11 q) := by
  have h1 : X9.Ext 1 (X10 q) := by rw [x10_eq]; exact X9.ext_digest _
  exact h1.trans (((X10 q).ext_digest _).mono (Nat.le_refl _))
theorem x9_ok : X9.T.length ≤ 100 ∧ (X10 (fun _ => true)).T.length ≤ 100 := by
  refine ⟨by rw [x9_len]; omega, ?_⟩
  rw [x10_T, List.length_append, x9_len]; decide
theorem x10_len (q : EnvX → Bool) : (X10 q).T.length ≤ 100 := by rw [x10_T, List.length_append, x9_len]; simp
theorem x11_len (q : EnvX → Bool) : (X11 q).T.length ≤ 100 := by have := (fr_ext q).len.2; rw [x9_len] at this; omega
theorem few_in11 {q : EnvX → Bool} {e : EnvX} (h : e ∈ fewL 8) : envB e ∈ (X11 q).T ∧ e.wf := ⟨(fr_ext q).mem (few_in h).1, (few_in h).2⟩
theorem dg11 (q : EnvX → Bool) (j : Nat) (h : j < 8) : dg (X11 q).T (envB (eF j)) = (j : Int) + 2 := by rw [(fr_ext q).dg (x9_mem j h), x9_dg j h]
def TF1 (q : EnvX → Bool) : List (Int × BlkX) := [(1, zeroBlk), (10, bA1 q)]
def TF (q : EnvX → Bool) : List (Int × BlkX) := [(1, zeroBlk), (10, bA1 q), (11, bB1)]
theorem fr_t1 (q : EnvX → Bool) : (alook [((1 : Int), zeroBlk)] (bA1 q).jb).isSome = true := rfl
theorem fr_t2 (q : EnvX → Bool) : (decide ((bA1 q).jv = (bk [((1 : Int), zeroBlk)] (bA1 q).jb).view) && decide ((bA1 q).jv < (bA1 q).view)) = true := rfl
theorem fr_t3 (q : EnvX → Bool) : (alook [((1 : Int), zeroBlk)] (blkD X9 (bA1 q))).isSome = false := by rw [fr_D1]; rfl
theorem fr_u1 (q : EnvX → Bool) : (alook (TF1 q) bB1.jb).isSome = true := rfl
theorem fr_u2 (q : EnvX → Bool) : (decide (bB1.jv = (bk (TF1 q) bB1.jb).view) && decide (bB1.jv < bB1.view)) = true := rfl
theorem fr_u3 (q : EnvX → Bool) : (alook (TF1 q) (blkD (X10 q) bB1)).isSome = false := by rw [fr_D2]; rfl
theorem bk_TF (q : EnvX → Bool) (x : Int) : (x = 10 ∧ bk (TF q) x = bA1 q) ∨ (x = 11 ∧ bk (TF q) x = bB1) ∨ (x ≠ 10 ∧ x ≠ 11 ∧ bk (TF q) x = zeroBlk) := by
  by_cases h1 : x = 10
  · subst h1; exact .inl ⟨rfl, rfl⟩
  · by_cases h2 : x = 11
    · subst h2; exact .inr (.inl ⟨rfl, rfl⟩)
    · refine .inr (.inr ⟨h1, h2, ?_⟩)
      unfold bk TF
      simp only [alook]
      split
      · rfl
      · rw [if_neg (fun e => h1 e.symm), if_neg (fun e => h2 e.symm)]; rfl
theorem tf_inv (q : EnvX → Bool) : TreeInv (TF q) 1 := by
  have h1 : bk (TF q) 1 = zeroBlk := rfl
  have h2 : (alook (TF q) 1).isSome = true := rfl
  refine ⟨fun x => ?_, fun x hx hr => ?_⟩
  · rcases bk_TF q x with ⟨_, e⟩ | ⟨_, e⟩ | ⟨_, _, e⟩ <;> rw [e]
    · show (0 : Int) ≤ 1; decide
    · decide
    · decide
  · rcases bk_TF q x with ⟨_, e⟩ | ⟨_, e⟩ | ⟨e1, e2, e⟩
    · rw [e, show (bA1 q).jb = 1 from rfl, h1]; exact ⟨h2, by show (0 : Int) < 1; decide⟩
    · rw [e, show bB1.jb = 1 from rfl, h1]; exact ⟨h2, by decide⟩
    · unfold TF at hx
      simp only [alook] at hx
      rw [if_neg (fun e => hr e.symm), if_neg (fun e => e1 e.symm), if_neg (fun e => e2 e.symm)] at hx
      cases hx
theorem tf_in (q : EnvX → Bool) : ∀ x, ∀ e ∈ (bk (TF q) x).envs, envB e ∈ (X11 q).T ∧ e.wf := by
  intro x e he
  rcases bk_TF q x with ⟨_, h⟩ | ⟨_, h⟩ | ⟨_, _, h⟩ <;> rw [h] at he
  · exact few_in11 (List.mem_filter.1 he).1
  · cases he
  · cases he
theorem tf_view (q : EnvX → Bool) (x : Int) : (bk (TF q) x).view ≤ 90000 := by
  rcases bk_TF q x with ⟨_, e⟩ | ⟨_, e⟩ | ⟨_, _, e⟩ <;> rw [e]
  · show (1 : Int) ≤ 90000; decide
  · decide
  · decide
def hbF (on : Bool) : Int := if on then 10 else 11
def hvF (on : Bool) : Int := if on then 1 else 2
theorem ins_len (q : EnvX → Bool) : (insV q).length ≤ 8 := Nat.le_trans (List.length_filter_le _ _) (by rw [fewL_length]; omega)
theorem back_no (q : EnvX → Bool) (on : Bool) : (pathV (TF q) 1 (hbF on) 1).isSome = false := by
  unfold pathV
  rw [wayV_no (by cases on <;> decide)]
  split <;> rfl
theorem path_on (q : EnvX → Bool) (on : Bool) : pathV (TF q) 1 1 (hbF on) = some [hbF on] := by
  have h1 : (alook (TF q) (hbF on)).isSome = true := by cases on <;> rfl
  have h2 : (bk (TF q) (hbF on)).jb = 1 := by cases on <;> rfl
  unfold pathV
  rw [if_pos (by rw [h1]; rfl), wayV_on (tf_inv q) h1 (by cases on <;> decide) (by cases on <;> decide), h2, wayV_at]
  rfl
theorem commit_len (q : EnvX → Bool) (on : Bool) : (([hbF on] : List Int).flatMap fun x => (bk (TF q) x).envs).length ≤ 8 := by
  simp only [List.flatMap_cons, List.flatMap_nil, List.append_nil]
  cases on
  · show 0 ≤ 8; omega
  · exact ins_len q
/-- On the way to the block that is built on: what stands there. -/
def skF (q : EnvX → Bool) (on fix : Bool) : List EnvX := if on && !fix then insV q else []
def tipF (on fix : Bool) : Int := if fix then hbF on else 1
theorem skip_F (q : EnvX → Bool) (on fix : Bool) : skipV (TF q) 1 (tipF on fix) (hbF on) = skF q on fix := by
  cases fix
  · have h1 : goOn (TF q) 1 1 (hbF on) = true := by cases on <;> rfl
    have h2 : (bk (TF q) (hbF on)).jb = 1 := by cases on <;> rfl
    show skipV (TF q) 1 1 (hbF on) = _
    rw [skipV_on (tf_inv q) h1, h2, skipV_off (by rfl), List.append_nil]
    cases on <;> rfl
  · show skipV (TF q) 1 (hbF on) (hbF on) = _
    rw [skipV_off (by unfold goOn; simp)]
    cases on <;> rfl
theorem mem_comp {zs : List Int} {x : Int} : x ∈ Lib.compact zs ↔ x ∈ zs := by
  unfold Lib.compact Lib.compactUpTo
  constructor
  · intro h
    obtain ⟨i, hi, rfl⟩ := List.mem_map.1 h
    have hi' : i < zs.length := List.mem_range.1 (List.mem_filter.1 hi).1
    simp [getElem!_pos, hi']
  · intro h
    obtain ⟨i, hi, rfl⟩ := List.mem_iff_getElem.1 h
    induction i with
    | zero => exact List.mem_map.2 ⟨0, List.mem_filter.2 ⟨List.mem_range.2 hi, by simp [Lib.keeps]⟩, by simp [hi]⟩
    | succ i ih =>
      by_cases hk : zs[i + 1] = zs[i]
      · rw [hk]; exact ih (by omega) (List.getElem_mem _)
      · refine List.mem_map.2 ⟨i + 1, List.mem_filter.2 ⟨List.mem_range.2 hi, ?_⟩, by simp [hi]⟩
        unfold Lib.keeps
        have h2 : i < zs.length := by omega
        simp only [decide_eq_true_eq]
        right
        simpa [hi, h2] using hk
theorem ds_mem (q : EnvX → Bool) {e : EnvX} (he : e ∈ fewL 8) : dg (X11 q).T (envB e) ∈ dsOf (X11 q) (insV q) ↔ q e = true := by
  obtain ⟨i, hi, rfl⟩ := fewL_mem he
  unfold dsOf
  rw [List.mem_map]
  constructor
  · rintro ⟨x, hx, hd⟩
    obtain ⟨h1, h2⟩ := List.mem_filter.1 hx
    obtain ⟨k, hk, rfl⟩ := fewL_mem h1
    rw [dg11 q k hk, dg11 q i hi] at hd
    obtain rfl : k = i := by omega
    exact h2
  · intro h
    exact ⟨eF i, List.mem_filter.2 ⟨he, h⟩, rfl⟩
theorem drop_F (q : EnvX → Bool) : (fewL 8).filter (fun e => !(decide (dg (X11 q).T (envB e) ∈ dsOf (X11 q) (insV q)))) = (fewL 8).filter fun e => !(q e) := by
  refine List.filter_congr fun e he => ?_
  have := ds_mem q he
  cases hq : q e <;> simp [this, hq]
def lpF (q : EnvX → Bool) (on fix : Bool) : List EnvX := if fix && on then (fewL 8).filter fun e => !(q e) else fewL 8
def wantF (q : EnvX → Bool) (on : Bool) (j : Nat) : List EnvX := (fewL j).filter fun e => !on || !(q e)
theorem lp_mem {q : EnvX → Bool} {on fix : Bool} {e : EnvX} (h : e ∈ lpF q on fix) : e ∈ fewL 8 := by
  unfold lpF at h
  split at h
  · exact (List.mem_filter.1 h).1
  · exact h
theorem few_nonce {e : EnvX} (h : e ∈ fewL 8) : e.nonce = 0 := by obtain ⟨i, _, rfl⟩ := fewL_mem h; rfl
theorem batch_take (k : Nat) : ∀ L : List EnvX, (∀ e ∈ L, e.nonce = 0) → batchN L k = L.take k := by
  induction k with
  | zero => intro L _; simp [batchN]
  | succ k ih =>
    intro L h
    cases L with
    | nil => rw [batchN_nil]; rfl
    | cons a L =>
      have h1 : lowB (a :: L) a = true := by
        unfold lowB
        rw [Bool.not_eq_true', List.any_eq_false]
        intro x hx
        unfold lessB
        rw [h x hx, h a (.head _)]
        simp
      have h2 : (a :: L).findIdx? (lowB (a :: L)) = some 0 := by rw [List.findIdx?_cons, h1]; rfl
      unfold batchN
      rw [h2]
      show (a :: L).getD 0 default :: batchN ((a :: L).eraseIdx 0) k = a :: L.take k
      rw [List.eraseIdx_cons_zero, ih L fun e he => h e (.tail _ he)]
      rfl
/-- What the leader lays is what the law wants. -/
theorem pack_F (q : EnvX → Bool) (on fix : Bool) (bt : Int) : packV (X11 q) (TF q) 1 (tipF on fix) (hbF on) (lpF q on fix) bt = (wantF q on 8).take bt.toNat := by
  unfold packV
  rw [skip_F, batch_take _ _ (fun e he => few_nonce (lp_mem (List.mem_filter.1 he).1))]
  congr 1
  have h1 : ∀ e : EnvX, (!(decide (dg (X11 q).T (envB e) ∈ Lib.compact (rising (dsOf (X11 q) (skF q on fix)))))) = !(decide (dg (X11 q).T (envB e) ∈ dsOf (X11 q) (skF q on fix))) := by
    intro e
    congr 1
    exact decide_eq_decide.2 (by rw [mem_comp, mem_rising])
  simp only [h1]
  cases on <;> cases fix
  · show (fewL 8).filter _ = (fewL 8).filter _
    exact List.filter_congr fun e he => by simp [skF, dsOf]
  · show (fewL 8).filter _ = (fewL 8).filter _
    exact List.filter_congr fun e he => by simp [skF, dsOf]
  · show (fewL 8).filter _ = (fewL 8).filter _
    rw [show skF q true false = insV q from rfl, drop_F]
    exact List.filter_congr fun e he => by simp
  · rw [show lpF q true true = (fewL 8).filter fun e => !(q e) from rfl, show skF q true true = [] from rfl, List.filter_filter]
    show (fewL 8).filter _ = (fewL 8).filter _
    exact List.filter_congr fun e he => by simp [dsOf]
theorem lp_tt (q : EnvX → Bool) : lpF q true true = (fewL 8).filter fun e => !(q e) := rfl
theorem same_dig (X : WX) {x : List UInt8} (h : x ∈ X.T) : { X with T := addT X.T x } = X := by unfold addT; rw [if_pos h]
theorem comp_len (zs : List Int) : (Lib.compact zs).length ≤ zs.length := by
  unfold Lib.compact Lib.compactUpTo
  rw [List.length_map]
  exact Nat.le_trans (List.length_filter_le _ _) (by rw [List.length_range]; exact Nat.le_refl _)
theorem skF_len (q : EnvX → Bool) (on fix : Bool) : (skF q on fix).length ≤ 100000 := by
  unfold skF
  split
  · have := ins_len q; omega
  · show 0 ≤ _; omega
theorem skF_len2 (q : EnvX → Bool) (on fix : Bool) : (Lib.compact (rising (dsOf (X11 q) (skF q on fix)))).length ≤ 1000000 := by
  have h1 := comp_len (rising (dsOf (X11 q) (skF q on fix)))
  rw [rising_length] at h1
  have h2 := skF_len q on fix
  have h3 : (dsOf (X11 q) (skF q on fix)).length = (skF q on fix).length := by simp [dsOf]
  omega
theorem lp_len (q : EnvX → Bool) (on fix : Bool) : (lpF q on fix).length ≤ 1000000 := by
  unfold lpF
  split
  · exact Nat.le_trans (List.length_filter_le _ _) (by rw [fewL_length]; omega)
  · rw [fewL_length]; omega
def cF (K : Nat) : CfgX := ⟨1, 4, 0, 0, 0, (K : Int), 0, 0⟩
theorem cF_good (K : Nat) : (cF K).Good := by show (0 : Int) ≤ 1 ∧ (1 : Int) ≤ 1000 ∧ (4 : Int) = 3 * 1 + 1; omega
theorem fr_make (q : EnvX → Bool) (on : Bool) (K : Nat) : makeB (TF q) (cF K) 3 3 (hvF on) (hbF on) = true := by
  unfold makeB
  rw [show (alook (TF q) (hbF on)).isSome = true by cases on <;> rfl, show leadOf (cF K) 3 = 3 from rfl]
  cases on <;> rfl
theorem few_get {j : Nat} (h : j < 8) : (fewL 8).getD j default = eF j := by
  have : j < (fewL 8).length := by rw [fewL_length]; exact h
  rw [List.getD_eq_getElem?_getD, List.getElem?_eq_getElem this, Option.getD_some]
  simp [fewL]
theorem want_snoc (q : EnvX → Bool) (on : Bool) (j : Nat) : wantF q on (j + 1) = wantF q on j ++ (if (!on || !(q (eF j))) = true then [eF j] else []) := filt_snoc (fun e => !on || !(q e)) j
theorem take_snoc {α : Type} (A : List α) (e : α) (K : Nat) : (A ++ [e]).take K = if (A.take K).length < K then A.take K ++ [e] else A.take K := by
  rw [List.length_take]
  split
  · rename_i h
    rw [List.take_of_length_le (by simp; omega), List.take_of_length_le (by omega)]
  · rename_i h
    rw [List.take_append_of_le_length (by omega)]
end Go.Proofs.YtcfhkpjheemkgaaGreat
