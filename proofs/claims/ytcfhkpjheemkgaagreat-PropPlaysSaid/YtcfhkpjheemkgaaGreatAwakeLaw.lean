/-
  What is told of the play of a leader's blocks: plain numbers.
-/
import Derived.Test.YtcfhkpjheemkgaaGreatMake
namespace Go.Proofs.YtcfhkpjheemkgaaGreat
set_option linter.unusedSectionVars false
set_option linter.unnecessarySimpa false
set_option linter.unusedSimpArgs false
set_option linter.unusedVariables false
open Go.RowKit Go.MapKept

theorem Sys.memBase {w W : World} {m : Nat → Thing} {l : List Thing} (h : Sys w m l) (ht : base W ∈ l) : Below W.heap.size W w := by obtain ⟨F, hF⟩ := h.mem ht; exact hF.1
def five (a b c d e : Thing) : Nat → Thing
  | 0 => a | 1 => b | 2 => c | 3 => d | 4 => e | _ => emp
section
variable {a b c d e x : Thing}
theorem five_ : upd (fun _ => emp) 0 x = five x emp emp emp emp := by funext i; rcases i with _ | _ | _ | _ | _ | _ <;> rfl
theorem five0 : upd (five a b c d e) 0 x = five x b c d e := by funext i; rcases i with _ | _ | _ | _ | _ | _ <;> rfl
theorem five1 : upd (five a b c d e) 1 x = five a x c d e := by funext i; rcases i with _ | _ | _ | _ | _ | _ <;> rfl
theorem five2 : upd (five a b c d e) 2 x = five a b x d e := by funext i; rcases i with _ | _ | _ | _ | _ | _ <;> rfl
theorem five3 : upd (five a b c d e) 3 x = five a b c x e := by funext i; rcases i with _ | _ | _ | _ | _ | _ <;> rfl
theorem five4 : upd (five a b c d e) 4 x = five a b c d x := by funext i; rcases i with _ | _ | _ | _ | _ | _ <;> rfl
end
theorem bk_nil (R x : Int) : bk [(R, zeroBlk)] x = zeroBlk := by unfold bk; simp only [alook]; split <;> rfl
theorem tree1_inv (R : Int) : TreeInv [(R, zeroBlk)] R := by
  refine ⟨fun x => by rw [bk_nil]; decide, fun x h hx => ?_⟩
  simp only [alook] at h
  split at h
  · exact (hx (by rename_i e; exact e.symm)).elim
  · cases h
theorem bk_two (R D x : Int) (b : BlkX) (h : R ≠ D) : (x = D ∧ bk [(R, zeroBlk), (D, b)] x = b) ∨ (x ≠ D ∧ bk [(R, zeroBlk), (D, b)] x = zeroBlk) := by
  unfold bk
  simp only [alook]
  by_cases h1 : x = D
  · subst h1; rw [if_neg h, if_pos rfl]; exact .inl ⟨rfl, rfl⟩
  · refine .inr ⟨h1, ?_⟩
    split
    · rfl
    · rw [if_neg (fun e => h1 e.symm)]; rfl
theorem tree2_inv (R D : Int) (b : BlkX) (h : R ≠ D) (hj : b.jb = R) (hv : 0 < b.view) : TreeInv [(R, zeroBlk), (D, b)] R := by
  have hR : bk [(R, zeroBlk), (D, b)] R = zeroBlk := by
    rcases bk_two R D R b h with ⟨e, _⟩ | ⟨_, e⟩
    · exact (h e).elim
    · exact e
  refine ⟨fun x => ?_, fun x hx hr => ?_⟩
  · rcases bk_two R D x b h with ⟨_, e⟩ | ⟨_, e⟩ <;> rw [e]
    · omega
    · decide
  · rcases bk_two R D x b h with ⟨e1, e⟩ | ⟨e1, e⟩
    · rw [e, hj, hR]
      refine ⟨?_, hv⟩
      simp [alook]
    · simp only [alook] at hx
      rw [if_neg (fun e => hr e.symm), if_neg (fun e => e1 e.symm)] at hx
      cases hx
theorem EnvsIn.one {y : World} {b : Nat} {t : TypeId} {e : EnvX} (hb : y.heap[b]? = some (.cells #[.int .i64 e.client, .int .u64 e.nonce, .int .u64 e.fee, .int .i64 e.cipher] t (0, 0))) : EnvsIn anyK y (.slice (some ⟨b, 0, none⟩) 1 1) [e] := by
  refine ⟨_, 1, rfl, .inr ⟨b, 0, rfl, fun j u hu => ?_⟩, (fun b' off h => by cases h; exact ⟨trivial, (Array.getElem?_eq_some_iff.1 hb).1⟩), (fun h => nomatch h), (by show 1 ≤ 1000000; decide)⟩
  rw [Nat.zero_add]
  refine ⟨?_, frozen_of_blk hb j⟩
  rw [cell_of_blk hb]
  have h : flatE [e] = [.int .i64 e.client, .int .u64 e.nonce, .int .u64 e.fee, .int .i64 e.cipher] := rfl
  rw [h] at hu
  simpa using hu
def eX : EnvX := ⟨0, 0, 5, 1⟩
def eY : EnvX := ⟨1, 0, 5, 2⟩
def A0 : WX := ⟨[], fun _ => [], min (max 1 0) 100 + 1, []⟩
def A1 : WX := A0.digest rootB
def A2 : WX := A1.made eX []
def A3 : WX := A2.made eY []
def A4 : WX := A3.digest (envB eX)
def A5 : WX := A4.digest (envB eY)
def A6 : WX := A5.digest rootB
def bA : BlkX := ⟨1, 0, 0, 1, [], [eX]⟩
def A7 : WX := blkX A6 bA
def TA : List (Int × BlkX) := [(1, zeroBlk), (4, bA)]
def cA : CfgX := ⟨1, 4, 0, 0, 0, 2, 0, 0⟩
def bM : BlkX := ⟨6, 2, 1, 4, [], [eY]⟩
def A8 : WX := signBlk A7 bM
theorem aw_root : dg A0.T rootB = 1 := by decide +kernel
theorem aw_c1 : (A1.C.length : Int) + 1 = 1 := by decide +kernel
theorem aw_c2 : (A2.C.length : Int) + 1 = 2 := by decide +kernel
theorem aw_add1 : addCode A3 [] 2 eX = 0 := by decide +kernel
theorem aw_add2 : addCode A4 [eX] 2 eY = 0 := by decide +kernel
theorem aw_root6 : dg A5.T rootB = 1 := by decide +kernel
theorem aw_len : A0.T.length ≤ 100 ∧ A1.T.length ≤ 100 ∧ A2.T.length ≤ 100 ∧ A3.T.length ≤ 100 ∧ A4.T.length ≤ 100 ∧ A5.T.length ≤ 100 ∧ A6.T.length ≤ 100 ∧ A7.T.length ≤ 100 ∧ A8.T.length ≤ 100 := by decide +kernel
theorem aw_blkD : blkD A6 bA = 4 := by decide +kernel
theorem aw_t1 : (alook [(1, zeroBlk)] bA.jb).isSome = true := by decide +kernel
theorem aw_t2 : (decide (bA.jv = (bk [((1 : Int), zeroBlk)] bA.jb).view) && decide (bA.jv < bA.view)) = true := by decide +kernel
theorem aw_t3 : (alook [((1 : Int), zeroBlk)] (blkD A6 bA)).isSome = false := by decide +kernel
theorem aw_inv : TreeInv TA 1 := tree2_inv 1 4 bA (by decide) rfl (by decide)
theorem wf_x : eX.wf := ⟨⟨by decide, by decide⟩, ⟨by decide, by decide⟩, by decide, by decide⟩
theorem wf_y : eY.wf := ⟨⟨by decide, by decide⟩, ⟨by decide, by decide⟩, by decide, by decide⟩
theorem aw_in : envB eX ∈ A7.T ∧ envB eY ∈ A7.T ∧ envB eX ∈ A8.T := by decide +kernel
theorem aw_bA : ∀ e ∈ bA.envs, e.wf := by
  intro e he
  obtain rfl : e = eX := by simpa [bA] using he
  exact wf_x
theorem cA_good : cA.Good := by show (0 : Int) ≤ 1 ∧ (1 : Int) ≤ 1000 ∧ (4 : Int) = 3 * 1 + 1; omega
theorem aw_tree : ∀ x, ∀ e ∈ (bk TA x).envs, envB e ∈ A7.T ∧ e.wf := by
  intro x e he
  rcases bk_two 1 4 x bA (by decide) with ⟨_, h⟩ | ⟨_, h⟩
  · rw [show bk TA x = bA from h] at he
    obtain rfl : e = eX := by simpa [bA] using he
    exact ⟨aw_in.1, wf_x⟩
  · rw [show bk TA x = zeroBlk from h] at he
    simp [zeroBlk] at he
theorem aw_tree8 : ∀ x, ∀ e ∈ (bk TA x).envs, envB e ∈ A8.T ∧ e.wf := by
  intro x e he
  rcases bk_two 1 4 x bA (by decide) with ⟨_, h⟩ | ⟨_, h⟩
  · rw [show bk TA x = bA from h] at he
    obtain rfl : e = eX := by simpa [bA] using he
    exact ⟨aw_in.2.2, wf_x⟩
  · rw [show bk TA x = zeroBlk from h] at he
    simp [zeroBlk] at he
theorem aw_pool : ∀ e ∈ [eX, eY], envB e ∈ A7.T ∧ e.wf := by
  intro e he
  rcases List.mem_cons.1 he with rfl | he
  · exact ⟨aw_in.1, wf_x⟩
  · obtain rfl : e = eY := by simpa using he
    exact ⟨aw_in.2.1, wf_y⟩
theorem aw_skip : skipV TA 1 1 4 = [eX] := by kernel_rfl
theorem aw_ds7 : dsOf A7 [eX] = [2] := by decide +kernel
theorem aw_ds8 : dsOf A8 [eX] = [2] := by decide +kernel
theorem aw_one : Lib.compact (rising [2]) = [2] := by
  rw [rising_eq (List.Perm.refl [2]) (by decide)]
  decide
theorem aw_pack : packV A7 TA 1 1 4 [eX, eY] 2 = [eY] := by
  unfold packV
  rw [aw_skip, aw_ds7, aw_one]
  kernel_rfl
theorem aw_make : makeB TA cA 2 6 1 4 = true := by decide +kernel
theorem aw_make2 : makeB TA cA 1 6 1 4 = false := by decide +kernel
theorem aw_dg : dg A8.T (envB eX) = 2 := by decide +kernel
end Go.Proofs.YtcfhkpjheemkgaaGreat
