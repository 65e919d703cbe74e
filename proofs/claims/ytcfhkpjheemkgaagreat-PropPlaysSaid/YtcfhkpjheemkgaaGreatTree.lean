/-
  Blocks that stand on blocks: package tree.
-/
import Derived.Test.YtcfhkpjheemkgaaGreatBlokOk
namespace Go.Proofs.YtcfhkpjheemkgaaGreat
set_option linter.unusedSectionVars false
set_option linter.unnecessarySimpa false
set_option linter.unusedSimpArgs false
set_option linter.unusedVariables false
open Go.RowKit Go.MapKept

def zeroBlk : BlkX := ⟨0, 0, 0, 0, [], []⟩
/-- A map of blocks, with all that they show. -/
def blocksT (mb : Nat) (T : List (Int × BlkX)) : Thing :=
  ⟨fun w F => ∃ E : List (Int × List Value × BlkX), MapOf intKey w mb (E.map fun e => (e.1, .agg e.2.1.toArray)) ∧ E.map (fun e => (e.1, e.2.2)) = T ∧ (∀ e ∈ E, BlkV (fun k => F k ∧ k ≠ mb) w e.2.1 e.2.2) ∧ F mb ∧ ∀ k, F k → k < w.heap.size,
   fun ⟨_, _, _, _, _, h⟩ k hk => h k hk,
   fun ⟨E, h1, h2, h3, h4, h5⟩ hc hs => ⟨E, h1.chg hc (hs mb h4), h2, fun e he => (h3 e he).chg hc (fun b hb => hs b hb.1), h4, fun k hk => Nat.lt_of_lt_of_le (h5 k hk) hc.size⟩⟩
def treeF (pt p : Nat) (R : Int) (T : List (Int × BlkX)) : Nat → List Thing := fun mb => [blk pt (.cells #[.pointer (some ⟨p, 0, none⟩), .int .i64 R, .map (some mb)] 81 (0, 0)), blocksT mb T]
def treeT (pt p : Nat) (R : Int) (T : List (Int × BlkX)) : Thing := ex (treeF pt p R T)
def bk (T : List (Int × BlkX)) (x : Int) : BlkX := (alook T x).getD zeroBlk
section
variable {w w' : World} {m : Nat → Thing} {l : List Thing} {p pt mb : Nat} {d : Wd} {X : WX} {R : Int} {T : List (Int × BlkX)} {b : BlkX}
theorem zeroBlock (w : World) : (zeroValue 41).run Tryz.prog w = .ok (.agg #[.int .i64 0, .int .i64 0, .int .i64 0, .int .i64 0, .slice none 0 0, .slice none 0 0]) w := by kernel_rfl
theorem field_blk0 (a b c d e f : Value) (w : World) : (Instr.field 41 (.agg #[a, b, c, d, e, f]) 0).run Tryz.prog w = .ok a w := by kernel_rfl
theorem field_blk2 (a b c d e f : Value) (w : World) : (Instr.field 41 (.agg #[a, b, c, d, e, f]) 2).run Tryz.prog w = .ok (.agg #[c, d, e]) w := by kernel_rfl
theorem field_qc1 (a b c : Value) (w : World) : (Instr.field 34 (.agg #[a, b, c]) 1).run Tryz.prog w = .ok b w := by kernel_rfl
theorem zeroBlk_at (S : Nat → Prop) (w : World) : BlkV S w (bval zeroBlk none 0 none 0) zeroBlk := ⟨_, _, rfl, SliceIn.nil S w, SliceIn.nil S w⟩
theorem alook_map2 {α : Type} (E : List (Int × List Value × α)) (x : Int) : (alook (E.map fun e => (e.1, Value.agg e.2.1.toArray)) x = none ∧ alook (E.map fun e => (e.1, e.2.2)) x = none) ∨ ∃ e ∈ E, alook (E.map fun e => (e.1, Value.agg e.2.1.toArray)) x = some (.agg e.2.1.toArray) ∧ alook (E.map fun e => (e.1, e.2.2)) x = some e.2.2 := by
  induction E with
  | nil => exact .inl ⟨rfl, rfl⟩
  | cons a E ih =>
    simp only [List.map_cons, alook]
    by_cases h : a.1 = x
    · simp only [h, if_true]
      exact .inr ⟨a, .head _, rfl, rfl⟩
    · simp only [h, if_false]
      rcases ih with ih | ⟨e, he, h1, h2⟩
      · exact .inl ih
      · exact .inr ⟨e, .tail _ he, h1, h2⟩
/-- What is told of a block. -/
theorem Sys.blkLook (i : Nat) (h : Sys w m l) (hi : l[i]? = some (blocksT mb T)) (x : Int) : ∃ ua uc va vc, BlkAt w (bk T x) ua uc va vc ∧ ∀ c, (Instr.lookup 79 (.map (some mb)) (.int .i64 x) c).run Tryz.prog w = .ok (if c then .tuple #[.agg #[.int .i64 (bk T x).view, .int .i64 (bk T x).author, .int .i64 (bk T x).jv, .int .i64 (bk T x).jb, .slice ua (bk T x).by_.length uc, .slice va (bk T x).envs.length vc], .bool (alook T x).isSome] else .agg #[.int .i64 (bk T x).view, .int .i64 (bk T x).author, .int .i64 (bk T x).jv, .int .i64 (bk T x).jb, .slice ua (bk T x).by_.length uc, .slice va (bk T x).envs.length vc]) w := by
  obtain ⟨F, E, h1, rfl, h3, h4, h5⟩ := h.mem (List.mem_of_getElem? hi)
  have hl := fun c => h1.lookup (P := Tryz.prog) Tryz.underlying79 Tryz.underlying3 (zeroBlock w) x c
  rcases alook_map2 E x with ⟨e1, e2⟩ | ⟨e, he, e1, e2⟩
  · refine ⟨none, 0, none, 0, ?_, fun c => ?_⟩
    · unfold BlkAt bk; rw [e2]; exact zeroBlk_at _ _
    · have := hl c; rw [e1] at this; unfold bk; rw [e2]; exact this
  · have hb := h3 e he
    obtain ⟨ua, uc, va, vc, hv⟩ := hb.val
    refine ⟨ua, uc, va, vc, ?_, fun c => ?_⟩
    · unfold BlkAt bk; rw [e2, Option.getD_some, ← hv]; exact hb.mono fun _ _ _ => trivial
    · have := hl c; rw [e1, hv] at this; unfold bk; rw [e2]; exact this

set_option maxRecDepth 100000 in
set_option maxHeartbeats 1000000 in
theorem tree_root (h : Sys w m l) (hm : m 1 = treeT pt p R T) : Calls Tryz.prog 35 #[.pointer (some ⟨pt, 0, none⟩)] w fun e w' => e = .returned (.int .i64 R) ∧ w = w' := by
  obtain ⟨mb, h1⟩ := (h.lift 1 hm).open
  replace h1 : Sys w (upd m 1 emp) (blk pt (.cells #[.pointer (some ⟨p, 0, none⟩), .int .i64 R, .map (some mb)] 81 (0, 0)) :: blocksT mb T :: l) := h1
  have H1 := Lib.hid h1
  obtain ⟨c0, c1, c2⟩ := cells3 (h1.nth 0 rfl)
  clear h hm h1
  go_enter Tryz.func35, Tryz.ntmps35
  go_wp2_with fail
  go_ret
  exact ⟨rfl, rfl⟩
set_option maxRecDepth 100000 in
set_option maxHeartbeats 1000000 in
theorem tree_has (x : Int) (h : Sys w m l) (hm : m 1 = treeT pt p R T) : Calls Tryz.prog 36 #[.pointer (some ⟨pt, 0, none⟩), .int .i64 x] w fun e w' => e = .returned (.bool (alook T x).isSome) ∧ Sys w' m l := by
  obtain ⟨mb, h1⟩ := (h.lift 1 hm).open
  replace h1 : Sys w (upd m 1 emp) (blk pt (.cells #[.pointer (some ⟨p, 0, none⟩), .int .i64 R, .map (some mb)] 81 (0, 0)) :: blocksT mb T :: l) := h1
  have H1 := Lib.hid h1
  obtain ⟨c0, c1, c2⟩ := cells3 (h1.nth 0 rfl)
  obtain ⟨ua, uc, va, vc, hb, hl⟩ := h1.blkLook 1 rfl x
  have e1 := hl true
  simp only [if_true] at e1
  have H9 := Lib.hid (h.alloc0 (.cells #[.int .i64 (bk T x).view, .int .i64 (bk T x).author, .int .i64 (bk T x).jv, .int .i64 (bk T x).jb, .slice ua (bk T x).by_.length uc, .slice va (bk T x).envs.length vc] 41 (0, 0)))
  clear h hb hl h1
  go_enter Tryz.func36, Tryz.ntmps36
  go_wp2_with fail
  go_ret
  exact ⟨rfl, H9.out⟩
set_option maxRecDepth 100000 in
set_option maxHeartbeats 1000000 in
theorem tree_parent (x : Int) (h : Sys w m l) (hm : m 1 = treeT pt p R T) : Calls Tryz.prog 71 #[.pointer (some ⟨pt, 0, none⟩), .int .i64 x] w fun e w' => e = .returned (.int .i64 (bk T x).jb) ∧ w = w' := by
  obtain ⟨mb, h1⟩ := (h.lift 1 hm).open
  replace h1 : Sys w (upd m 1 emp) (blk pt (.cells #[.pointer (some ⟨p, 0, none⟩), .int .i64 R, .map (some mb)] 81 (0, 0)) :: blocksT mb T :: l) := h1
  have H1 := Lib.hid h1
  obtain ⟨c0, c1, c2⟩ := cells3 (h1.nth 0 rfl)
  obtain ⟨ua, uc, va, vc, hb, hl⟩ := h1.blkLook 1 rfl x
  have e1 := hl false
  simp only [Bool.false_eq_true, if_false] at e1
  have f2 := field_blk2
  have f1 := field_qc1
  clear h hb hl h1 hm
  go_enter Tryz.func71, Tryz.ntmps71
  go_wp2_with fail
  go_ret
  exact ⟨rfl, rfl⟩
set_option maxRecDepth 100000 in
set_option maxHeartbeats 1000000 in
theorem tree_view (x : Int) (h : Sys w m l) (hm : m 1 = treeT pt p R T) : Calls Tryz.prog 37 #[.pointer (some ⟨pt, 0, none⟩), .int .i64 x] w fun e w' => e = .returned (.int .i64 (if (alook T x).isSome then (bk T x).view else -1)) ∧ Sys w' m l := by
  have HH := Lib.hid (tree_has x h hm)
  clear h
  cases hs : (alook T x).isSome with
  | false =>
    rw [hs] at HH
    clear hs
    go_enter Tryz.func37, Tryz.ntmps37
    go_wp2_with fail
    refine HH.out.mono ?_
    rintro e w1 ⟨rfl, h⟩
    have H2 := Lib.hid h
    clear h HH
    go_wp2_with fail
    go_ret
    exact ⟨rfl, H2.out⟩
  | true =>
    rw [hs] at HH
    clear hs
    go_enter Tryz.func37, Tryz.ntmps37
    go_wp2_with fail
    refine HH.out.mono ?_
    rintro e w1 ⟨rfl, h⟩
    have H2 := Lib.hid h
    obtain ⟨mb, h1⟩ := (h.lift 1 hm).open
    replace h1 : Sys w1 (upd m 1 emp) (blk pt (.cells #[.pointer (some ⟨p, 0, none⟩), .int .i64 R, .map (some mb)] 81 (0, 0)) :: blocksT mb T :: l) := h1
    obtain ⟨c0, c1, c2⟩ := cells3 (h1.nth 0 rfl)
    obtain ⟨ua, uc, va, vc, hb, hl⟩ := h1.blkLook 1 rfl x
    have e1 := hl false
    simp only [Bool.false_eq_true, if_false] at e1
    have f2 := field_blk0
    clear h HH hb hl h1 hm
    go_wp2_with fail
    go_ret
    exact ⟨rfl, H2.out⟩
set_option maxRecDepth 100000 in
set_option maxHeartbeats 1000000 in
theorem tree_block (x : Int) (h : Sys w m l) (hm : m 1 = treeT pt p R T) : Calls Tryz.prog 60 #[.pointer (some ⟨pt, 0, none⟩), .int .i64 x] w fun e w' => ∃ ua uc va vc, e = .returned (.tuple #[.agg #[.int .i64 (bk T x).view, .int .i64 (bk T x).author, .int .i64 (bk T x).jv, .int .i64 (bk T x).jb, .slice ua (bk T x).by_.length uc, .slice va (bk T x).envs.length vc], .bool (alook T x).isSome]) ∧ Sys w' m (blkT (bval (bk T x) ua uc va vc) (bk T x) :: l) := by
  obtain ⟨n4, x4, EN4, EX4, ES4, H4⟩ := h.box (.cells #[.int .i64 0, .int .i64 0, .int .i64 0, .int .i64 0, .slice none 0 0, .slice none 0 0] 41 (0, 0))
  obtain ⟨mb, h1⟩ := (H4.out.lift 1 hm).open
  replace h1 : Sys x4 (upd m 1 emp) (blk pt (.cells #[.pointer (some ⟨p, 0, none⟩), .int .i64 R, .map (some mb)] 81 (0, 0)) :: blocksT mb T :: blk n4 (.cells #[.int .i64 0, .int .i64 0, .int .i64 0, .int .i64 0, .slice none 0 0, .slice none 0 0] 41 (0, 0)) :: l) := h1
  obtain ⟨c0, c1, c2⟩ := cells3 (h1.nth 0 rfl)
  obtain ⟨ua, uc, va, vc, hb, hl⟩ := h1.blkLook 1 rfl x
  have e1 := hl true
  simp only [if_true] at e1
  obtain ⟨n6, x6, EN6, EX6, ES6, H6⟩ := H4.out.box (.cells #[.int .i64 (bk T x).view, .int .i64 (bk T x).author, .int .i64 (bk T x).jv, .int .i64 (bk T x).jb, .slice ua (bk T x).by_.length uc, .slice va (bk T x).envs.length vc] 41 (0, 0))
  have HB := Lib.hid (BlkV.chg0 hb ((Chg.refl none_ x4).alloc (.cells #[.int .i64 (bk T x).view, .int .i64 (bk T x).author, .int .i64 (bk T x).jv, .int .i64 (bk T x).jb, .slice ua (bk T x).by_.length uc, .slice va (bk T x).envs.length vc] 41 (0, 0))))
  rw [EX6.out] at HB
  have hb6 := H6.out.nth 0 rfl
  clear h hb hl h1
  go_enter Tryz.func60, Tryz.ntmps60
  go_upto_region 1 with fail
  rw [EX4.out, EN4.out]
  go_upto_region 2 with fail
  rw [EX6.out, EN6.out]
  go_wp2_with (refine wpList_load_row rfl 41 _ rfl n6 rfl _ _ _ _ hb6 Tryz.underlying41 rfl size6B ?_)
  refine (blok_still anyK (bval (bk T x) ua uc va vc) (bk T x) x6 HB.out).mono ?_
  rintro e w2 ⟨cs', rfl, hbv, hB⟩
  obtain ⟨ua', uc', va', vc', rfl⟩ := hbv.val
  have H2 := Lib.hid ((H6.out.pushBlk hB hbv).front 2 rfl)
  clear hB hbv hb6 c0 c1 c2 e1
  have hbr : w2.heap[n4]? = some (.cells #[.int .i64 0, .int .i64 0, .int .i64 0, .int .i64 0, .slice none 0 0, .slice none 0 0] 41 (0, 0)) := H2.out.getBlk
  have hzz := setRow_heap w2 n4 _ #[.int .i64 (bk T x).view, .int .i64 (bk T x).author, .int .i64 (bk T x).jv, .int .i64 (bk T x).jb, .slice ua' (bk T x).by_.length uc', .slice va' (bk T x).envs.length vc'] _ _ hbr
  have HF := Lib.hid (H2.out.store ((Chg.refl (· = n4) w2).row #[.int .i64 (bk T x).view, .int .i64 (bk T x).author, .int .i64 (bk T x).jv, .int .i64 (bk T x).jb, .slice ua' (bk T x).by_.length uc', .slice va' (bk T x).envs.length vc']) hzz)
  go_wp2_with (refine wpList_store_row rfl 41 _ _ rfl n4 #[.int .i64 (bk T x).view, .int .i64 (bk T x).author, .int .i64 (bk T x).jv, .int .i64 (bk T x).jb, .slice ua' (bk T x).by_.length uc', .slice va' (bk T x).envs.length vc'] rfl rfl _ _ hbr size6B rfl (by simp [Value.oneCell']) ?_)
  (try simp only [Exit.inBlock, Exit.then])
  refine bodyPost_ret (results_cell_tmp (cs := #[.int .i64 (bk T x).view, .int .i64 (bk T x).author, .int .i64 (bk T x).jv, .int .i64 (bk T x).jb, .slice ua' (bk T x).by_.length uc', .slice va' (bk T x).envs.length vc']) rfl _ _ n4 _ _ _ rfl hzz Tryz.underlying41 rfl size6B) rfl ?_
  exact ⟨ua', uc', va', vc', rfl, (HF.out.tail.front 0 rfl).swap.tail⟩
/-- Whether a block can be put on what it stands on. -/
def fitsB (T : List (Int × BlkX)) (b : BlkX) : Bool := (alook T b.jb).isSome && decide (b.jv = (bk T b.jb).view) && decide (b.jv < b.view)
def AddTo (m : Nat → Thing) (l : List Thing) (pt p : Nat) (d : Wd) (R : Int) (T : List (Int × BlkX)) (X : WX) (b : BlkX) (e : Ending) (w' : World) : Prop :=
  if (alook T b.jb).isSome = false then e = .returned (.tuple #[.int .i64 0, .int .i64 12]) ∧ Sys w' m l
  else if (decide (b.jv = (bk T b.jb).view) && decide (b.jv < b.view)) = false then e = .returned (.tuple #[.int .i64 0, .int .i64 13]) ∧ Sys w' m l
  else if (alook T (blkD X b)).isSome = true then e = .returned (.tuple #[.int .i64 (blkD X b), .int .i64 10]) ∧ Sys w' (upd m 0 (worldT p d (blkX X b))) l
  else e = .returned (.tuple #[.int .i64 (blkD X b), .int .i64 0]) ∧ Sys w' (upd (upd m 0 (worldT p d (blkX X b))) 1 (treeT pt p R (T ++ [(blkD X b, b)]))) l
section
variable {e : Ending}
theorem addTo1 (h1 : (alook T b.jb).isSome = false) (h : e = .returned (.tuple #[.int .i64 0, .int .i64 12]) ∧ Sys w' m l) : AddTo m l pt p d R T X b e w' := by unfold AddTo; rw [if_pos h1]; exact h
theorem addTo2 (h1 : (alook T b.jb).isSome = true) (h2 : (decide (b.jv = (bk T b.jb).view) && decide (b.jv < b.view)) = false) (h : e = .returned (.tuple #[.int .i64 0, .int .i64 13]) ∧ Sys w' m l) : AddTo m l pt p d R T X b e w' := by unfold AddTo; rw [if_neg (by simp [h1]), if_pos h2]; exact h
theorem addTo3 (h1 : (alook T b.jb).isSome = true) (h2 : (decide (b.jv = (bk T b.jb).view) && decide (b.jv < b.view)) = true) (h3 : (alook T (blkD X b)).isSome = true) (h : e = .returned (.tuple #[.int .i64 (blkD X b), .int .i64 10]) ∧ Sys w' (upd m 0 (worldT p d (blkX X b))) l) : AddTo m l pt p d R T X b e w' := by unfold AddTo; rw [if_neg (by simp [h1]), if_neg (by rw [h2]; decide), if_pos h3]; exact h
theorem addTo4 (h1 : (alook T b.jb).isSome = true) (h2 : (decide (b.jv = (bk T b.jb).view) && decide (b.jv < b.view)) = true) (h3 : (alook T (blkD X b)).isSome = false) (h : e = .returned (.tuple #[.int .i64 (blkD X b), .int .i64 0]) ∧ Sys w' (upd (upd m 0 (worldT p d (blkX X b))) 1 (treeT pt p R (T ++ [(blkD X b, b)]))) l) : AddTo m l pt p d R T X b e w' := by unfold AddTo; rw [if_neg (by simp [h1]), if_neg (by rw [h2]; decide), if_neg (by rw [h3]; decide)]; exact h
end
theorem blocksPut {cs : List Value} {x : Int} (h : Sys w m (blocksT mb T :: blkT cs b :: l)) (hx : alook T x = none) : ∃ w', (Instr.mapUpdate 79 (.map (some mb)) (.int .i64 x) (.agg cs.toArray)).run Tryz.prog w = .ok () w' ∧ Sys w' m (blocksT mb (T ++ [(x, b)]) :: l) := by
  obtain ⟨U, F, V, ⟨E, h1, h2, h3, h4, h5⟩, ⟨G, Y, ⟨hG, hG2⟩, hY, hd2, hV⟩, hd, hU⟩ := h
  obtain ⟨w', hu, hmu, hc, hsz⟩ := h1.update (P := Tryz.prog) Tryz.underlying79 Tryz.underlying3 x (.agg cs.toArray)
  have hn : alook (E.map fun e => (e.1, Value.agg e.2.1.toArray)) x = none := by
    rcases alook_map2 E x with ⟨e1, _⟩ | ⟨e, _, _, e2⟩
    · exact e1
    · rw [h2, hx] at e2; cases e2
  rw [aset_none hn] at hmu
  have hGm : ¬ G mb := fun hg => hd mb h4 ((hV mb).2 (.inl hg))
  have hYm : ¬ Y mb := fun hg => hd mb h4 ((hV mb).2 (.inr hg))
  refine ⟨w', hu, fun k => (F k ∨ G k) ∨ Y k, fun k => F k ∨ G k, Y, ⟨E ++ [(x, cs, b)], by rw [List.map_append]; exact hmu, by rw [List.map_append, h2]; rfl, fun e he => ?_, .inl h4, fun k hk => ?_⟩, hY.chg hc (fun k hk e => hYm (e ▸ hk)), fun k hk hy => ?_, fun k => Iff.rfl⟩
  · rcases List.mem_append.1 he with he | he
    · exact ((h3 e he).chg hc (fun k hk e => hk.2 e)).mono fun k hk _ => ⟨.inl hk.1, hk.2⟩
    · simp at he; subst he
      exact (hG.chg hc (fun k hk e => hGm (e ▸ hk))).mono fun k hk _ => ⟨.inr hk, fun e => hGm (e ▸ hk)⟩
  · rw [hsz]
    exact hk.elim (h5 k) (hG2 k)
  · rcases hk with hk | hk
    · exact hd k hk ((hV k).2 (.inr hy))
    · exact hd2 k hk hy
theorem Sys.treeCells (h : Sys w m l) (hm : m 1 = treeT pt p R T) : w.cell? ⟨pt, 0, none⟩ = some (.pointer (some ⟨p, 0, none⟩)) ∧ w.cell? ⟨pt, 1, none⟩ = some (.int .i64 R) := by
  obtain ⟨mb, h1⟩ := (h.lift 1 hm).open
  replace h1 : Sys w (upd m 1 emp) (blk pt (.cells #[.pointer (some ⟨p, 0, none⟩), .int .i64 R, .map (some mb)] 81 (0, 0)) :: blocksT mb T :: l) := h1
  obtain ⟨c0, c1, c2⟩ := cells3 (h1.nth 0 rfl)
  exact ⟨c0, c1⟩
set_option maxRecDepth 100000 in
set_option maxHeartbeats 4000000 in
theorem tree_add (b : BlkX) (ua : Option Addr) (uc : Nat) (va : Option Addr) (vc : Nat) (hb : Cap l (fun x => BlkAt x b ua uc va vc)) (hwf : ∀ e ∈ b.envs, e.wf) (h : Sys w m l) (hm0 : m 0 = worldT p d X) (hm : m 1 = treeT pt p R T) (hT : X.T.length ≤ 900000000) :
    Calls Tryz.prog 10 #[.pointer (some ⟨pt, 0, none⟩), .agg #[.int .i64 b.view, .int .i64 b.author, .int .i64 b.jv, .int .i64 b.jb, .slice ua b.by_.length uc, .slice va b.envs.length vc]] w (AddTo m l pt p d R T X b) := by
  obtain ⟨nb, x1, EN1, EX1, ES1, H1⟩ := h.box (.cells #[.int .i64 b.view, .int .i64 b.author, .int .i64 b.jv, .int .i64 b.jb, .slice ua b.by_.length uc, .slice va b.envs.length vc] 41 (0, 0))
  have HB := Lib.hid hb
  have HWF := Lib.hid hwf
  have HTL := Lib.hid hT
  have HM := Lib.hid hm
  have HM0 := Lib.hid hm0
  have HH := Lib.hid (tree_has b.jb H1.out hm)
  clear h hb hwf hT
  cases hs : (alook T b.jb).isSome with
  | false =>
    rw [hs] at HH
    have HS := Lib.hid hs
    obtain ⟨c0, c1, c2, c3, c4, c5⟩ := cells6 (H1.out.nth 0 rfl)
    clear hs hm hm0
    go_enter Tryz.func10, Tryz.ntmps10
    go_upto_region 1 with fail
    rw [EX1.out, EN1.out]
    go_wp2_with fail
    refine HH.out.mono ?_
    rintro e w2 ⟨rfl, h⟩
    have H2 := Lib.hid h
    clear h HH c0 c1 c2 c3 c4 c5
    go_wp2_with fail
    go_ret2
    exact addTo1 HS.out ⟨rfl, H2.out.tail⟩
  | true =>
    rw [hs] at HH
    have HS := Lib.hid hs
    obtain ⟨c0, c1, c2, c3, c4, c5⟩ := cells6 (H1.out.nth 0 rfl)
    obtain ⟨vw, hvw⟩ : ∃ v, v = (bk T b.jb).view := ⟨_, rfl⟩
    have HVV := Lib.hid hvw
    have HVW : Hid ((if (alook T b.jb).isSome then (bk T b.jb).view else -1) = vw) := by show _ = _; rw [hs, if_pos rfl, hvw]
    clear hs hm hm0 hvw
    by_cases hq : b.jv = vw
    · by_cases hv : b.jv < b.view
      · have d1 : (b.jv != vw) = false := by simpa using hq
        have d2 : decide (b.view ≤ b.jv) = false := by simp; omega
        have HQ : Hid ((decide (b.jv = (bk T b.jb).view) && decide (b.jv < b.view)) = true) := by show _ = _; rw [← HVV.out]; simp [hq]; omega
        cases hk : (alook T (blkD X b)).isSome with
        | true =>
          have HK := Lib.hid hk
          clear hq hv
          go_enter Tryz.func10, Tryz.ntmps10
          go_upto_region 1 with fail
          rw [EX1.out, EN1.out]
          go_wp2_with fail
          refine HH.out.mono ?_
          rintro e w2 ⟨rfl, h⟩
          have H2 := Lib.hid h
          clear h HH c0 c1 c2 c3 c4 c5
          go_upto_region 3 with fail
          refine wp_region_seq (fun x : World => x.heap[nb]? = some (.cells #[.int .i64 b.view, .int .i64 b.author, .int .i64 b.jv, .int .i64 b.jb, .slice ua b.by_.length uc, .slice va b.envs.length vc] 41 (0, 0))) anyW [] [(0, 0, some 15), (1, 0, some 16), (2, 1, some 17), (3, 0, some 18), (4, 0, some 19), (5, 0, some 20), (6, 1, some 21), (7, 2, some 22), (8, 0, some 23), (9, 0, some 24), (10, 0, some 25), (11, 1, some 26), (12, 0, some 27), (13, 0, some 28), (14, 1, some 29), (15, 0, some 30), (16, 0, some 31), (17, 0, some 14)] (by kernel_rfl) (by kernel_rfl) (fun _ _ _ d _ h => by cases d <;> exact h) (H2.out.drew.nth 0 rfl) anyW.i ?_
          repeat (first | (refine seqW (v := ?_) rfl rfl (by kernel_rfl) ?_ ?_; rotate_left; (focus ((intro x; go_simp); try (with_reducible rfl))); try simp only [Act.put, List.setIfInBounds_toArray, List.set_cons_zero, List.set_cons_succ]) | (refine seqS (v := ?_) rfl rfl (by kernel_rfl) ?_ ?_; rotate_left; (focus (intro x hS; first | (obtain ⟨c0, c1, c2, c3, c4, c5⟩ := cells6 hS; go_simp; try (with_reducible rfl)))); try simp only [Act.put, List.setIfInBounds_toArray, List.set_cons_zero, List.set_cons_succ]) | (refine seqX rfl rfl (by kernel_rfl) ?_; try simp only [Act.put, List.setIfInBounds_toArray, List.set_cons_zero, List.set_cons_succ]))
          refine seqL rfl rfl (fun K hK => ?_)
          go_simp
          go_at_call 37
          refine (tree_view b.jb H2.out.drew HM.out).mono ?_
          rintro e w3 ⟨rfl, h3⟩
          rw [HVW.out]
          have H3 := Lib.hid h3
          clear h3
          refine hK.out _ _ anyW.i ?_ (fun _ hSt => ?_)
          · exact H3.out.nth 0 rfl
          clear hSt hK K
          try simp only [Act.put, List.setIfInBounds_toArray, List.set_cons_zero, List.set_cons_succ]
          repeat (first | (refine seqW (v := ?_) rfl rfl (by kernel_rfl) ?_ ?_; rotate_left; (focus ((intro x; go_simp); try (with_reducible rfl))); try simp only [Act.put, List.setIfInBounds_toArray, List.set_cons_zero, List.set_cons_succ]) | (refine seqS (v := ?_) rfl rfl (by kernel_rfl) ?_ ?_; rotate_left; (focus (intro x hS; first | (obtain ⟨c0, c1, c2, c3, c4, c5⟩ := cells6 hS; go_simp; try (with_reducible rfl)))); try simp only [Act.put, List.setIfInBounds_toArray, List.set_cons_zero, List.set_cons_succ]) | (refine seqX rfl rfl (by kernel_rfl) ?_; try simp only [Act.put, List.setIfInBounds_toArray, List.set_cons_zero, List.set_cons_succ]))
          refine seqE ?_
          go_upto_region 5 with fail
          refine wp_region_seq (fun x : World => x.heap[nb]? = some (.cells #[.int .i64 b.view, .int .i64 b.author, .int .i64 b.jv, .int .i64 b.jb, .slice ua b.by_.length uc, .slice va b.envs.length vc] 41 (0, 0)) ∧ x.cell? ⟨pt, 0, none⟩ = some (.pointer (some ⟨p, 0, none⟩))) anyW [] [(0, 0, some 32), (1, 0, some 33), (2, 0, some 34), (3, 1, some 35), (4, 1, some 36), (5, 2, some 37), (6, 0, some 6)] (by kernel_rfl) (by kernel_rfl) (fun _ _ _ d _ h => by cases d <;> exact h) ⟨H3.out.drew.nth 0 rfl, (H3.out.drew.treeCells HM.out).1⟩ anyW.i ?_
          repeat (first | (refine seqW (v := ?_) rfl rfl (by kernel_rfl) ?_ ?_; rotate_left; (focus ((intro x; go_simp); try (with_reducible rfl))); try simp only [Act.put, List.setIfInBounds_toArray, List.set_cons_zero, List.set_cons_succ]) | (refine seqS (v := ?_) rfl rfl (by kernel_rfl) ?_ ?_; rotate_left; (focus (intro x hS; first | (refine (exec_row 41 _ (by rfl) nb (by rfl) _ _ _ _ hS.1 Tryz.underlying41 rfl size6B).trans ?_; with_reducible rfl) | (obtain ⟨hS1, hS2⟩ := hS; go_simp; try (with_reducible rfl)))); try simp only [Act.put, List.setIfInBounds_toArray, List.set_cons_zero, List.set_cons_succ]) | (refine seqX rfl rfl (by kernel_rfl) ?_; try simp only [Act.put, List.setIfInBounds_toArray, List.set_cons_zero, List.set_cons_succ]))
          refine seqL rfl rfl (fun K hK => ?_)
          go_simp
          go_at_call 38
          refine (blok_digest b ua uc va vc HB.out.push HWF.out H3.out.drew HM0.out HTL.out).mono ?_
          rintro e w4 ⟨rfl, h4⟩
          have H4 := Lib.hid h4
          clear h4
          refine hK.out _ _ anyW.i ?_ (fun _ hSt => ?_)
          · exact ⟨H4.out.nth 0 rfl, (H4.out.treeCells (upd_ne (by decide) HM.out)).1⟩
          clear hSt hK K
          try simp only [Act.put, List.setIfInBounds_toArray, List.set_cons_zero, List.set_cons_succ]
          repeat (first | (refine seqW (v := ?_) rfl rfl (by kernel_rfl) ?_ ?_; rotate_left; (focus ((intro x; go_simp); try (with_reducible rfl))); try simp only [Act.put, List.setIfInBounds_toArray, List.set_cons_zero, List.set_cons_succ]) | (refine seqS (v := ?_) rfl rfl (by kernel_rfl) ?_ ?_; rotate_left; (focus (intro x hS; first | (refine (exec_row 41 _ (by rfl) nb (by rfl) _ _ _ _ hS.1 Tryz.underlying41 rfl size6B).trans ?_; with_reducible rfl) | (obtain ⟨hS1, hS2⟩ := hS; go_simp; try (with_reducible rfl)))); try simp only [Act.put, List.setIfInBounds_toArray, List.set_cons_zero, List.set_cons_succ]) | (refine seqX rfl rfl (by kernel_rfl) ?_; try simp only [Act.put, List.setIfInBounds_toArray, List.set_cons_zero, List.set_cons_succ]))
          refine seqE ?_
          have HH3 := Lib.hid (tree_has (blkD X b) H4.out (upd_ne (by decide) HM.out))
          rw [hk] at HH3
          clear hk
          go_wp2_with fail
          refine HH3.out.mono ?_
          rintro e w5 ⟨rfl, h⟩
          have H5 := Lib.hid h
          clear h HH3
          go_wp2_with fail
          go_ret2
          exact addTo3 HS.out HQ.out HK.out ⟨rfl, H5.out.tail⟩
        | false =>
          have HK := Lib.hid hk
          clear hq hv
          go_enter Tryz.func10, Tryz.ntmps10
          go_upto_region 1 with fail
          rw [EX1.out, EN1.out]
          go_wp2_with fail
          refine HH.out.mono ?_
          rintro e w2 ⟨rfl, h⟩
          have H2 := Lib.hid h
          clear h HH c0 c1 c2 c3 c4 c5
          go_upto_region 3 with fail
          refine wp_region_seq (fun x : World => x.heap[nb]? = some (.cells #[.int .i64 b.view, .int .i64 b.author, .int .i64 b.jv, .int .i64 b.jb, .slice ua b.by_.length uc, .slice va b.envs.length vc] 41 (0, 0))) anyW [] [(0, 0, some 15), (1, 0, some 16), (2, 1, some 17), (3, 0, some 18), (4, 0, some 19), (5, 0, some 20), (6, 1, some 21), (7, 2, some 22), (8, 0, some 23), (9, 0, some 24), (10, 0, some 25), (11, 1, some 26), (12, 0, some 27), (13, 0, some 28), (14, 1, some 29), (15, 0, some 30), (16, 0, some 31), (17, 0, some 14)] (by kernel_rfl) (by kernel_rfl) (fun _ _ _ d _ h => by cases d <;> exact h) (H2.out.drew.nth 0 rfl) anyW.i ?_
          repeat (first | (refine seqW (v := ?_) rfl rfl (by kernel_rfl) ?_ ?_; rotate_left; (focus ((intro x; go_simp); try (with_reducible rfl))); try simp only [Act.put, List.setIfInBounds_toArray, List.set_cons_zero, List.set_cons_succ]) | (refine seqS (v := ?_) rfl rfl (by kernel_rfl) ?_ ?_; rotate_left; (focus (intro x hS; first | (obtain ⟨c0, c1, c2, c3, c4, c5⟩ := cells6 hS; go_simp; try (with_reducible rfl)))); try simp only [Act.put, List.setIfInBounds_toArray, List.set_cons_zero, List.set_cons_succ]) | (refine seqX rfl rfl (by kernel_rfl) ?_; try simp only [Act.put, List.setIfInBounds_toArray, List.set_cons_zero, List.set_cons_succ]))
          refine seqL rfl rfl (fun K hK => ?_)
          go_simp
          go_at_call 37
          refine (tree_view b.jb H2.out.drew HM.out).mono ?_
          rintro e w3 ⟨rfl, h3⟩
          rw [HVW.out]
          have H3 := Lib.hid h3
          clear h3
          refine hK.out _ _ anyW.i ?_ (fun _ hSt => ?_)
          · exact H3.out.nth 0 rfl
          clear hSt hK K
          try simp only [Act.put, List.setIfInBounds_toArray, List.set_cons_zero, List.set_cons_succ]
          repeat (first | (refine seqW (v := ?_) rfl rfl (by kernel_rfl) ?_ ?_; rotate_left; (focus ((intro x; go_simp); try (with_reducible rfl))); try simp only [Act.put, List.setIfInBounds_toArray, List.set_cons_zero, List.set_cons_succ]) | (refine seqS (v := ?_) rfl rfl (by kernel_rfl) ?_ ?_; rotate_left; (focus (intro x hS; first | (obtain ⟨c0, c1, c2, c3, c4, c5⟩ := cells6 hS; go_simp; try (with_reducible rfl)))); try simp only [Act.put, List.setIfInBounds_toArray, List.set_cons_zero, List.set_cons_succ]) | (refine seqX rfl rfl (by kernel_rfl) ?_; try simp only [Act.put, List.setIfInBounds_toArray, List.set_cons_zero, List.set_cons_succ]))
          refine seqE ?_
          go_upto_region 5 with fail
          refine wp_region_seq (fun x : World => x.heap[nb]? = some (.cells #[.int .i64 b.view, .int .i64 b.author, .int .i64 b.jv, .int .i64 b.jb, .slice ua b.by_.length uc, .slice va b.envs.length vc] 41 (0, 0)) ∧ x.cell? ⟨pt, 0, none⟩ = some (.pointer (some ⟨p, 0, none⟩))) anyW [] [(0, 0, some 32), (1, 0, some 33), (2, 0, some 34), (3, 1, some 35), (4, 1, some 36), (5, 2, some 37), (6, 0, some 6)] (by kernel_rfl) (by kernel_rfl) (fun _ _ _ d _ h => by cases d <;> exact h) ⟨H3.out.drew.nth 0 rfl, (H3.out.drew.treeCells HM.out).1⟩ anyW.i ?_
          repeat (first | (refine seqW (v := ?_) rfl rfl (by kernel_rfl) ?_ ?_; rotate_left; (focus ((intro x; go_simp); try (with_reducible rfl))); try simp only [Act.put, List.setIfInBounds_toArray, List.set_cons_zero, List.set_cons_succ]) | (refine seqS (v := ?_) rfl rfl (by kernel_rfl) ?_ ?_; rotate_left; (focus (intro x hS; first | (refine (exec_row 41 _ (by rfl) nb (by rfl) _ _ _ _ hS.1 Tryz.underlying41 rfl size6B).trans ?_; with_reducible rfl) | (obtain ⟨hS1, hS2⟩ := hS; go_simp; try (with_reducible rfl)))); try simp only [Act.put, List.setIfInBounds_toArray, List.set_cons_zero, List.set_cons_succ]) | (refine seqX rfl rfl (by kernel_rfl) ?_; try simp only [Act.put, List.setIfInBounds_toArray, List.set_cons_zero, List.set_cons_succ]))
          refine seqL rfl rfl (fun K hK => ?_)
          go_simp
          go_at_call 38
          refine (blok_digest b ua uc va vc HB.out.push HWF.out H3.out.drew HM0.out HTL.out).mono ?_
          rintro e w4 ⟨rfl, h4⟩
          have H4 := Lib.hid h4
          clear h4
          refine hK.out _ _ anyW.i ?_ (fun _ hSt => ?_)
          · exact ⟨H4.out.nth 0 rfl, (H4.out.treeCells (upd_ne (by decide) HM.out)).1⟩
          clear hSt hK K
          try simp only [Act.put, List.setIfInBounds_toArray, List.set_cons_zero, List.set_cons_succ]
          repeat (first | (refine seqW (v := ?_) rfl rfl (by kernel_rfl) ?_ ?_; rotate_left; (focus ((intro x; go_simp); try (with_reducible rfl))); try simp only [Act.put, List.setIfInBounds_toArray, List.set_cons_zero, List.set_cons_succ]) | (refine seqS (v := ?_) rfl rfl (by kernel_rfl) ?_ ?_; rotate_left; (focus (intro x hS; first | (refine (exec_row 41 _ (by rfl) nb (by rfl) _ _ _ _ hS.1 Tryz.underlying41 rfl size6B).trans ?_; with_reducible rfl) | (obtain ⟨hS1, hS2⟩ := hS; go_simp; try (with_reducible rfl)))); try simp only [Act.put, List.setIfInBounds_toArray, List.set_cons_zero, List.set_cons_succ]) | (refine seqX rfl rfl (by kernel_rfl) ?_; try simp only [Act.put, List.setIfInBounds_toArray, List.set_cons_zero, List.set_cons_succ]))
          refine seqE ?_
          have HH3 := Lib.hid (tree_has (blkD X b) H4.out (upd_ne (by decide) HM.out))
          rw [hk] at HH3
          have HKN : Hid (alook T (blkD X b) = none) := by show _ = _; simpa using hk
          clear hk
          go_wp2_with fail
          refine HH3.out.mono ?_
          rintro e w5 ⟨rfl, h⟩
          have H5 := Lib.hid h
          clear h HH3
          obtain ⟨mb, h1⟩ := (H5.out.drew.lift 1 (upd_ne (by decide) HM.out)).open
          have HO : Hid (Sys w5.drew (upd (upd m 0 (worldT p d (blkX X b))) 1 emp) (blk pt (.cells #[.pointer (some ⟨p, 0, none⟩), .int .i64 R, .map (some mb)] 81 (0, 0)) :: blocksT mb T :: blk nb (.cells #[.int .i64 b.view, .int .i64 b.author, .int .i64 b.jv, .int .i64 b.jb, .slice ua b.by_.length uc, .slice va b.envs.length vc] 41 (0, 0)) :: l)) := h1
          have HBS := Lib.hid (HB.out _ _ h1.tail.tail.tail)
          clear h1
          go_upto_region 8 with fail
          refine wp_region_seq (fun x : World => x.heap[nb]? = some (.cells #[.int .i64 b.view, .int .i64 b.author, .int .i64 b.jv, .int .i64 b.jb, .slice ua b.by_.length uc, .slice va b.envs.length vc] 41 (0, 0)) ∧ x.cell? ⟨pt, 2, none⟩ = some (.map (some mb))) anyW [] [(0, 0, some 42), (1, 0, some 43), (2, 0, some 44), (3, 1, some 45), (4, 0, some 46), (5, 1, some 47), (6, 2, some 48), (7, 2, none)] (by kernel_rfl) (by kernel_rfl) (fun _ _ _ d _ h => by cases d <;> exact h) ⟨HO.out.nth 2 rfl, cell_of_blk (HO.out.nth 0 rfl) 2⟩ anyW.i ?_
          repeat (first | (refine seqW (v := ?_) rfl rfl (by kernel_rfl) ?_ ?_; rotate_left; (focus ((intro x; go_simp); try (with_reducible rfl))); try simp only [Act.put, List.setIfInBounds_toArray, List.set_cons_zero, List.set_cons_succ]) | (refine seqS (v := ?_) rfl rfl (by kernel_rfl) ?_ ?_; rotate_left; (focus (intro x hS; first | (refine (exec_row 41 _ (by rfl) nb (by rfl) _ _ _ _ hS.1 Tryz.underlying41 rfl size6B).trans ?_; with_reducible rfl) | (obtain ⟨hS1, hS2⟩ := hS; go_simp; try (with_reducible rfl)))); try simp only [Act.put, List.setIfInBounds_toArray, List.set_cons_zero, List.set_cons_succ]) | (refine seqX rfl rfl (by kernel_rfl) ?_; try simp only [Act.put, List.setIfInBounds_toArray, List.set_cons_zero, List.set_cons_succ]))
          refine seqL rfl rfl (fun K hK => ?_)
          go_simp
          go_at_call 39
          refine (blok_still anyK _ b _ HBS.out).mono ?_
          rintro e w6 ⟨cs', rfl, hbv, hB6⟩
          obtain ⟨ua', uc', va', vc', rfl⟩ := hbv.val
          have h6 := HO.out.pushBlk hB6 hbv
          have H6 := Lib.hid h6
          obtain ⟨w7, hu7, h7⟩ := blocksPut ((h6.front 2 rfl)) HKN.out
          have hu8 := hu7
          have H7 := Lib.hid (h7.front 1 rfl)
          clear h6 h7 hu7 hB6 hbv
          refine hK.out _ _ anyW.i ?_ (fun _ hSt => ?_)
          · exact ⟨H6.out.nth 3 rfl, cell_of_blk (H6.out.nth 1 rfl) 2⟩
          clear hSt hK K
          try simp only [Act.put, List.setIfInBounds_toArray, List.set_cons_zero, List.set_cons_succ]
          refine seqL rfl rfl (fun K hK => ?_)
          go_simp
          refine hK.out _ _ anyW.i ?_ (fun _ hSt => ?_)
          · exact ⟨H7.out.nth 2 rfl, cell_of_blk (H7.out.nth 0 rfl) 2⟩
          clear hSt hK K
          try simp only [Act.put, List.setIfInBounds_toArray, List.set_cons_zero, List.set_cons_succ]
          refine seqE ?_
          go_wp2_with fail
          go_ret2
          exact addTo4 HS.out HQ.out HK.out ⟨rfl, (Sys.put 1 (Sys.close (f := treeF pt p R _) mb H7.out)).tail⟩
      · have d1 : (b.jv != vw) = false := by simpa using hq
        have d2 : decide (b.view ≤ b.jv) = true := by simp; omega
        have HQ : Hid ((decide (b.jv = (bk T b.jb).view) && decide (b.jv < b.view)) = false) := by show _ = _; rw [← HVV.out]; simp [hq]; omega
        clear hq hv
        go_enter Tryz.func10, Tryz.ntmps10
        go_upto_region 1 with fail
        rw [EX1.out, EN1.out]
        go_wp2_with fail
        refine HH.out.mono ?_
        rintro e w2 ⟨rfl, h⟩
        have H2 := Lib.hid h
        clear h HH c0 c1 c2 c3 c4 c5
        go_upto_region 3 with fail
        refine wp_region_seq (fun x : World => x.heap[nb]? = some (.cells #[.int .i64 b.view, .int .i64 b.author, .int .i64 b.jv, .int .i64 b.jb, .slice ua b.by_.length uc, .slice va b.envs.length vc] 41 (0, 0))) anyW [] [(0, 0, some 15), (1, 0, some 16), (2, 1, some 17), (3, 0, some 18), (4, 0, some 19), (5, 0, some 20), (6, 1, some 21), (7, 2, some 22), (8, 0, some 23), (9, 0, some 24), (10, 0, some 25), (11, 1, some 26), (12, 0, some 27), (13, 0, some 28), (14, 1, some 29), (15, 0, some 30), (16, 0, some 31), (17, 0, some 14)] (by kernel_rfl) (by kernel_rfl) (fun _ _ _ d _ h => by cases d <;> exact h) (H2.out.drew.nth 0 rfl) anyW.i ?_
        repeat (first | (refine seqW (v := ?_) rfl rfl (by kernel_rfl) ?_ ?_; rotate_left; (focus ((intro x; go_simp); try (with_reducible rfl))); try simp only [Act.put, List.setIfInBounds_toArray, List.set_cons_zero, List.set_cons_succ]) | (refine seqS (v := ?_) rfl rfl (by kernel_rfl) ?_ ?_; rotate_left; (focus (intro x hS; first | (obtain ⟨c0, c1, c2, c3, c4, c5⟩ := cells6 hS; go_simp; try (with_reducible rfl)))); try simp only [Act.put, List.setIfInBounds_toArray, List.set_cons_zero, List.set_cons_succ]) | (refine seqX rfl rfl (by kernel_rfl) ?_; try simp only [Act.put, List.setIfInBounds_toArray, List.set_cons_zero, List.set_cons_succ]))
        refine seqL rfl rfl (fun K hK => ?_)
        go_simp
        go_at_call 37
        refine (tree_view b.jb H2.out.drew HM.out).mono ?_
        rintro e w3 ⟨rfl, h3⟩
        rw [HVW.out]
        have H3 := Lib.hid h3
        clear h3
        refine hK.out _ _ anyW.i ?_ (fun _ hSt => ?_)
        · exact H3.out.nth 0 rfl
        clear hSt hK K
        try simp only [Act.put, List.setIfInBounds_toArray, List.set_cons_zero, List.set_cons_succ]
        repeat (first | (refine seqW (v := ?_) rfl rfl (by kernel_rfl) ?_ ?_; rotate_left; (focus ((intro x; go_simp); try (with_reducible rfl))); try simp only [Act.put, List.setIfInBounds_toArray, List.set_cons_zero, List.set_cons_succ]) | (refine seqS (v := ?_) rfl rfl (by kernel_rfl) ?_ ?_; rotate_left; (focus (intro x hS; first | (obtain ⟨c0, c1, c2, c3, c4, c5⟩ := cells6 hS; go_simp; try (with_reducible rfl)))); try simp only [Act.put, List.setIfInBounds_toArray, List.set_cons_zero, List.set_cons_succ]) | (refine seqX rfl rfl (by kernel_rfl) ?_; try simp only [Act.put, List.setIfInBounds_toArray, List.set_cons_zero, List.set_cons_succ]))
        refine seqE ?_
        go_wp2_with fail
        go_ret2
        exact addTo2 HS.out HQ.out ⟨rfl, H3.out.tail⟩
    · have d1 : (b.jv != vw) = true := by simpa using hq
      have HQ : Hid ((decide (b.jv = (bk T b.jb).view) && decide (b.jv < b.view)) = false) := by show _ = _; rw [← HVV.out]; simp [hq]
      clear hq
      go_enter Tryz.func10, Tryz.ntmps10
      go_upto_region 1 with fail
      rw [EX1.out, EN1.out]
      go_wp2_with fail
      refine HH.out.mono ?_
      rintro e w2 ⟨rfl, h⟩
      have H2 := Lib.hid h
      clear h HH c0 c1 c2 c3 c4 c5
      go_upto_region 3 with fail
      refine wp_region_seq (fun x : World => x.heap[nb]? = some (.cells #[.int .i64 b.view, .int .i64 b.author, .int .i64 b.jv, .int .i64 b.jb, .slice ua b.by_.length uc, .slice va b.envs.length vc] 41 (0, 0))) anyW [] [(0, 0, some 15), (1, 0, some 16), (2, 1, some 17), (3, 0, some 18), (4, 0, some 19), (5, 0, some 20), (6, 1, some 21), (7, 2, some 22), (8, 0, some 23), (9, 0, some 24), (10, 4, some 25), (11, 4, some 26), (12, 4, some 27), (13, 4, some 28), (14, 4, some 29), (15, 4, some 30), (16, 0, some 31), (17, 0, some 14)] (by kernel_rfl) (by kernel_rfl) (fun _ _ _ d _ h => by cases d <;> exact h) (H2.out.drew.nth 0 rfl) anyW.i ?_
      repeat (first | (refine seqW (v := ?_) rfl rfl (by kernel_rfl) ?_ ?_; rotate_left; (focus ((intro x; go_simp); try (with_reducible rfl))); try simp only [Act.put, List.setIfInBounds_toArray, List.set_cons_zero, List.set_cons_succ]) | (refine seqS (v := ?_) rfl rfl (by kernel_rfl) ?_ ?_; rotate_left; (focus (intro x hS; first | (obtain ⟨c0, c1, c2, c3, c4, c5⟩ := cells6 hS; go_simp; try (with_reducible rfl)))); try simp only [Act.put, List.setIfInBounds_toArray, List.set_cons_zero, List.set_cons_succ]) | (refine seqX rfl rfl (by kernel_rfl) ?_; try simp only [Act.put, List.setIfInBounds_toArray, List.set_cons_zero, List.set_cons_succ]))
      refine seqL rfl rfl (fun K hK => ?_)
      go_simp
      go_at_call 37
      refine (tree_view b.jb H2.out.drew HM.out).mono ?_
      rintro e w3 ⟨rfl, h3⟩
      rw [HVW.out]
      have H3 := Lib.hid h3
      clear h3
      refine hK.out _ _ anyW.i ?_ (fun _ hSt => ?_)
      · exact H3.out.nth 0 rfl
      clear hSt hK K
      try simp only [Act.put, List.setIfInBounds_toArray, List.set_cons_zero, List.set_cons_succ]
      repeat (first | (refine seqW (v := ?_) rfl rfl (by kernel_rfl) ?_ ?_; rotate_left; (focus ((intro x; go_simp); try (with_reducible rfl))); try simp only [Act.put, List.setIfInBounds_toArray, List.set_cons_zero, List.set_cons_succ]) | (refine seqS (v := ?_) rfl rfl (by kernel_rfl) ?_ ?_; rotate_left; (focus (intro x hS; first | (obtain ⟨c0, c1, c2, c3, c4, c5⟩ := cells6 hS; go_simp; try (with_reducible rfl)))); try simp only [Act.put, List.setIfInBounds_toArray, List.set_cons_zero, List.set_cons_succ]) | (refine seqX rfl rfl (by kernel_rfl) ?_; try simp only [Act.put, List.setIfInBounds_toArray, List.set_cons_zero, List.set_cons_succ]))
      refine seqE ?_
      go_wp2_with fail
      go_ret2
      exact addTo2 HS.out HQ.out ⟨rfl, H3.out.tail⟩
end
end Go.Proofs.YtcfhkpjheemkgaaGreat
