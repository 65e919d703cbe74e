/-
  Digests: the arena of rows of bytes.
-/
import Derived.Test.YtcfhkpjheemkgaaWire
namespace Go.Proofs.Ytcfhkpjheemkgaa
set_option linter.unusedSectionVars false
set_option linter.unusedSimpArgs false
set_option linter.unusedVariables false
open Go.RowKit Go.MapKept

def arena (p : Nat) (T : List (List UInt8)) : Thing := ex fun x : Value × Nat => [blk p (.cells #[x.1, .map (some x.2)] 165 (0, 0)), mapT strKey x.2 (tmap T), own 9 1 x.1 T.length (T.map fun t => .string (bstr t))]
theorem term_new {w : World} {m : Nat → Thing} {l : List Thing} (h : Sys w m l) : Calls Try.prog 57 #[] w fun e w' => ∃ p, e = .returned (.pointer (some ⟨p, 0, none⟩)) ∧ Sys w' m (arena p [] :: l) := by
  have H := Lib.hid h
  clear h
  have hmm := @run_makeMap Try.prog
  go_enter Try.func57, Try.ntmps57
  go_wp2_with fail
  go_ret
  have h1 : Sys (w.alloc (.map #[] 0)) m (mapT strKey w.heap.size (tmap []) :: own 9 1 (.slice none 0 0) 0 [] :: l) :=
    (H.out.push (F := fun _ => False) (t := own 9 1 (.slice none 0 0) 0 []) (Chg.refl _ _) ⟨Own.nil _ _ _, by funext k; simp [Value.ownBlock]⟩ (fun _ h => h.elim)).push ((Chg.refl _ _).alloc _) (F := (· = w.heap.size)) ⟨MapOf.made w _ rfl, rfl⟩ (fun k e => by have e : k = _ := e; omega)
  exact ⟨_, rfl, Sys.close (.slice none 0 0, w.heap.size) (h1.alloc _ (by simp))⟩
set_option maxRecDepth 100000 in
set_option maxHeartbeats 4000000 in
theorem term_digest {w : World} {m : Nat → Thing} {l : List Thing} {p : Nat} {T : List (List UInt8)} (t : List UInt8) (a : Option Addr) (cap : Nat) (hb : ∀ w', Sys w' m l → BytesAt w' a t) (h : Sys w m (arena p T :: l)) (hT : T.length ≤ 1000000000) :
    Calls Try.prog 96 #[.pointer (some ⟨p, 0, none⟩), .slice a t.length cap] w fun e w' => e = .returned (.int .i64 (dg T t)) ∧ Sys w' m (arena p (addT T t) :: l) := by
  obtain ⟨⟨v, mb⟩, h⟩ := h.open
  replace h : Sys w m (blk p (.cells #[v, .map (some mb)] 165 (0, 0)) :: mapT strKey mb (tmap T) :: own 9 1 v T.length (T.map fun t => .string (bstr t)) :: l) := h
  obtain ⟨ii, hi9, hz9, hs9, hby9⟩ := info_parts' (P := Try.prog) (e := 9) (z := some (.string ⟨#[]⟩)) (s := 1) (b := 16) (by kernel_rfl)
  have HI9 := Lib.hid hi9
  have HS9 := Lib.hid hs9
  have HZ9 := Lib.hid hz9
  have HBY9 := Lib.hid hby9
  have HB := Lib.hid hb
  have HN := Lib.hid hT
  obtain ⟨k, HK⟩ : ∃ k, Hid (t.length = k) := ⟨_, rfl⟩
  rw [HK.out]
  have hS1 : Sys w.drew m (blk p (.cells #[v, .map (some mb)] 165 (0, 0)) :: mapT strKey mb (tmap T) :: l) := (h.drew.perm (l' := own 9 1 v T.length (T.map fun t => .string (bstr t)) :: blk p (.cells #[v, .map (some mb)] 165 (0, 0)) :: mapT strKey mb (tmap T) :: l) ((List.Perm.cons _ (List.Perm.swap _ _ _)).trans (List.Perm.swap _ _ _))).tail
  have H := Lib.hid h
  clear h hb hT hi9 hz9 hs9 hby9
  by_cases hmem : t ∈ T
  · have hpos := (dg_pos T t).1
    have hd : ((dg T t : Int) == 0) = false := by simp; omega
    have hm2 : (if t ∈ T then dg T t else 0) = dg T t := if_pos hmem
    have HA : Hid (addT T t = T) := if_pos hmem
    clear hmem hpos
    go_enter Try.func96, Try.ntmps96
    go_wp2_with fail
    refine wp_region_stage (fun x : World => Sys x m (blk p (.cells #[v, .map (some mb)] 165 (0, 0)) :: mapT strKey mb (tmap T) :: l)) [] (by kernel_rfl) ?_
    refine takeW 0 (some 6) (v := ?_) rfl (by rfl) (by kernel_rfl) (by kernel_rfl) (by kernel_rfl) (fun _ _ _ h => h) (by kernel_rfl) (by kernel_rfl) ?_ (Stage.still (by assumption)) ?_
    rotate_left
    · (intro w; go_simp; try (with_reducible rfl))
    try simp only [Act.put, List.setIfInBounds_toArray, List.set_cons_zero, List.set_cons_succ]
    refine takeW 1 (some 7) (v := ?_) rfl (by rfl) (by kernel_rfl) (by kernel_rfl) (by kernel_rfl) (fun _ _ _ h => h) (by kernel_rfl) (by kernel_rfl) ?_ (Stage.still (by assumption)) ?_
    rotate_left
    · (intro w; go_simp; try (with_reducible rfl))
    try simp only [Act.put, List.setIfInBounds_toArray, List.set_cons_zero, List.set_cons_succ]
    refine takeW 2 (some 8) (v := ?_) rfl (by rfl) (by kernel_rfl) (by kernel_rfl) (by kernel_rfl) (fun _ _ _ h => h) (by kernel_rfl) (by kernel_rfl) ?_ (Stage.still (by assumption)) ?_
    rotate_left
    · (intro w; go_simp; try (with_reducible rfl))
    try simp only [Act.put, List.setIfInBounds_toArray, List.set_cons_zero, List.set_cons_succ]
    refine takeS 3 (some 9) (v := ?_) rfl (by rfl) (by kernel_rfl) (by kernel_rfl) (by kernel_rfl) (fun _ _ _ h => h) (by kernel_rfl) (by kernel_rfl) (by kernel_rfl) ?_ (by assumption) ?_
    rotate_left
    · (intro w hSw; have c : w.cell? ⟨p, 1, none⟩ = some (.map (some mb)) := cell_of_blk hSw.getBlk 1; clear hSw; go_simp; try (with_reducible rfl))
    try simp only [Act.put, List.setIfInBounds_toArray, List.set_cons_zero, List.set_cons_succ]
    refine takeW 4 (some 10) (v := ?_) rfl (by rfl) (by kernel_rfl) (by kernel_rfl) (by kernel_rfl) (fun _ _ _ h => h) (by kernel_rfl) (by kernel_rfl) ?_ (Stage.still (by assumption)) ?_
    rotate_left
    · (intro w; go_simp; try (with_reducible rfl))
    try simp only [Act.put, List.setIfInBounds_toArray, List.set_cons_zero, List.set_cons_succ]
    refine takeS 5 (some 11) (v := ?_) rfl (by rfl) (by kernel_rfl) (by kernel_rfl) (by kernel_rfl) (fun _ _ _ h => h) (by kernel_rfl) (by kernel_rfl) (by kernel_rfl) ?_ (by assumption) ?_
    rotate_left
    · (intro w hSw; have e := bytes_string (HB.out w hSw.tail.tail) cap; rw [HK.out] at e; clear hSw; go_simp; try (with_reducible rfl))
    try simp only [Act.put, List.setIfInBounds_toArray, List.set_cons_zero, List.set_cons_succ]
    refine takeS 6 (some 12) (v := ?_) rfl (by rfl) (by kernel_rfl) (by kernel_rfl) (by kernel_rfl) (fun _ _ _ h => h) (by kernel_rfl) (by kernel_rfl) (by kernel_rfl) ?_ (by assumption) ?_
    rotate_left
    · (intro w hSw; have e := hSw.swap.getMap.lookup (P := Try.prog) Try.underlying162 Try.underlying9 (zeroInt w) (bstr t) false; rw [tmap_look] at e; clear hSw; simp only [Bool.false_eq_true, if_false, strKey, bstr] at e; go_simp; try (with_reducible rfl))
    try simp only [Act.put, List.setIfInBounds_toArray, List.set_cons_zero, List.set_cons_succ]
    refine takeW 7 (some 5) (v := ?_) rfl (by rfl) (by kernel_rfl) (by kernel_rfl) (by kernel_rfl) (fun _ _ _ h => h) (by kernel_rfl) (by kernel_rfl) ?_ (Stage.still (by assumption)) ?_
    rotate_left
    · (intro w; go_simp; try (with_reducible rfl))
    try simp only [Act.put, List.setIfInBounds_toArray, List.set_cons_zero, List.set_cons_succ]
    refine doneT (by kernel_rfl) ?_ _
    go_wp2_with fail
    go_ret
    exact ⟨rfl, by rw [HA.out]; exact Sys.close (v, mb) H.out.drew⟩
  · have hm2 : (if t ∈ T then dg T t else 0) = 0 := if_neg hmem
    have HM := Lib.hid hmem
    clear hmem
    go_enter Try.func96, Try.ntmps96
    go_wp2_with fail
    refine wp_region_stage (fun x : World => Sys x m (blk p (.cells #[v, .map (some mb)] 165 (0, 0)) :: mapT strKey mb (tmap T) :: l)) [] (by kernel_rfl) ?_
    refine takeW 0 (some 6) (v := ?_) rfl (by rfl) (by kernel_rfl) (by kernel_rfl) (by kernel_rfl) (fun _ _ _ h => h) (by kernel_rfl) (by kernel_rfl) ?_ (Stage.still (by assumption)) ?_
    rotate_left
    · (intro w; go_simp; try (with_reducible rfl))
    try simp only [Act.put, List.setIfInBounds_toArray, List.set_cons_zero, List.set_cons_succ]
    refine takeW 1 (some 7) (v := ?_) rfl (by rfl) (by kernel_rfl) (by kernel_rfl) (by kernel_rfl) (fun _ _ _ h => h) (by kernel_rfl) (by kernel_rfl) ?_ (Stage.still (by assumption)) ?_
    rotate_left
    · (intro w; go_simp; try (with_reducible rfl))
    try simp only [Act.put, List.setIfInBounds_toArray, List.set_cons_zero, List.set_cons_succ]
    refine takeW 2 (some 8) (v := ?_) rfl (by rfl) (by kernel_rfl) (by kernel_rfl) (by kernel_rfl) (fun _ _ _ h => h) (by kernel_rfl) (by kernel_rfl) ?_ (Stage.still (by assumption)) ?_
    rotate_left
    · (intro w; go_simp; try (with_reducible rfl))
    try simp only [Act.put, List.setIfInBounds_toArray, List.set_cons_zero, List.set_cons_succ]
    refine takeS 3 (some 9) (v := ?_) rfl (by rfl) (by kernel_rfl) (by kernel_rfl) (by kernel_rfl) (fun _ _ _ h => h) (by kernel_rfl) (by kernel_rfl) (by kernel_rfl) ?_ (by assumption) ?_
    rotate_left
    · (intro w hSw; have c : w.cell? ⟨p, 1, none⟩ = some (.map (some mb)) := cell_of_blk hSw.getBlk 1; clear hSw; go_simp; try (with_reducible rfl))
    try simp only [Act.put, List.setIfInBounds_toArray, List.set_cons_zero, List.set_cons_succ]
    refine takeW 4 (some 10) (v := ?_) rfl (by rfl) (by kernel_rfl) (by kernel_rfl) (by kernel_rfl) (fun _ _ _ h => h) (by kernel_rfl) (by kernel_rfl) ?_ (Stage.still (by assumption)) ?_
    rotate_left
    · (intro w; go_simp; try (with_reducible rfl))
    try simp only [Act.put, List.setIfInBounds_toArray, List.set_cons_zero, List.set_cons_succ]
    refine takeS 5 (some 11) (v := ?_) rfl (by rfl) (by kernel_rfl) (by kernel_rfl) (by kernel_rfl) (fun _ _ _ h => h) (by kernel_rfl) (by kernel_rfl) (by kernel_rfl) ?_ (by assumption) ?_
    rotate_left
    · (intro w hSw; have e := bytes_string (HB.out w hSw.tail.tail) cap; rw [HK.out] at e; clear hSw; go_simp; try (with_reducible rfl))
    try simp only [Act.put, List.setIfInBounds_toArray, List.set_cons_zero, List.set_cons_succ]
    refine takeS 6 (some 12) (v := ?_) rfl (by rfl) (by kernel_rfl) (by kernel_rfl) (by kernel_rfl) (fun _ _ _ h => h) (by kernel_rfl) (by kernel_rfl) (by kernel_rfl) ?_ (by assumption) ?_
    rotate_left
    · (intro w hSw; have e := hSw.swap.getMap.lookup (P := Try.prog) Try.underlying162 Try.underlying9 (zeroInt w) (bstr t) false; rw [tmap_look] at e; clear hSw; simp only [Bool.false_eq_true, if_false, strKey, bstr] at e; go_simp; try (with_reducible rfl))
    try simp only [Act.put, List.setIfInBounds_toArray, List.set_cons_zero, List.set_cons_succ]
    refine takeW 7 (some 5) (v := ?_) rfl (by rfl) (by kernel_rfl) (by kernel_rfl) (by kernel_rfl) (fun _ _ _ h => h) (by kernel_rfl) (by kernel_rfl) ?_ (Stage.still (by assumption)) ?_
    rotate_left
    · (intro w; go_simp; try (with_reducible rfl))
    try simp only [Act.put, List.setIfInBounds_toArray, List.set_cons_zero, List.set_cons_succ]
    refine doneT (by kernel_rfl) ?_ _
    clear hS1
    have HSO : Hid (Sys w.drew.drew m (own 9 1 v T.length (T.map fun t => .string (bstr t)) :: blk p (.cells #[v, .map (some mb)] 165 (0, 0)) :: mapT strKey mb (tmap T) :: l)) := H.out.drew.drew.perm ((List.Perm.cons _ (List.Perm.swap _ _ _)).trans (List.Perm.swap _ _ _))
    have hS1 := HSO.out.tail
    clear H
    generalize w.drew = w1 at *
    go_wp2_with fail
    refine wp_region_stage (fun x : World => Sys x m (blk p (.cells #[v, .map (some mb)] 165 (0, 0)) :: mapT strKey mb (tmap T) :: l)) [11] (by kernel_rfl) ?_
    refine takeW 0 (some 15) (v := ?_) rfl (by rfl) (by kernel_rfl) (by kernel_rfl) (by kernel_rfl) (fun _ _ _ h => h) (by kernel_rfl) (by kernel_rfl) ?_ (Stage.still (by assumption)) ?_
    rotate_left
    · (intro w; go_simp; try (with_reducible rfl))
    try simp only [Act.put, List.setIfInBounds_toArray, List.set_cons_zero, List.set_cons_succ]
    refine takeW 1 (some 16) (v := ?_) rfl (by rfl) (by kernel_rfl) (by kernel_rfl) (by kernel_rfl) (fun _ _ _ h => h) (by kernel_rfl) (by kernel_rfl) ?_ (Stage.still (by assumption)) ?_
    rotate_left
    · (intro w; go_simp; try (with_reducible rfl))
    try simp only [Act.put, List.setIfInBounds_toArray, List.set_cons_zero, List.set_cons_succ]
    refine takeW 2 (some 17) (v := ?_) rfl (by rfl) (by kernel_rfl) (by kernel_rfl) (by kernel_rfl) (fun _ _ _ h => h) (by kernel_rfl) (by kernel_rfl) ?_ (Stage.still (by assumption)) ?_
    rotate_left
    · (intro w; go_simp; try (with_reducible rfl))
    try simp only [Act.put, List.setIfInBounds_toArray, List.set_cons_zero, List.set_cons_succ]
    refine takeW 3 (some 18) (v := ?_) rfl (by rfl) (by kernel_rfl) (by kernel_rfl) (by kernel_rfl) (fun _ _ _ h => h) (by kernel_rfl) (by kernel_rfl) ?_ (Stage.still (by assumption)) ?_
    rotate_left
    · (intro w; go_simp; try (with_reducible rfl))
    try simp only [Act.put, List.setIfInBounds_toArray, List.set_cons_zero, List.set_cons_succ]
    refine takeS 4 (some 19) (v := ?_) rfl (by rfl) (by kernel_rfl) (by kernel_rfl) (by kernel_rfl) (fun _ _ _ h => h) (by kernel_rfl) (by kernel_rfl) (by kernel_rfl) ?_ (by assumption) ?_
    rotate_left
    · (intro w hSw; have c : w.cell? ⟨p, 0, none⟩ = some (v) := cell_of_blk hSw.getBlk 0; clear hSw; go_simp; try (with_reducible rfl))
    try simp only [Act.put, List.setIfInBounds_toArray, List.set_cons_zero, List.set_cons_succ]
    refine takeW 5 (some 20) (v := ?_) rfl (by rfl) (by kernel_rfl) (by kernel_rfl) (by kernel_rfl) (fun _ _ _ h => h) (by kernel_rfl) (by kernel_rfl) ?_ (Stage.still (by assumption)) ?_
    rotate_left
    · (intro w; go_simp; try (with_reducible rfl))
    try simp only [Act.put, List.setIfInBounds_toArray, List.set_cons_zero, List.set_cons_succ]
    refine takeS 6 (some 21) (v := ?_) rfl (by rfl) (by kernel_rfl) (by kernel_rfl) (by kernel_rfl) (fun _ _ _ h => h) (by kernel_rfl) (by kernel_rfl) (by kernel_rfl) ?_ (by assumption) ?_
    rotate_left
    · (intro w hSw; have e := bytes_string (HB.out w hSw.tail.tail) cap; rw [HK.out] at e; clear hSw; go_simp; try (with_reducible rfl))
    try simp only [Act.put, List.setIfInBounds_toArray, List.set_cons_zero, List.set_cons_succ]
    refine oneT 7 (by kernel_rfl) rfl (fun K hK => ?_)
    go_simp
    have HSA := Lib.hid (HSO.out.alloc0 (.cells #[.string (bstr t)] 9))
    have hS1 := HSA.out.tail
    have HOWN := Lib.hid HSA.out.getOwn
    refine hK.out _ _ (Stage.still ?_) (fun hSt => ?_)
    · (try dsimp only); exact hS1
    clear hK K hSt
    try simp only [Act.put, List.setIfInBounds_toArray, List.set_cons_zero, List.set_cons_succ]
    refine oneT 8 (by kernel_rfl) rfl (fun K hK => ?_)
    refine step_own_append rfl (.tmp 19) (.tmp 22) 163 rfl Try.underlying163 HI9.out HZ9.out HS9.out HBY9.out rfl (by decide) rfl HOWN.out rfl [.string (bstr t)] (alloc_new _ _ _ rfl) rfl (by intro u hu; simp at hu; subst hu; rfl) (by have := HN.out; omega) (by have := HN.out; unfold maxLen; omega) ?_
    intro v' wz' hv' hw' hb'
    have HSZ := Lib.hid (HSA.out.ownTo hv' hw' hb')
    obtain ⟨av', kv', cv', rfl, HKV⟩ := hv'.slice
    have hS1 : Sys wz' m (blk p (.cells #[v, .map (some mb)] 165 (0, 0)) :: mapT strKey mb (tmap T) :: l) := HSZ.out.tail
    have f0z := frozen_of_blk hS1.getBlk 0
    have c0z : wz'.cell? ⟨p, 0, none⟩ = some v := cell_of_blk hS1.getBlk 0
    clear hv' hw' hb'
    refine hK.out _ _ (Stage.still ?_) (fun hSt => ?_)
    · (try dsimp only); exact hS1
    clear hK K hSt
    try simp only [Act.put, List.setIfInBounds_toArray, List.set_cons_zero, List.set_cons_succ]
    refine takeW 9 (some 24) (v := ?_) rfl (by rfl) (by kernel_rfl) (by kernel_rfl) (by kernel_rfl) (fun _ _ _ h => h) (by kernel_rfl) (by kernel_rfl) ?_ (Stage.still (by assumption)) ?_
    rotate_left
    · (intro w; go_simp; try (with_reducible rfl))
    try simp only [Act.put, List.setIfInBounds_toArray, List.set_cons_zero, List.set_cons_succ]
    refine takeW 10 (some 25) (v := ?_) rfl (by rfl) (by kernel_rfl) (by kernel_rfl) (by kernel_rfl) (fun _ _ _ h => h) (by kernel_rfl) (by kernel_rfl) ?_ (Stage.still (by assumption)) ?_
    rotate_left
    · (intro w; go_simp; try (with_reducible rfl))
    try simp only [Act.put, List.setIfInBounds_toArray, List.set_cons_zero, List.set_cons_succ]
    refine oneT 11 (by kernel_rfl) rfl (fun K hK => ?_)
    go_simp
    refine hK.out _ _ (Stage.past (by kernel_rfl)) (fun hSt => ?_)
    clear hK K hSt
    try simp only [Act.put, List.setIfInBounds_toArray, List.set_cons_zero, List.set_cons_succ]
    refine doneT (by kernel_rfl) ?_ _
    have HSF := Lib.hid (HSZ.out.swap.setCell (i := 0) (.slice av' kv' cv'))
    clear HSZ HSA HSO HOWN c0z f0z hS1
    generalize wz'.setCell _ _ = wf at *
    have c0 : wf.cell? ⟨p, 0, none⟩ = some (.slice av' kv' cv') := cell_of_blk HSF.out.getBlk 0
    go_wp2_with fail
    have hS5 : Sys wf.drew m (mapT strKey mb (tmap T) :: blk p (.cells #[.slice av' kv' cv', .map (some mb)] 165 (0, 0)) :: own 9 1 (.slice av' kv' cv') (T.length + 1) (T.map (fun t => .string (bstr t)) ++ [.string (bstr t)]) :: l) := HSF.out.drew.perm ((List.Perm.cons _ (List.Perm.swap _ _ _)).trans (List.Perm.swap _ _ _))
    refine wp_region_stage (fun x : World => Sys x m (mapT strKey mb (tmap T) :: blk p (.cells #[.slice av' kv' cv', .map (some mb)] 165 (0, 0)) :: own 9 1 (.slice av' kv' cv') (T.length + 1) (T.map (fun t => .string (bstr t)) ++ [.string (bstr t)]) :: l)) [7] (by kernel_rfl) ?_
    refine takeW 0 (some 31) (v := ?_) rfl (by rfl) (by kernel_rfl) (by kernel_rfl) (by kernel_rfl) (fun _ _ _ h => h) (by kernel_rfl) (by kernel_rfl) ?_ (Stage.still (by assumption)) ?_
    rotate_left
    · (intro w; go_simp; try (with_reducible rfl))
    try simp only [Act.put, List.setIfInBounds_toArray, List.set_cons_zero, List.set_cons_succ]
    refine takeW 1 (some 32) (v := ?_) rfl (by rfl) (by kernel_rfl) (by kernel_rfl) (by kernel_rfl) (fun _ _ _ h => h) (by kernel_rfl) (by kernel_rfl) ?_ (Stage.still (by assumption)) ?_
    rotate_left
    · (intro w; go_simp; try (with_reducible rfl))
    try simp only [Act.put, List.setIfInBounds_toArray, List.set_cons_zero, List.set_cons_succ]
    refine takeW 2 (some 33) (v := ?_) rfl (by rfl) (by kernel_rfl) (by kernel_rfl) (by kernel_rfl) (fun _ _ _ h => h) (by kernel_rfl) (by kernel_rfl) ?_ (Stage.still (by assumption)) ?_
    rotate_left
    · (intro w; go_simp; try (with_reducible rfl))
    try simp only [Act.put, List.setIfInBounds_toArray, List.set_cons_zero, List.set_cons_succ]
    refine takeS 3 (some 34) (v := ?_) rfl (by rfl) (by kernel_rfl) (by kernel_rfl) (by kernel_rfl) (fun _ _ _ h => h) (by kernel_rfl) (by kernel_rfl) (by kernel_rfl) ?_ (by assumption) ?_
    rotate_left
    · (intro w hSw; have c : w.cell? ⟨p, 1, none⟩ = some (.map (some mb)) := cell_of_blk hSw.swap.getBlk 1; clear hSw; go_simp; try (with_reducible rfl))
    try simp only [Act.put, List.setIfInBounds_toArray, List.set_cons_zero, List.set_cons_succ]
    refine takeW 4 (some 35) (v := ?_) rfl (by rfl) (by kernel_rfl) (by kernel_rfl) (by kernel_rfl) (fun _ _ _ h => h) (by kernel_rfl) (by kernel_rfl) ?_ (Stage.still (by assumption)) ?_
    rotate_left
    · (intro w; go_simp; try (with_reducible rfl))
    try simp only [Act.put, List.setIfInBounds_toArray, List.set_cons_zero, List.set_cons_succ]
    refine takeS 5 (some 36) (v := ?_) rfl (by rfl) (by kernel_rfl) (by kernel_rfl) (by kernel_rfl) (fun _ _ _ h => h) (by kernel_rfl) (by kernel_rfl) (by kernel_rfl) ?_ (by assumption) ?_
    rotate_left
    · (intro w hSw; have e := bytes_string (HB.out w hSw.tail.tail.tail) cap; rw [HK.out] at e; clear hSw; go_simp; try (with_reducible rfl))
    try simp only [Act.put, List.setIfInBounds_toArray, List.set_cons_zero, List.set_cons_succ]
    refine takeW 6 (some 37) (v := ?_) rfl (by rfl) (by kernel_rfl) (by kernel_rfl) (by kernel_rfl) (fun _ _ _ h => h) (by kernel_rfl) (by kernel_rfl) ?_ (Stage.still (by assumption)) ?_
    rotate_left
    · (intro w; go_simp; try (with_reducible rfl))
    try simp only [Act.put, List.setIfInBounds_toArray, List.set_cons_zero, List.set_cons_succ]
    refine oneT 7 (by kernel_rfl) rfl (fun K hK => ?_)
    obtain ⟨wu, hu, hmu, hcu, _⟩ := hS5.getMap.update (P := Try.prog) Try.underlying162 Try.underlying9 (bstr t) (.int .i64 (kv' : Int))
    simp only [strKey, bstr] at hu
    have HSU := Lib.hid (hS5.mapTo hmu hcu)
    clear hmu hcu
    go_simp
    refine hK.out _ _ (Stage.past (by kernel_rfl)) (fun hSt => ?_)
    clear hK K hSt
    try simp only [Act.put, List.setIfInBounds_toArray, List.set_cons_zero, List.set_cons_succ]
    refine doneT (by kernel_rfl) ?_ _
    have HE : Hid (Sys wu m (arena p (addT T t) :: l)) := by
      have e : addT T t = T ++ [t] := if_neg HM.out
      have h := HSU.out
      rw [show (kv' : Int) = (T.length : Int) + 1 by rw [HKV.out]; simp, tmap_set HM.out] at h
      rw [e]
      refine Sys.close (Value.slice av' kv' cv', mb) ?_
      have h2 := h.swap
      simpa using h2
    have HDG : Hid (((kv' : Nat) : Int) = dg T t) := by
      have h := HKV.out
      show _ = _
      unfold dg
      rw [List.idxOf_eq_length HM.out, h]
      simp
    clear HSU hS5
    go_wp2_with fail
    go_ret
    exact ⟨by rw [HDG.out]; rfl, HE.out⟩
end Go.Proofs.Ytcfhkpjheemkgaa
