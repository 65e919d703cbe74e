/-
  Votes are counted (package tall).
-/
import Derived.Test.YtcfhkpjheemkgaaQcOk
import Derived.Test.YtcfhkpjheemkgaaMapG
import Derived.Test.YtcfhkpjheemkgaaMapLen
namespace Go.Proofs.Ytcfhkpjheemkgaa
set_option linter.unusedSectionVars false
set_option linter.unusedSimpArgs false
set_option linter.unusedVariables false
open Go.RowKit Go.MapKept

def pureT (φ : Prop) : Thing := ⟨fun _ F => φ ∧ ∀ k, ¬ F k, fun h k hk => (h.2 k hk).elim, fun h _ _ => h⟩
theorem Sys.pure {w : World} {m : Nat → Thing} {l : List Thing} {φ : Prop} (h : Sys w m (pureT φ :: l)) : φ ∧ Sys w m l := by
  obtain ⟨F, h1, _⟩ := h.head; exact ⟨h1.1, h.tail⟩
theorem Sys.addPure {w : World} {m : Nat → Thing} {l : List Thing} {φ : Prop} (h : Sys w m l) (hp : φ) : Sys w m (pureT φ :: l) :=
  h.push (Chg.refl _ _) (F := fun _ => False) ⟨hp, fun _ h => h⟩ (fun _ h => h.elim)

/-! ### who voted for what -/
structure VoteE where
  key : Int × Int
  blk : Nat
  by_ : List Int
def VoteE.in_ (e : VoteE) : Thing := mapT intKey e.blk (ones e.by_)
def AllWf (L : List Int) : Prop := ∀ a ∈ L, (Lit.int .i64 a).wf = true
def votesF (vb : Nat) (V : List ((Int × Int) × List Int)) (S : List VoteE) : List Thing :=
  pureT (V = S.map (fun e => (e.key, e.by_)) ∧ ∀ e ∈ S, AllWf e.by_) :: mapGT pairEnc vb (S.map fun e => (e.key, .map (some e.blk))) :: S.map VoteE.in_
def votesT (vb : Nat) (V : List ((Int × Int) × List Int)) : Thing := ex (votesF vb V)
theorem alook_map2 {α β γ δ : Type} [DecidableEq α] (f : δ → α) (g : δ → β) (g' : δ → γ) (S : List δ) (k : α) (v : β) (h : alook (S.map fun e => (f e, g e)) k = some v) : ∃ (j : Nat) (e : δ), S[j]? = some e ∧ f e = k ∧ g e = v ∧ alook (S.map fun e => (f e, g' e)) k = some (g' e) := by
  induction S with
  | nil => simp [alook] at h
  | cons a S ih =>
    by_cases e : f a = k
    · refine ⟨0, a, rfl, e, ?_, ?_⟩
      · simpa [alook, e] using h
      · simp [alook, e]
    · obtain ⟨j, e', h1, h2, h3, h4⟩ := ih (by simpa [alook, e] using h)
      exact ⟨j + 1, e', by simpa using h1, h2, h3, by simpa [alook, e] using h4⟩
theorem set_perm {α : Type} : ∀ (l : List α) (i : Nat) (t x : α), l[i]? = some t → (l.set i x).Perm (x :: l.eraseIdx i)
  | [], _, _, _, h => by simp at h
  | a :: l, 0, _, x, _ => List.Perm.refl _
  | a :: l, i + 1, t, x, h => ((set_perm l i t x (by simpa using h)).cons a).trans (List.Perm.swap _ _ _)
section
variable {w w' : World} {m : Nat → Thing} {l : List Thing} {vb : Nat} {V : List ((Int × Int) × List Int)} {k : Int × Int} {L : List Int}
theorem votes_focus (h : Sys w m (votesT vb V :: l)) (hk : alook V k = some L) : ∃ b mm R, alook mm k = some (.map (some b)) ∧ AllWf L ∧ Sys w m (mapT intKey b (ones L) :: mapGT pairEnc vb mm :: (R ++ l)) ∧
    ∀ w' m' l' L', AllWf L' → Sys w' m' (mapT intKey b (ones L') :: mapGT pairEnc vb mm :: (R ++ l')) → Sys w' m' (votesT vb (aset V k L') :: l') := by
  obtain ⟨S, h⟩ := h.open
  obtain ⟨⟨rfl, hwf⟩, h2⟩ := Sys.pure (l := mapGT pairEnc vb (S.map fun e => (e.key, .map (some e.blk))) :: (S.map VoteE.in_ ++ l)) h
  obtain ⟨j, e, hj, rfl, rfl, h4⟩ := alook_map2 VoteE.key VoteE.by_ (fun e => Value.map (some e.blk)) S k L hk
  have hnd := h2.getMapG.nodup spot_run.inj
  have hnd' : (S.map (·.key)).Nodup := by simpa [List.map_map, Function.comp_def] using hnd
  refine ⟨e.blk, _, (S.eraseIdx j).map VoteE.in_, h4, hwf e (List.mem_of_getElem? hj), ?_, fun w' m' l' L' hL' h' => ?_⟩
  · refine h2.perm ?_
    refine (List.Perm.cons _ ((((erase_perm S j e hj).map VoteE.in_).append_right l))).trans (List.Perm.swap _ _ _)
  · have hs : aset (S.map fun e => (e.key, e.by_)) e.key L' = (S.set j { e with by_ := L' }).map (fun e => (e.key, e.by_)) := by
      rw [(aset_at (m := S.map fun e => (e.key, e.by_)) (j := j) (x := e.by_) (by simpa [List.map_map, Function.comp_def] using hnd') (by simp [hj])).1, List.map_set]
    have hm : (S.set j { e with by_ := L' }).map (fun e => (e.key, Value.map (some e.blk))) = S.map (fun e => (e.key, Value.map (some e.blk))) := map_set_same _ S j e _ hj rfl
    refine Sys.close (f := votesF _ _) (S.set j { e with by_ := L' }) ?_
    refine Sys.addPure ?_ ⟨hs, fun x hx => ?_⟩
    · rw [hm]
      refine h'.perm ?_
      refine (List.Perm.swap _ _ _).trans (List.Perm.cons _ ?_)
      exact (((set_perm S j e { e with by_ := L' } hj).map VoteE.in_).append_right l').symm
    · rcases mem_set hx with rfl | ⟨i, _, hi⟩
      · exact hL'
      · exact hwf x (List.mem_of_getElem? hi)
theorem votes_none (h : Sys w m (votesT vb V :: l)) (hk : alook V k = none) : ∃ mm R, alook mm k = none ∧ Sys w m (mapGT pairEnc vb mm :: (R ++ l)) ∧
    ∀ w' m' l' b L', AllWf L' → Sys w' m' (mapT intKey b (ones L') :: mapGT pairEnc vb (aset mm k (.map (some b))) :: (R ++ l')) → Sys w' m' (votesT vb (aset V k L') :: l') := by
  obtain ⟨S, h⟩ := h.open
  obtain ⟨⟨rfl, hwf⟩, h2⟩ := Sys.pure (l := mapGT pairEnc vb (S.map fun e => (e.key, .map (some e.blk))) :: (S.map VoteE.in_ ++ l)) h
  have hn : alook (S.map fun e => (e.key, Value.map (some e.blk))) k = none := by
    rw [alook_none] at hk ⊢
    simpa [List.map_map, Function.comp_def] using hk
  refine ⟨_, S.map VoteE.in_, hn, h2, fun w' m' l' b L' hL' h' => ?_⟩
  have hs : aset (S.map fun e => (e.key, e.by_)) k L' = (S ++ [(⟨k, b, L'⟩ : VoteE)]).map (fun e => (e.key, e.by_)) := by rw [aset_none hk]; simp
  refine Sys.close (f := votesF _ _) (S ++ [(⟨k, b, L'⟩ : VoteE)]) ?_
  refine Sys.addPure ?_ ⟨hs, fun x hx => ?_⟩
  · have he : aset (S.map fun e => (e.key, Value.map (some e.blk))) k (.map (some b)) = (S ++ [(⟨k, b, L'⟩ : VoteE)]).map (fun e : VoteE => (e.key, Value.map (some e.blk))) := by rw [aset_none hn]; simp
    rw [he] at h'
    refine h'.perm ?_
    refine (List.Perm.swap _ _ _).trans (List.Perm.cons _ ?_)
    rw [List.map_append]
    refine List.Perm.trans ?_ (List.Perm.append_right l' (List.perm_append_comm (l₁ := [VoteE.in_ ⟨k, b, L'⟩])))
    exact List.Perm.refl _
  · rcases List.mem_append.1 hx with hx | hx
    · exact hwf x hx
    · simp at hx; subst hx; exact hL'
end
/-! ### who gave up which view -/
structure QcX where
  view : Int
  block : Int
  by_ : List Int
structure OutI where
  who : Int
  q : QcX
  v : Value
structure OutE where
  view : Int
  blk : Nat
  l : List OutI
def OutI.cell (i : OutI) : Value := .agg #[.int .i64 i.q.view, .int .i64 i.q.block, i.v]
def OutI.row (i : OutI) : Thing := own 3 1 i.v i.q.by_.length (i.q.by_.map (Value.int .i64))
def OutE.in_ (e : OutE) : List Thing := mapT intKey e.blk (e.l.map fun i => (i.who, i.cell)) :: e.l.map OutI.row
def outsT (ob : Nat) (O : List (Int × List (Int × QcX))) : Thing := ex fun R : List OutE =>
  pureT (O = R.map (fun e => (e.view, e.l.map fun i => (i.who, i.q))) ∧ ∀ e ∈ R, AllWf (e.l.map (·.who))) :: mapT intKey ob (R.map fun e => (e.view, .map (some e.blk))) :: R.flatMap OutE.in_
def tallyT (q p : Nat) (c : CfgX) (V : List ((Int × Int) × List Int)) (O : List (Int × List (Int × QcX))) : Thing := ex fun x : Nat × Nat =>
  [blk q (.cells #[.pointer (some ⟨p, 0, none⟩), .int .i64 c.f, .int .i64 c.n, .int .i64 c.cl, .int .i64 c.ba, .int .i64 c.mo, .int .i64 c.bt, .int .i64 c.po, .int .i64 c.wi, .map (some x.1), .map (some x.2)] 143 (0, 0)), votesT x.1 V, outsT x.2 O]
section
variable {w w' : World} {m : Nat → Thing} {l : List Thing} {p q : Nat} {d : Wd} {X : WX} {V : List ((Int × Int) × List Int)} {O : List (Int × List (Int × QcX))}
theorem tally_new (c : CfgX) (h : Sys w m l) : Calls Try.prog 36 #[.pointer (some ⟨p, 0, none⟩), .agg c.cells.toArray] w fun e w' => ∃ q, e = .returned (.pointer (some ⟨q, 0, none⟩)) ∧ Sys w' m (tallyT q p c [] [] :: l) := by
  have hmm := @run_makeMap Try.prog
  change Calls Try.prog 36 #[.pointer (some ⟨p, 0, none⟩), .agg #[.int .i64 c.f, .int .i64 c.n, .int .i64 c.cl, .int .i64 c.ba, .int .i64 c.mo, .int .i64 c.bt, .int .i64 c.po, .int .i64 c.wi]] w _
  obtain ⟨nc, hnc⟩ : ∃ n, n = w.heap.size := ⟨_, rfl⟩
  obtain ⟨xc, hxc⟩ : ∃ y, y = w.alloc (.cells #[.int .i64 c.f, .int .i64 c.n, .int .i64 c.cl, .int .i64 c.ba, .int .i64 c.mo, .int .i64 c.bt, .int .i64 c.po, .int .i64 c.wi] 49 (0, 0)) := ⟨_, rfl⟩
  have hbc := h.alloc (.cells #[.int .i64 c.f, .int .i64 c.n, .int .i64 c.cl, .int .i64 c.ba, .int .i64 c.mo, .int .i64 c.bt, .int .i64 c.po, .int .i64 c.wi] 49 (0, 0)) hnc
  rw [← hxc] at hbc
  have EXc : Hid (w.alloc (.cells #[.int .i64 c.f, .int .i64 c.n, .int .i64 c.cl, .int .i64 c.ba, .int .i64 c.mo, .int .i64 c.bt, .int .i64 c.po, .int .i64 c.wi] 49 (0, 0)) = xc) := hxc.symm
  have ENc : Hid (w.heap.size = nc) := by show _ = _; rw [hnc]
  have H0 := Lib.hid hbc
  clear h hbc hxc hnc
  obtain ⟨q0, q1, q2, q3, q4, q5, q6, q7⟩ := cfg_cells H0.out.getBlk
  go_enter Try.func36, Try.ntmps36
  go_upto_region 1 with fail
  rw [EXc.out, ENc.out]
  go_wp2_with fail
  go_ret
  have h1 := H0.out.tail
  have h2 : Sys (xc.alloc (.map #[] 0)) m (votesT xc.heap.size [] :: l) := by
    refine Sys.close (f := votesF _ _) [] ?_
    refine Sys.addPure (l := mapGT pairEnc xc.heap.size [] :: l) ?_ ⟨rfl, by simp⟩
    exact h1.push ((Chg.refl _ _).alloc _) (F := (· = xc.heap.size)) ⟨MapG.made xc _ rfl, rfl⟩ (fun k e => by have e : k = _ := e; omega)
  have h3 : Sys ((xc.alloc (.map #[] 0)).alloc (.map #[] 0)) m (outsT (xc.heap.size + 1) [] :: votesT xc.heap.size [] :: l) := by
    refine Sys.close (f := fun R : List OutE => pureT ([] = R.map (fun e => (e.view, e.l.map fun i => (i.who, i.q))) ∧ ∀ e ∈ R, AllWf (e.l.map (·.who))) :: mapT intKey (xc.heap.size + 1) (R.map fun e => (e.view, .map (some e.blk))) :: R.flatMap OutE.in_) [] ?_
    refine Sys.addPure (l := mapT intKey (xc.heap.size + 1) [] :: votesT xc.heap.size [] :: l) ?_ ⟨rfl, by simp⟩
    exact h2.push ((Chg.refl _ _).alloc _) (F := (· = xc.heap.size + 1)) ⟨MapOf.made _ _ (by simp), rfl⟩ (fun k e => by have e : k = _ := e; simp; omega)
  refine ⟨_, rfl, Sys.close (xc.heap.size, xc.heap.size + 1) ?_⟩
  exact ((h3.swap).alloc _ (by simp)).perm (List.Perm.refl _)
theorem cap_mid {Q : World → Prop} {a : Thing} {r : List Thing} (h : Cap r Q) : Cap (a :: r) Q := h.push
/-- What a vote makes of who voted. -/
def voters (V : List ((Int × Int) × List Int)) (k : Int × Int) : List Int := (alook V k).getD []
set_option maxRecDepth 100000 in
set_option maxHeartbeats 2000000 in
theorem tally_vote_no (c : CfgX) (hg : c.Good) (who view block : Int) (h : Sys w m (tallyT q p c V O :: l)) (hw : m 0 = worldT p d X) (hT : X.T.length ≤ 1000000000) (hno : ¬ (repB c who = true ∧ 1 ≤ view ∧ who ∈ X.f (dg X.T (voteB view block)))) :
    Calls Try.prog 41 #[.pointer (some ⟨q, 0, none⟩), .int .i64 who, .int .i64 view, .int .i64 block] w fun e w' => e = .returned (.tuple #[.agg #[.int .i64 0, .int .i64 0, .slice none 0 0], .bool false]) ∧ Sys w' (upd m 0 (worldT p d (if repB c who = true ∧ 1 ≤ view then X.digest (voteB view block) else X))) (tallyT q p c V O :: l) := by
  obtain ⟨⟨vb, ob⟩, h⟩ := h.open
  replace h : Sys w m (blk q (.cells #[.pointer (some ⟨p, 0, none⟩), .int .i64 c.f, .int .i64 c.n, .int .i64 c.cl, .int .i64 c.ba, .int .i64 c.mo, .int .i64 c.bt, .int .i64 c.po, .int .i64 c.wi, .map (some vb), .map (some ob)] 143 (0, 0)) :: votesT vb V :: outsT ob O :: l) := h
  obtain ⟨nr, hnr⟩ : ∃ n, n = w.heap.size := ⟨_, rfl⟩
  obtain ⟨xr, hxr⟩ : ∃ y, y = w.alloc (.cells #[.int .i64 0, .int .i64 0, .slice none 0 0] 28 (0, 0)) := ⟨_, rfl⟩
  have h1 := (h.alloc (.cells #[.int .i64 0, .int .i64 0, .slice none 0 0] 28 (0, 0)) hnr).swap
  rw [← hxr] at h1
  have H1 := Lib.hid h1.drew
  have hS1 := H1.out.getBlk
  have HG := Lib.hid hg
  have HTL := Lib.hid hT
  have HXR := Lib.hid hxr
  have HNR := Lib.hid hnr
  clear h h1 hxr hnr hg hT
  by_cases hrep : repB c who = true
  · by_cases hv : 1 ≤ view
    · have hd : decide (view < 1) = false := by simp; omega
      have HHAS : Hid (decide (who ∈ X.f (dg X.T (voteB view block))) = false) := by show _ = _; simp only [decide_eq_false_iff_not]; exact fun e => hno ⟨hrep, hv, e⟩
      rw [if_pos ⟨hrep, hv⟩]
      clear hno hv
      go_enter Try.func41, Try.ntmps41
      go_upto_region 1 with fail
      rw [← HXR.out, ← HNR.out]
      refine wp_region_stage (fun x : World => x.heap[q]? = some (.cells #[.pointer (some ⟨p, 0, none⟩), .int .i64 c.f, .int .i64 c.n, .int .i64 c.cl, .int .i64 c.ba, .int .i64 c.mo, .int .i64 c.bt, .int .i64 c.po, .int .i64 c.wi, .map (some vb), .map (some ob)] 143 (0, 0))) [] (by kernel_rfl) ?_
      refine takeW 0 (some 11) (v := ?_) rfl (by rfl) (by kernel_rfl) (by kernel_rfl) (by kernel_rfl) (fun _ _ _ h => h) (by kernel_rfl) (by kernel_rfl) ?_ (Stage.still (by assumption)) ?_
      rotate_left
      · (intro w; go_simp; try (with_reducible rfl))
      try simp only [Act.put, List.setIfInBounds_toArray, List.set_cons_zero, List.set_cons_succ]
      refine takeW 1 (some 12) (v := ?_) rfl (by rfl) (by kernel_rfl) (by kernel_rfl) (by kernel_rfl) (fun _ _ _ h => h) (by kernel_rfl) (by kernel_rfl) ?_ (Stage.still (by assumption)) ?_
      rotate_left
      · (intro w; go_simp; try (with_reducible rfl))
      try simp only [Act.put, List.setIfInBounds_toArray, List.set_cons_zero, List.set_cons_succ]
      refine takeW 2 (some 13) (v := ?_) rfl (by rfl) (by kernel_rfl) (by kernel_rfl) (by kernel_rfl) (fun _ _ _ h => h) (by kernel_rfl) (by kernel_rfl) ?_ (Stage.still (by assumption)) ?_
      rotate_left
      · (intro w; go_simp; try (with_reducible rfl))
      try simp only [Act.put, List.setIfInBounds_toArray, List.set_cons_zero, List.set_cons_succ]
      refine takeS 3 (some 14) (v := ?_) rfl (by rfl) (by kernel_rfl) (by kernel_rfl) (by kernel_rfl) (fun _ _ _ h => h) (by kernel_rfl) (by kernel_rfl) (by kernel_rfl) ?_ (by assumption) ?_
      rotate_left
      · (intro w hSw; have c0 : w.cell? ⟨q, 1, none⟩ = some (.int .i64 c.f) := cell_of_blk hSw 1; have c1 : w.cell? ⟨q, 2, none⟩ = some (.int .i64 c.n) := cell_of_blk hSw 2; have c2 : w.cell? ⟨q, 3, none⟩ = some (.int .i64 c.cl) := cell_of_blk hSw 3; have c3 : w.cell? ⟨q, 4, none⟩ = some (.int .i64 c.ba) := cell_of_blk hSw 4; have c4 : w.cell? ⟨q, 5, none⟩ = some (.int .i64 c.mo) := cell_of_blk hSw 5; have c5 : w.cell? ⟨q, 6, none⟩ = some (.int .i64 c.bt) := cell_of_blk hSw 6; have c6 : w.cell? ⟨q, 7, none⟩ = some (.int .i64 c.po) := cell_of_blk hSw 7; have c7 : w.cell? ⟨q, 8, none⟩ = some (.int .i64 c.wi) := cell_of_blk hSw 8; clear hSw; go_simp; try (with_reducible rfl))
      try simp only [Act.put, List.setIfInBounds_toArray, List.set_cons_zero, List.set_cons_succ]
      refine takeW 4 (some 15) (v := ?_) rfl (by rfl) (by kernel_rfl) (by kernel_rfl) (by kernel_rfl) (fun _ _ _ h => h) (by kernel_rfl) (by kernel_rfl) ?_ (Stage.still (by assumption)) ?_
      rotate_left
      · (intro w; go_simp; try (with_reducible rfl))
      try simp only [Act.put, List.setIfInBounds_toArray, List.set_cons_zero, List.set_cons_succ]
      refine oneT 5 (by kernel_rfl) rfl (fun K hK => ?_)
      go_simp
      go_at_call 60
      refine (cert_replica c HG.out who H1.out).mono ?_
      rintro e w2 ⟨rfl, h2⟩
      rw [hrep]
      have hS1 := h2.getBlk
      have H2 := Lib.hid h2
      clear h2
      go_wp2_with fail
      refine hK.out _ _ (Stage.still ?_) (fun hSt => ?_)
      · (try dsimp only); exact hS1
      clear hK K hSt
      try simp only [Act.put, List.setIfInBounds_toArray, List.set_cons_zero, List.set_cons_succ]
      refine takeW 6 (some 17) (v := ?_) rfl (by rfl) (by kernel_rfl) (by kernel_rfl) (by kernel_rfl) (fun _ _ _ h => h) (by kernel_rfl) (by kernel_rfl) ?_ (Stage.still (by assumption)) ?_
      rotate_left
      · (intro w; go_simp; try (with_reducible rfl))
      try simp only [Act.put, List.setIfInBounds_toArray, List.set_cons_zero, List.set_cons_succ]
      refine takeW 7 (some 18) (v := ?_) rfl (by rfl) (by kernel_rfl) (by kernel_rfl) (by kernel_rfl) (fun _ _ _ h => h) (by kernel_rfl) (by kernel_rfl) ?_ (Stage.still (by assumption)) ?_
      rotate_left
      · (intro w; go_simp; try (with_reducible rfl))
      try simp only [Act.put, List.setIfInBounds_toArray, List.set_cons_zero, List.set_cons_succ]
      refine takeW 8 (some 19) (v := ?_) rfl (by rfl) (by kernel_rfl) (by kernel_rfl) (by kernel_rfl) (fun _ _ _ h => h) (by kernel_rfl) (by kernel_rfl) ?_ (Stage.still (by assumption)) ?_
      rotate_left
      · (intro w; go_simp; try (with_reducible rfl))
      try simp only [Act.put, List.setIfInBounds_toArray, List.set_cons_zero, List.set_cons_succ]
      refine takeW 9 (some 20) (v := ?_) rfl (by rfl) (by kernel_rfl) (by kernel_rfl) (by kernel_rfl) (fun _ _ _ h => h) (by kernel_rfl) (by kernel_rfl) ?_ (Stage.still (by assumption)) ?_
      rotate_left
      · (intro w; go_simp; try (with_reducible rfl))
      try simp only [Act.put, List.setIfInBounds_toArray, List.set_cons_zero, List.set_cons_succ]
      refine takeW 10 (some 21) (v := ?_) rfl (by rfl) (by kernel_rfl) (by kernel_rfl) (by kernel_rfl) (fun _ _ _ h => h) (by kernel_rfl) (by kernel_rfl) ?_ (Stage.still (by assumption)) ?_
      rotate_left
      · (intro w; go_simp; try (with_reducible rfl))
      try simp only [Act.put, List.setIfInBounds_toArray, List.set_cons_zero, List.set_cons_succ]
      refine takeW 11 (some 22) (v := ?_) rfl (by rfl) (by kernel_rfl) (by kernel_rfl) (by kernel_rfl) (fun _ _ _ h => h) (by kernel_rfl) (by kernel_rfl) ?_ (Stage.still (by assumption)) ?_
      rotate_left
      · (intro w; go_simp; try (with_reducible rfl))
      try simp only [Act.put, List.setIfInBounds_toArray, List.set_cons_zero, List.set_cons_succ]
      refine takeW 12 (some 23) (v := ?_) rfl (by rfl) (by kernel_rfl) (by kernel_rfl) (by kernel_rfl) (fun _ _ _ h => h) (by kernel_rfl) (by kernel_rfl) ?_ (Stage.still (by assumption)) ?_
      rotate_left
      · (intro w; go_simp; try (with_reducible rfl))
      try simp only [Act.put, List.setIfInBounds_toArray, List.set_cons_zero, List.set_cons_succ]
      refine takeW 13 (some 24) (v := ?_) rfl (by rfl) (by kernel_rfl) (by kernel_rfl) (by kernel_rfl) (fun _ _ _ h => h) (by kernel_rfl) (by kernel_rfl) ?_ (Stage.still (by assumption)) ?_
      rotate_left
      · (intro w; go_simp; try (with_reducible rfl))
      try simp only [Act.put, List.setIfInBounds_toArray, List.set_cons_zero, List.set_cons_succ]
      refine takeW 14 (some 25) (v := ?_) rfl (by rfl) (by kernel_rfl) (by kernel_rfl) (by kernel_rfl) (fun _ _ _ h => h) (by kernel_rfl) (by kernel_rfl) ?_ (Stage.still (by assumption)) ?_
      rotate_left
      · (intro w; go_simp; try (with_reducible rfl))
      try simp only [Act.put, List.setIfInBounds_toArray, List.set_cons_zero, List.set_cons_succ]
      refine takeS 15 (some 26) (v := ?_) rfl (by rfl) (by kernel_rfl) (by kernel_rfl) (by kernel_rfl) (fun _ _ _ h => h) (by kernel_rfl) (by kernel_rfl) (by kernel_rfl) ?_ (by assumption) ?_
      rotate_left
      · (intro w hSw; have c : w.cell? ⟨q, 0, none⟩ = some (.pointer (some ⟨p, 0, none⟩)) := cell_of_blk hSw 0; clear hSw; go_simp; try (with_reducible rfl))
      try simp only [Act.put, List.setIfInBounds_toArray, List.set_cons_zero, List.set_cons_succ]
      refine takeW 17 (some 28) (v := ?_) rfl (by rfl) (by kernel_rfl) (by kernel_rfl) (by kernel_rfl) (fun _ _ _ h => h) (by kernel_rfl) (by kernel_rfl) ?_ (Stage.still (by assumption)) ?_
      rotate_left
      · (intro w; go_simp; try (with_reducible rfl))
      try simp only [Act.put, List.setIfInBounds_toArray, List.set_cons_zero, List.set_cons_succ]
      refine takeW 18 (some 29) (v := ?_) rfl (by rfl) (by kernel_rfl) (by kernel_rfl) (by kernel_rfl) (fun _ _ _ h => h) (by kernel_rfl) (by kernel_rfl) ?_ (Stage.still (by assumption)) ?_
      rotate_left
      · (intro w; go_simp; try (with_reducible rfl))
      try simp only [Act.put, List.setIfInBounds_toArray, List.set_cons_zero, List.set_cons_succ]
      refine takeW 19 (some 30) (v := ?_) rfl (by rfl) (by kernel_rfl) (by kernel_rfl) (by kernel_rfl) (fun _ _ _ h => h) (by kernel_rfl) (by kernel_rfl) ?_ (Stage.still (by assumption)) ?_
      rotate_left
      · (intro w; go_simp; try (with_reducible rfl))
      try simp only [Act.put, List.setIfInBounds_toArray, List.set_cons_zero, List.set_cons_succ]
      refine takeW 20 (some 31) (v := ?_) rfl (by rfl) (by kernel_rfl) (by kernel_rfl) (by kernel_rfl) (fun _ _ _ h => h) (by kernel_rfl) (by kernel_rfl) ?_ (Stage.still (by assumption)) ?_
      rotate_left
      · (intro w; go_simp; try (with_reducible rfl))
      try simp only [Act.put, List.setIfInBounds_toArray, List.set_cons_zero, List.set_cons_succ]
      refine takeS 21 (some 32) (v := ?_) rfl (by rfl) (by kernel_rfl) (by kernel_rfl) (by kernel_rfl) (fun _ _ _ h => h) (by kernel_rfl) (by kernel_rfl) (by kernel_rfl) ?_ (by assumption) ?_
      rotate_left
      · (intro w hSw; have c : w.cell? ⟨q, 0, none⟩ = some (.pointer (some ⟨p, 0, none⟩)) := cell_of_blk hSw 0; clear hSw; go_simp; try (with_reducible rfl))
      try simp only [Act.put, List.setIfInBounds_toArray, List.set_cons_zero, List.set_cons_succ]
      refine takeW 22 (some 33) (v := ?_) rfl (by rfl) (by kernel_rfl) (by kernel_rfl) (by kernel_rfl) (fun _ _ _ h => h) (by kernel_rfl) (by kernel_rfl) ?_ (Stage.still (by assumption)) ?_
      rotate_left
      · (intro w; go_simp; try (with_reducible rfl))
      try simp only [Act.put, List.setIfInBounds_toArray, List.set_cons_zero, List.set_cons_succ]
      refine takeW 23 (some 34) (v := ?_) rfl (by rfl) (by kernel_rfl) (by kernel_rfl) (by kernel_rfl) (fun _ _ _ h => h) (by kernel_rfl) (by kernel_rfl) ?_ (Stage.still (by assumption)) ?_
      rotate_left
      · (intro w; go_simp; try (with_reducible rfl))
      try simp only [Act.put, List.setIfInBounds_toArray, List.set_cons_zero, List.set_cons_succ]
      refine oneT 16 (by kernel_rfl) rfl (fun K hK => ?_)
      go_simp
      go_at_call 37
      refine (world_signs H2.out hw).mono ?_
      rintro e _ ⟨rfl, rfl⟩
      go_wp2_with fail
      refine hK.out _ _ (Stage.still ?_) (fun hSt => ?_)
      · (try dsimp only); exact hS1
      clear hK K hSt
      try simp only [Act.put, List.setIfInBounds_toArray, List.set_cons_zero, List.set_cons_succ]
      refine oneT 24 (by kernel_rfl) rfl (fun K hK => ?_)
      go_simp
      go_at_call 39
      refine (cert_vote view block H2.out hw HTL.out).mono ?_
      rintro e w3 ⟨rfl, h3⟩
      have hS1 := h3.getBlk
      have H3 := Lib.hid h3
      clear h3
      go_wp2_with fail
      refine hK.out _ _ (Stage.still ?_) (fun hSt => ?_)
      · (try dsimp only); exact hS1
      clear hK K hSt
      try simp only [Act.put, List.setIfInBounds_toArray, List.set_cons_zero, List.set_cons_succ]
      refine oneT 25 (by kernel_rfl) rfl (fun K hK => ?_)
      go_simp
      go_at_call 40
      refine (world_has who _ H3.out (upd_same _ _ _)).mono ?_
      rintro e _ ⟨rfl, rfl⟩
      rw [show (X.digest (voteB view block)).f = X.f from rfl, HHAS.out]
      go_wp2_with fail
      refine hK.out _ _ (Stage.still ?_) (fun hSt => ?_)
      · (try dsimp only); exact hS1
      clear hK K hSt
      try simp only [Act.put, List.setIfInBounds_toArray, List.set_cons_zero, List.set_cons_succ]
      refine takeW 26 (some 37) (v := ?_) rfl (by rfl) (by kernel_rfl) (by kernel_rfl) (by kernel_rfl) (fun _ _ _ h => h) (by kernel_rfl) (by kernel_rfl) ?_ (Stage.still (by assumption)) ?_
      rotate_left
      · (intro w; go_simp; try (with_reducible rfl))
      try simp only [Act.put, List.setIfInBounds_toArray, List.set_cons_zero, List.set_cons_succ]
      refine takeW 27 (some 38) (v := ?_) rfl (by rfl) (by kernel_rfl) (by kernel_rfl) (by kernel_rfl) (fun _ _ _ h => h) (by kernel_rfl) (by kernel_rfl) ?_ (Stage.still (by assumption)) ?_
      rotate_left
      · (intro w; go_simp; try (with_reducible rfl))
      try simp only [Act.put, List.setIfInBounds_toArray, List.set_cons_zero, List.set_cons_succ]
      refine doneT (by kernel_rfl) ?_ _
      clear hS1
      have hbr : w3.heap[nr]? = _ := H3.out.swap.getBlk
      have hzz := setRow_heap w3 nr _ #[.int .i64 0, .int .i64 0, .slice none 0 0] _ _ hbr
      have HF := Lib.hid (H3.out.swap.store ((Chg.refl (· = nr) w3).row #[.int .i64 0, .int .i64 0, .slice none 0 0]) hzz)
      go_wp2_with (refine wpList_store_row rfl 28 _ _ rfl nr #[.int .i64 0, .int .i64 0, .slice none 0 0] rfl rfl _ _ hbr size3 rfl (by simp [Value.oneCell']) ?_)
      (try simp only [Exit.inBlock, Exit.then])
      refine bodyPost_ret (results_cell_tmp (cs := #[.int .i64 0, .int .i64 0, .slice none 0 0]) rfl _ _ nr _ _ _ rfl hzz Try.underlying28 rfl size3) rfl ?_
      exact ⟨rfl, Sys.close (vb, ob) HF.out.tail⟩
    · have hd : decide (view < 1) = true := by simp; omega
      rw [if_neg (fun e => hv e.2)]
      clear hno hv
      go_enter Try.func41, Try.ntmps41
      go_upto_region 1 with fail
      rw [← HXR.out, ← HNR.out]
      refine wp_region_stage (fun x : World => x.heap[q]? = some (.cells #[.pointer (some ⟨p, 0, none⟩), .int .i64 c.f, .int .i64 c.n, .int .i64 c.cl, .int .i64 c.ba, .int .i64 c.mo, .int .i64 c.bt, .int .i64 c.po, .int .i64 c.wi, .map (some vb), .map (some ob)] 143 (0, 0))) [] (by kernel_rfl) ?_
      refine takeW 0 (some 11) (v := ?_) rfl (by rfl) (by kernel_rfl) (by kernel_rfl) (by kernel_rfl) (fun _ _ _ h => h) (by kernel_rfl) (by kernel_rfl) ?_ (Stage.still (by assumption)) ?_
      rotate_left
      · (intro w; go_simp; try (with_reducible rfl))
      try simp only [Act.put, List.setIfInBounds_toArray, List.set_cons_zero, List.set_cons_succ]
      refine takeW 1 (some 12) (v := ?_) rfl (by rfl) (by kernel_rfl) (by kernel_rfl) (by kernel_rfl) (fun _ _ _ h => h) (by kernel_rfl) (by kernel_rfl) ?_ (Stage.still (by assumption)) ?_
      rotate_left
      · (intro w; go_simp; try (with_reducible rfl))
      try simp only [Act.put, List.setIfInBounds_toArray, List.set_cons_zero, List.set_cons_succ]
      refine takeW 2 (some 13) (v := ?_) rfl (by rfl) (by kernel_rfl) (by kernel_rfl) (by kernel_rfl) (fun _ _ _ h => h) (by kernel_rfl) (by kernel_rfl) ?_ (Stage.still (by assumption)) ?_
      rotate_left
      · (intro w; go_simp; try (with_reducible rfl))
      try simp only [Act.put, List.setIfInBounds_toArray, List.set_cons_zero, List.set_cons_succ]
      refine takeS 3 (some 14) (v := ?_) rfl (by rfl) (by kernel_rfl) (by kernel_rfl) (by kernel_rfl) (fun _ _ _ h => h) (by kernel_rfl) (by kernel_rfl) (by kernel_rfl) ?_ (by assumption) ?_
      rotate_left
      · (intro w hSw; have c0 : w.cell? ⟨q, 1, none⟩ = some (.int .i64 c.f) := cell_of_blk hSw 1; have c1 : w.cell? ⟨q, 2, none⟩ = some (.int .i64 c.n) := cell_of_blk hSw 2; have c2 : w.cell? ⟨q, 3, none⟩ = some (.int .i64 c.cl) := cell_of_blk hSw 3; have c3 : w.cell? ⟨q, 4, none⟩ = some (.int .i64 c.ba) := cell_of_blk hSw 4; have c4 : w.cell? ⟨q, 5, none⟩ = some (.int .i64 c.mo) := cell_of_blk hSw 5; have c5 : w.cell? ⟨q, 6, none⟩ = some (.int .i64 c.bt) := cell_of_blk hSw 6; have c6 : w.cell? ⟨q, 7, none⟩ = some (.int .i64 c.po) := cell_of_blk hSw 7; have c7 : w.cell? ⟨q, 8, none⟩ = some (.int .i64 c.wi) := cell_of_blk hSw 8; clear hSw; go_simp; try (with_reducible rfl))
      try simp only [Act.put, List.setIfInBounds_toArray, List.set_cons_zero, List.set_cons_succ]
      refine takeW 4 (some 15) (v := ?_) rfl (by rfl) (by kernel_rfl) (by kernel_rfl) (by kernel_rfl) (fun _ _ _ h => h) (by kernel_rfl) (by kernel_rfl) ?_ (Stage.still (by assumption)) ?_
      rotate_left
      · (intro w; go_simp; try (with_reducible rfl))
      try simp only [Act.put, List.setIfInBounds_toArray, List.set_cons_zero, List.set_cons_succ]
      refine oneT 5 (by kernel_rfl) rfl (fun K hK => ?_)
      go_simp
      go_at_call 60
      refine (cert_replica c HG.out who H1.out).mono ?_
      rintro e w2 ⟨rfl, h2⟩
      rw [hrep]
      have hS1 := h2.getBlk
      have H2 := Lib.hid h2
      clear h2
      go_wp2_with fail
      refine hK.out _ _ (Stage.still ?_) (fun hSt => ?_)
      · (try dsimp only); exact hS1
      clear hK K hSt
      try simp only [Act.put, List.setIfInBounds_toArray, List.set_cons_zero, List.set_cons_succ]
      refine takeW 6 (some 17) (v := ?_) rfl (by rfl) (by kernel_rfl) (by kernel_rfl) (by kernel_rfl) (fun _ _ _ h => h) (by kernel_rfl) (by kernel_rfl) ?_ (Stage.still (by assumption)) ?_
      rotate_left
      · (intro w; go_simp; try (with_reducible rfl))
      try simp only [Act.put, List.setIfInBounds_toArray, List.set_cons_zero, List.set_cons_succ]
      refine takeW 7 (some 18) (v := ?_) rfl (by rfl) (by kernel_rfl) (by kernel_rfl) (by kernel_rfl) (fun _ _ _ h => h) (by kernel_rfl) (by kernel_rfl) ?_ (Stage.still (by assumption)) ?_
      rotate_left
      · (intro w; go_simp; try (with_reducible rfl))
      try simp only [Act.put, List.setIfInBounds_toArray, List.set_cons_zero, List.set_cons_succ]
      refine takeW 8 (some 19) (v := ?_) rfl (by rfl) (by kernel_rfl) (by kernel_rfl) (by kernel_rfl) (fun _ _ _ h => h) (by kernel_rfl) (by kernel_rfl) ?_ (Stage.still (by assumption)) ?_
      rotate_left
      · (intro w; go_simp; try (with_reducible rfl))
      try simp only [Act.put, List.setIfInBounds_toArray, List.set_cons_zero, List.set_cons_succ]
      refine takeW 9 (some 20) (v := ?_) rfl (by rfl) (by kernel_rfl) (by kernel_rfl) (by kernel_rfl) (fun _ _ _ h => h) (by kernel_rfl) (by kernel_rfl) ?_ (Stage.still (by assumption)) ?_
      rotate_left
      · (intro w; go_simp; try (with_reducible rfl))
      try simp only [Act.put, List.setIfInBounds_toArray, List.set_cons_zero, List.set_cons_succ]
      refine takeW 10 (some 21) (v := ?_) rfl (by rfl) (by kernel_rfl) (by kernel_rfl) (by kernel_rfl) (fun _ _ _ h => h) (by kernel_rfl) (by kernel_rfl) ?_ (Stage.still (by assumption)) ?_
      rotate_left
      · (intro w; go_simp; try (with_reducible rfl))
      try simp only [Act.put, List.setIfInBounds_toArray, List.set_cons_zero, List.set_cons_succ]
      refine takeW 11 (some 22) (v := ?_) rfl (by rfl) (by kernel_rfl) (by kernel_rfl) (by kernel_rfl) (fun _ _ _ h => h) (by kernel_rfl) (by kernel_rfl) ?_ (Stage.still (by assumption)) ?_
      rotate_left
      · (intro w; go_simp; try (with_reducible rfl))
      try simp only [Act.put, List.setIfInBounds_toArray, List.set_cons_zero, List.set_cons_succ]
      refine skipT 12 (some 23) (by kernel_rfl) (by kernel_rfl) (by kernel_rfl) (by kernel_rfl) (fun _ _ _ h => h) (by kernel_rfl) (Stage.still (by assumption)) ?_
      try simp only [Act.put, List.setIfInBounds_toArray, List.set_cons_zero, List.set_cons_succ]
      refine skipT 13 (some 24) (by kernel_rfl) (by kernel_rfl) (by kernel_rfl) (by kernel_rfl) (fun _ _ _ h => h) (by kernel_rfl) (Stage.still (by assumption)) ?_
      try simp only [Act.put, List.setIfInBounds_toArray, List.set_cons_zero, List.set_cons_succ]
      refine skipT 14 (some 25) (by kernel_rfl) (by kernel_rfl) (by kernel_rfl) (by kernel_rfl) (fun _ _ _ h => h) (by kernel_rfl) (Stage.still (by assumption)) ?_
      try simp only [Act.put, List.setIfInBounds_toArray, List.set_cons_zero, List.set_cons_succ]
      refine skipT 15 (some 26) (by kernel_rfl) (by kernel_rfl) (by kernel_rfl) (by kernel_rfl) (fun _ _ _ h => h) (by kernel_rfl) (Stage.still (by assumption)) ?_
      try simp only [Act.put, List.setIfInBounds_toArray, List.set_cons_zero, List.set_cons_succ]
      refine skipT 16 (some 27) (by kernel_rfl) (by kernel_rfl) (by kernel_rfl) (by kernel_rfl) (fun _ _ _ h => h) (by kernel_rfl) (Stage.still (by assumption)) ?_
      try simp only [Act.put, List.setIfInBounds_toArray, List.set_cons_zero, List.set_cons_succ]
      refine skipT 17 (some 28) (by kernel_rfl) (by kernel_rfl) (by kernel_rfl) (by kernel_rfl) (fun _ _ _ h => h) (by kernel_rfl) (Stage.still (by assumption)) ?_
      try simp only [Act.put, List.setIfInBounds_toArray, List.set_cons_zero, List.set_cons_succ]
      refine skipT 18 (some 29) (by kernel_rfl) (by kernel_rfl) (by kernel_rfl) (by kernel_rfl) (fun _ _ _ h => h) (by kernel_rfl) (Stage.still (by assumption)) ?_
      try simp only [Act.put, List.setIfInBounds_toArray, List.set_cons_zero, List.set_cons_succ]
      refine skipT 19 (some 30) (by kernel_rfl) (by kernel_rfl) (by kernel_rfl) (by kernel_rfl) (fun _ _ _ h => h) (by kernel_rfl) (Stage.still (by assumption)) ?_
      try simp only [Act.put, List.setIfInBounds_toArray, List.set_cons_zero, List.set_cons_succ]
      refine skipT 20 (some 31) (by kernel_rfl) (by kernel_rfl) (by kernel_rfl) (by kernel_rfl) (fun _ _ _ h => h) (by kernel_rfl) (Stage.still (by assumption)) ?_
      try simp only [Act.put, List.setIfInBounds_toArray, List.set_cons_zero, List.set_cons_succ]
      refine skipT 21 (some 32) (by kernel_rfl) (by kernel_rfl) (by kernel_rfl) (by kernel_rfl) (fun _ _ _ h => h) (by kernel_rfl) (Stage.still (by assumption)) ?_
      try simp only [Act.put, List.setIfInBounds_toArray, List.set_cons_zero, List.set_cons_succ]
      refine skipT 22 (some 33) (by kernel_rfl) (by kernel_rfl) (by kernel_rfl) (by kernel_rfl) (fun _ _ _ h => h) (by kernel_rfl) (Stage.still (by assumption)) ?_
      try simp only [Act.put, List.setIfInBounds_toArray, List.set_cons_zero, List.set_cons_succ]
      refine skipT 23 (some 34) (by kernel_rfl) (by kernel_rfl) (by kernel_rfl) (by kernel_rfl) (fun _ _ _ h => h) (by kernel_rfl) (Stage.still (by assumption)) ?_
      try simp only [Act.put, List.setIfInBounds_toArray, List.set_cons_zero, List.set_cons_succ]
      refine skipT 24 (some 35) (by kernel_rfl) (by kernel_rfl) (by kernel_rfl) (by kernel_rfl) (fun _ _ _ h => h) (by kernel_rfl) (Stage.still (by assumption)) ?_
      try simp only [Act.put, List.setIfInBounds_toArray, List.set_cons_zero, List.set_cons_succ]
      refine skipT 25 (some 36) (by kernel_rfl) (by kernel_rfl) (by kernel_rfl) (by kernel_rfl) (fun _ _ _ h => h) (by kernel_rfl) (Stage.still (by assumption)) ?_
      try simp only [Act.put, List.setIfInBounds_toArray, List.set_cons_zero, List.set_cons_succ]
      refine skipT 26 (some 37) (by kernel_rfl) (by kernel_rfl) (by kernel_rfl) (by kernel_rfl) (fun _ _ _ h => h) (by kernel_rfl) (Stage.still (by assumption)) ?_
      try simp only [Act.put, List.setIfInBounds_toArray, List.set_cons_zero, List.set_cons_succ]
      refine takeW 27 (some 38) (v := ?_) rfl (by rfl) (by kernel_rfl) (by kernel_rfl) (by kernel_rfl) (fun _ _ _ h => h) (by kernel_rfl) (by kernel_rfl) ?_ (Stage.still (by assumption)) ?_
      rotate_left
      · (intro w; go_simp; try (with_reducible rfl))
      try simp only [Act.put, List.setIfInBounds_toArray, List.set_cons_zero, List.set_cons_succ]
      refine doneT (by kernel_rfl) ?_ _
      clear hS1
      have hbr : w2.heap[nr]? = _ := H2.out.swap.getBlk
      have hzz := setRow_heap w2 nr _ #[.int .i64 0, .int .i64 0, .slice none 0 0] _ _ hbr
      have HF := Lib.hid (H2.out.swap.store ((Chg.refl (· = nr) w2).row #[.int .i64 0, .int .i64 0, .slice none 0 0]) hzz)
      go_wp2_with (refine wpList_store_row rfl 28 _ _ rfl nr #[.int .i64 0, .int .i64 0, .slice none 0 0] rfl rfl _ _ hbr size3 rfl (by simp [Value.oneCell']) ?_)
      (try simp only [Exit.inBlock, Exit.then])
      refine bodyPost_ret (results_cell_tmp (cs := #[.int .i64 0, .int .i64 0, .slice none 0 0]) rfl _ _ nr _ _ _ rfl hzz Try.underlying28 rfl size3) rfl ?_
      exact ⟨rfl, by rw [upd_self hw]; exact Sys.close (vb, ob) HF.out.tail⟩
  · replace hrep : repB c who = false := by simpa using hrep
    rw [if_neg (fun e => by have := e.1; rw [hrep] at this; cases this)]
    clear hno
    go_enter Try.func41, Try.ntmps41
    go_upto_region 1 with fail
    rw [← HXR.out, ← HNR.out]
    refine wp_region_stage (fun x : World => x.heap[q]? = some (.cells #[.pointer (some ⟨p, 0, none⟩), .int .i64 c.f, .int .i64 c.n, .int .i64 c.cl, .int .i64 c.ba, .int .i64 c.mo, .int .i64 c.bt, .int .i64 c.po, .int .i64 c.wi, .map (some vb), .map (some ob)] 143 (0, 0))) [] (by kernel_rfl) ?_
    refine takeW 0 (some 11) (v := ?_) rfl (by rfl) (by kernel_rfl) (by kernel_rfl) (by kernel_rfl) (fun _ _ _ h => h) (by kernel_rfl) (by kernel_rfl) ?_ (Stage.still (by assumption)) ?_
    rotate_left
    · (intro w; go_simp; try (with_reducible rfl))
    try simp only [Act.put, List.setIfInBounds_toArray, List.set_cons_zero, List.set_cons_succ]
    refine takeW 1 (some 12) (v := ?_) rfl (by rfl) (by kernel_rfl) (by kernel_rfl) (by kernel_rfl) (fun _ _ _ h => h) (by kernel_rfl) (by kernel_rfl) ?_ (Stage.still (by assumption)) ?_
    rotate_left
    · (intro w; go_simp; try (with_reducible rfl))
    try simp only [Act.put, List.setIfInBounds_toArray, List.set_cons_zero, List.set_cons_succ]
    refine takeW 2 (some 13) (v := ?_) rfl (by rfl) (by kernel_rfl) (by kernel_rfl) (by kernel_rfl) (fun _ _ _ h => h) (by kernel_rfl) (by kernel_rfl) ?_ (Stage.still (by assumption)) ?_
    rotate_left
    · (intro w; go_simp; try (with_reducible rfl))
    try simp only [Act.put, List.setIfInBounds_toArray, List.set_cons_zero, List.set_cons_succ]
    refine takeS 3 (some 14) (v := ?_) rfl (by rfl) (by kernel_rfl) (by kernel_rfl) (by kernel_rfl) (fun _ _ _ h => h) (by kernel_rfl) (by kernel_rfl) (by kernel_rfl) ?_ (by assumption) ?_
    rotate_left
    · (intro w hSw; have c0 : w.cell? ⟨q, 1, none⟩ = some (.int .i64 c.f) := cell_of_blk hSw 1; have c1 : w.cell? ⟨q, 2, none⟩ = some (.int .i64 c.n) := cell_of_blk hSw 2; have c2 : w.cell? ⟨q, 3, none⟩ = some (.int .i64 c.cl) := cell_of_blk hSw 3; have c3 : w.cell? ⟨q, 4, none⟩ = some (.int .i64 c.ba) := cell_of_blk hSw 4; have c4 : w.cell? ⟨q, 5, none⟩ = some (.int .i64 c.mo) := cell_of_blk hSw 5; have c5 : w.cell? ⟨q, 6, none⟩ = some (.int .i64 c.bt) := cell_of_blk hSw 6; have c6 : w.cell? ⟨q, 7, none⟩ = some (.int .i64 c.po) := cell_of_blk hSw 7; have c7 : w.cell? ⟨q, 8, none⟩ = some (.int .i64 c.wi) := cell_of_blk hSw 8; clear hSw; go_simp; try (with_reducible rfl))
    try simp only [Act.put, List.setIfInBounds_toArray, List.set_cons_zero, List.set_cons_succ]
    refine takeW 4 (some 15) (v := ?_) rfl (by rfl) (by kernel_rfl) (by kernel_rfl) (by kernel_rfl) (fun _ _ _ h => h) (by kernel_rfl) (by kernel_rfl) ?_ (Stage.still (by assumption)) ?_
    rotate_left
    · (intro w; go_simp; try (with_reducible rfl))
    try simp only [Act.put, List.setIfInBounds_toArray, List.set_cons_zero, List.set_cons_succ]
    refine oneT 5 (by kernel_rfl) rfl (fun K hK => ?_)
    go_simp
    go_at_call 60
    refine (cert_replica c HG.out who H1.out).mono ?_
    rintro e w2 ⟨rfl, h2⟩
    rw [hrep]
    have hS1 := h2.getBlk
    have H2 := Lib.hid h2
    clear h2
    go_wp2_with fail
    refine hK.out _ _ (Stage.still ?_) (fun hSt => ?_)
    · (try dsimp only); exact hS1
    clear hK K hSt
    try simp only [Act.put, List.setIfInBounds_toArray, List.set_cons_zero, List.set_cons_succ]
    refine takeW 6 (some 17) (v := ?_) rfl (by rfl) (by kernel_rfl) (by kernel_rfl) (by kernel_rfl) (fun _ _ _ h => h) (by kernel_rfl) (by kernel_rfl) ?_ (Stage.still (by assumption)) ?_
    rotate_left
    · (intro w; go_simp; try (with_reducible rfl))
    try simp only [Act.put, List.setIfInBounds_toArray, List.set_cons_zero, List.set_cons_succ]
    refine takeW 7 (some 18) (v := ?_) rfl (by rfl) (by kernel_rfl) (by kernel_rfl) (by kernel_rfl) (fun _ _ _ h => h) (by kernel_rfl) (by kernel_rfl) ?_ (Stage.still (by assumption)) ?_
    rotate_left
    · (intro w; go_simp; try (with_reducible rfl))
    try simp only [Act.put, List.setIfInBounds_toArray, List.set_cons_zero, List.set_cons_succ]
    refine skipT 8 (some 19) (by kernel_rfl) (by kernel_rfl) (by kernel_rfl) (by kernel_rfl) (fun _ _ _ h => h) (by kernel_rfl) (Stage.still (by assumption)) ?_
    try simp only [Act.put, List.setIfInBounds_toArray, List.set_cons_zero, List.set_cons_succ]
    refine skipT 9 (some 20) (by kernel_rfl) (by kernel_rfl) (by kernel_rfl) (by kernel_rfl) (fun _ _ _ h => h) (by kernel_rfl) (Stage.still (by assumption)) ?_
    try simp only [Act.put, List.setIfInBounds_toArray, List.set_cons_zero, List.set_cons_succ]
    refine takeW 10 (some 21) (v := ?_) rfl (by rfl) (by kernel_rfl) (by kernel_rfl) (by kernel_rfl) (fun _ _ _ h => h) (by kernel_rfl) (by kernel_rfl) ?_ (Stage.still (by assumption)) ?_
    rotate_left
    · (intro w; go_simp; try (with_reducible rfl))
    try simp only [Act.put, List.setIfInBounds_toArray, List.set_cons_zero, List.set_cons_succ]
    refine takeW 11 (some 22) (v := ?_) rfl (by rfl) (by kernel_rfl) (by kernel_rfl) (by kernel_rfl) (fun _ _ _ h => h) (by kernel_rfl) (by kernel_rfl) ?_ (Stage.still (by assumption)) ?_
    rotate_left
    · (intro w; go_simp; try (with_reducible rfl))
    try simp only [Act.put, List.setIfInBounds_toArray, List.set_cons_zero, List.set_cons_succ]
    refine skipT 12 (some 23) (by kernel_rfl) (by kernel_rfl) (by kernel_rfl) (by kernel_rfl) (fun _ _ _ h => h) (by kernel_rfl) (Stage.still (by assumption)) ?_
    try simp only [Act.put, List.setIfInBounds_toArray, List.set_cons_zero, List.set_cons_succ]
    refine skipT 13 (some 24) (by kernel_rfl) (by kernel_rfl) (by kernel_rfl) (by kernel_rfl) (fun _ _ _ h => h) (by kernel_rfl) (Stage.still (by assumption)) ?_
    try simp only [Act.put, List.setIfInBounds_toArray, List.set_cons_zero, List.set_cons_succ]
    refine skipT 14 (some 25) (by kernel_rfl) (by kernel_rfl) (by kernel_rfl) (by kernel_rfl) (fun _ _ _ h => h) (by kernel_rfl) (Stage.still (by assumption)) ?_
    try simp only [Act.put, List.setIfInBounds_toArray, List.set_cons_zero, List.set_cons_succ]
    refine skipT 15 (some 26) (by kernel_rfl) (by kernel_rfl) (by kernel_rfl) (by kernel_rfl) (fun _ _ _ h => h) (by kernel_rfl) (Stage.still (by assumption)) ?_
    try simp only [Act.put, List.setIfInBounds_toArray, List.set_cons_zero, List.set_cons_succ]
    refine skipT 16 (some 27) (by kernel_rfl) (by kernel_rfl) (by kernel_rfl) (by kernel_rfl) (fun _ _ _ h => h) (by kernel_rfl) (Stage.still (by assumption)) ?_
    try simp only [Act.put, List.setIfInBounds_toArray, List.set_cons_zero, List.set_cons_succ]
    refine skipT 17 (some 28) (by kernel_rfl) (by kernel_rfl) (by kernel_rfl) (by kernel_rfl) (fun _ _ _ h => h) (by kernel_rfl) (Stage.still (by assumption)) ?_
    try simp only [Act.put, List.setIfInBounds_toArray, List.set_cons_zero, List.set_cons_succ]
    refine skipT 18 (some 29) (by kernel_rfl) (by kernel_rfl) (by kernel_rfl) (by kernel_rfl) (fun _ _ _ h => h) (by kernel_rfl) (Stage.still (by assumption)) ?_
    try simp only [Act.put, List.setIfInBounds_toArray, List.set_cons_zero, List.set_cons_succ]
    refine skipT 19 (some 30) (by kernel_rfl) (by kernel_rfl) (by kernel_rfl) (by kernel_rfl) (fun _ _ _ h => h) (by kernel_rfl) (Stage.still (by assumption)) ?_
    try simp only [Act.put, List.setIfInBounds_toArray, List.set_cons_zero, List.set_cons_succ]
    refine skipT 20 (some 31) (by kernel_rfl) (by kernel_rfl) (by kernel_rfl) (by kernel_rfl) (fun _ _ _ h => h) (by kernel_rfl) (Stage.still (by assumption)) ?_
    try simp only [Act.put, List.setIfInBounds_toArray, List.set_cons_zero, List.set_cons_succ]
    refine skipT 21 (some 32) (by kernel_rfl) (by kernel_rfl) (by kernel_rfl) (by kernel_rfl) (fun _ _ _ h => h) (by kernel_rfl) (Stage.still (by assumption)) ?_
    try simp only [Act.put, List.setIfInBounds_toArray, List.set_cons_zero, List.set_cons_succ]
    refine skipT 22 (some 33) (by kernel_rfl) (by kernel_rfl) (by kernel_rfl) (by kernel_rfl) (fun _ _ _ h => h) (by kernel_rfl) (Stage.still (by assumption)) ?_
    try simp only [Act.put, List.setIfInBounds_toArray, List.set_cons_zero, List.set_cons_succ]
    refine skipT 23 (some 34) (by kernel_rfl) (by kernel_rfl) (by kernel_rfl) (by kernel_rfl) (fun _ _ _ h => h) (by kernel_rfl) (Stage.still (by assumption)) ?_
    try simp only [Act.put, List.setIfInBounds_toArray, List.set_cons_zero, List.set_cons_succ]
    refine skipT 24 (some 35) (by kernel_rfl) (by kernel_rfl) (by kernel_rfl) (by kernel_rfl) (fun _ _ _ h => h) (by kernel_rfl) (Stage.still (by assumption)) ?_
    try simp only [Act.put, List.setIfInBounds_toArray, List.set_cons_zero, List.set_cons_succ]
    refine skipT 25 (some 36) (by kernel_rfl) (by kernel_rfl) (by kernel_rfl) (by kernel_rfl) (fun _ _ _ h => h) (by kernel_rfl) (Stage.still (by assumption)) ?_
    try simp only [Act.put, List.setIfInBounds_toArray, List.set_cons_zero, List.set_cons_succ]
    refine skipT 26 (some 37) (by kernel_rfl) (by kernel_rfl) (by kernel_rfl) (by kernel_rfl) (fun _ _ _ h => h) (by kernel_rfl) (Stage.still (by assumption)) ?_
    try simp only [Act.put, List.setIfInBounds_toArray, List.set_cons_zero, List.set_cons_succ]
    refine takeW 27 (some 38) (v := ?_) rfl (by rfl) (by kernel_rfl) (by kernel_rfl) (by kernel_rfl) (fun _ _ _ h => h) (by kernel_rfl) (by kernel_rfl) ?_ (Stage.still (by assumption)) ?_
    rotate_left
    · (intro w; go_simp; try (with_reducible rfl))
    try simp only [Act.put, List.setIfInBounds_toArray, List.set_cons_zero, List.set_cons_succ]
    refine doneT (by kernel_rfl) ?_ _
    clear hS1
    have hbr : w2.heap[nr]? = _ := H2.out.swap.getBlk
    have hzz := setRow_heap w2 nr _ #[.int .i64 0, .int .i64 0, .slice none 0 0] _ _ hbr
    have HF := Lib.hid (H2.out.swap.store ((Chg.refl (· = nr) w2).row #[.int .i64 0, .int .i64 0, .slice none 0 0]) hzz)
    go_wp2_with (refine wpList_store_row rfl 28 _ _ rfl nr #[.int .i64 0, .int .i64 0, .slice none 0 0] rfl rfl _ _ hbr size3 rfl (by simp [Value.oneCell']) ?_)
    (try simp only [Exit.inBlock, Exit.then])
    refine bodyPost_ret (results_cell_tmp (cs := #[.int .i64 0, .int .i64 0, .slice none 0 0]) rfl _ _ nr _ _ _ rfl hzz Try.underlying28 rfl size3) rfl ?_
    exact ⟨rfl, by rw [upd_self hw]; exact Sys.close (vb, ob) HF.out.tail⟩
end
end Go.Proofs.Ytcfhkpjheemkgaa
