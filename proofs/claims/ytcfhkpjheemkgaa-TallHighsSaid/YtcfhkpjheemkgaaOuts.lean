/-
  Who gives up a view is counted: what is kept of it.
-/
import Derived.Test.YtcfhkpjheemkgaaCounts
namespace Go.Proofs.Ytcfhkpjheemkgaa
set_option linter.unusedSectionVars false
set_option linter.unnecessarySimpa false
set_option linter.unusedSimpArgs false
set_option linter.unusedVariables false
open Go.RowKit Go.MapKept

section
variable {w w' : World} {m : Nat → Thing} {l : List Thing}
theorem Sys.memMap {α : Type} [DecidableEq α] {K : KeyEnc α} {b : Nat} {x : List (α × Value)} (h : Sys w m l) (ht : mapT K b x ∈ l) : MapOf K w b x := by obtain ⟨F, hF⟩ := h.mem ht; exact hF.1
theorem Sys.memOwn {E size n : Nat} {v : Value} {xs : List Value} (h : Sys w m l) (ht : own E size v n xs ∈ l) : Own E size w v n xs := by obtain ⟨F, hF⟩ := h.mem ht; exact hF.1
def iMap (I : List OutI) : List (Int × Value) := I.map fun i => (i.who, i.cell)
def iKv (I : List OutI) : List (Int × QcX) := I.map fun i => (i.who, i.q)
def outsF (ob : Nat) (O : List (Int × List (Int × QcX))) (R : List OutE) : List Thing :=
  pureT (O = R.map (fun e => (e.view, iKv e.l)) ∧ ∀ e ∈ R, AllWf (e.l.map (·.who))) :: mapT intKey ob (R.map fun e => (e.view, .map (some e.blk))) :: R.flatMap OutE.in_
theorem outsT_eq (ob : Nat) (O : List (Int × List (Int × QcX))) : outsT ob O = ex (outsF ob O) := rfl
variable {ob : Nat} {O : List (Int × List (Int × QcX))} {k : Int} {L : List (Int × QcX)}
theorem flat_perm {α : Type} (f : α → List Thing) : ∀ (l : List α) (i : Nat) (t : α), l[i]? = some t → (l.flatMap f).Perm (f t ++ (l.eraseIdx i).flatMap f) := fun l i t h => by
  have := (erase_perm l i t h).flatMap_right f
  simpa using this
theorem flat_set {α : Type} (f : α → List Thing) : ∀ (l : List α) (i : Nat) (t x : α), l[i]? = some t → ((l.set i x).flatMap f).Perm (f x ++ (l.eraseIdx i).flatMap f) := fun l i t x h => by
  have := (set_perm l i t x h).flatMap_right f
  simpa using this
theorem outs_focus (h : Sys w m (outsT ob O :: l)) (hk : alook O k = some L) : ∃ b I mm R, alook mm k = some (.map (some b)) ∧ L = iKv I ∧ AllWf (I.map (·.who)) ∧ Sys w m (mapT intKey b (iMap I) :: (I.map OutI.row ++ (mapT intKey ob mm :: (R ++ l)))) ∧
    ∀ w' m' l' I', AllWf (I'.map (·.who)) → Sys w' m' (mapT intKey b (iMap I') :: (I'.map OutI.row ++ (mapT intKey ob mm :: (R ++ l')))) → Sys w' m' (outsT ob (aset O k (iKv I')) :: l') := by
  rw [outsT_eq] at h
  obtain ⟨S, h⟩ := h.open
  obtain ⟨⟨rfl, hwf⟩, h2⟩ := Sys.pure (l := mapT intKey ob (S.map fun e => (e.view, .map (some e.blk))) :: (S.flatMap OutE.in_ ++ l)) h
  obtain ⟨j, e, hj, rfl, rfl, h4⟩ := alook_map2 OutE.view (fun e => iKv e.l) (fun e => Value.map (some e.blk)) S k L hk
  have hnd := h2.getMap.nodup
  have hnd' : (S.map (·.view)).Nodup := by simpa [List.map_map, Function.comp_def] using hnd
  refine ⟨e.blk, e.l, _, (S.eraseIdx j).flatMap OutE.in_, h4, rfl, hwf e (List.mem_of_getElem? hj), ?_, fun w' m' l' I' hI' h' => ?_⟩
  · refine h2.perm ?_
    refine (List.Perm.cons _ ((flat_perm OutE.in_ S j e hj).append_right l)).trans ?_
    have := (List.perm_middle (a := mapT intKey ob (S.map fun e => (e.view, Value.map (some e.blk)))) (l₁ := OutE.in_ e) (l₂ := (S.eraseIdx j).flatMap OutE.in_ ++ l)).symm
    simpa [OutE.in_, iMap] using this
  · have hs : aset (S.map fun e => (e.view, iKv e.l)) e.view (iKv I') = (S.set j { e with l := I' }).map (fun e => (e.view, iKv e.l)) := by
      rw [(aset_at (m := S.map fun e => (e.view, iKv e.l)) (j := j) (x := iKv e.l) (by simpa [List.map_map, Function.comp_def] using hnd') (by simp [hj])).1, List.map_set]
    have hm : (S.set j { e with l := I' }).map (fun e => (e.view, Value.map (some e.blk))) = S.map (fun e => (e.view, Value.map (some e.blk))) := map_set_same _ S j e _ hj rfl
    rw [outsT_eq]
    refine Sys.close (f := outsF _ _) (S.set j { e with l := I' }) ?_
    refine Sys.addPure ?_ ⟨hs, fun x hx => ?_⟩
    · rw [hm]
      refine h'.perm ?_
      refine List.Perm.trans ?_ (List.Perm.cons _ ((flat_set OutE.in_ S j e { e with l := I' } hj).append_right l').symm)
      have := (List.perm_middle (a := mapT intKey ob (S.map fun e => (e.view, Value.map (some e.blk)))) (l₁ := OutE.in_ { e with l := I' }) (l₂ := (S.eraseIdx j).flatMap OutE.in_ ++ l'))
      simpa [OutE.in_, iMap] using this
    · rcases mem_set hx with rfl | ⟨i, _, hi⟩
      · exact hI'
      · exact hwf x (List.mem_of_getElem? hi)
theorem outs_none (h : Sys w m (outsT ob O :: l)) (hk : alook O k = none) : ∃ mm R, alook mm k = none ∧ Sys w m (mapT intKey ob mm :: (R ++ l)) ∧
    ∀ w' m' l' b I', AllWf (I'.map (·.who)) → Sys w' m' (mapT intKey b (iMap I') :: (I'.map OutI.row ++ (mapT intKey ob (aset mm k (.map (some b))) :: (R ++ l')))) → Sys w' m' (outsT ob (aset O k (iKv I')) :: l') := by
  rw [outsT_eq] at h
  obtain ⟨S, h⟩ := h.open
  obtain ⟨⟨rfl, hwf⟩, h2⟩ := Sys.pure (l := mapT intKey ob (S.map fun e => (e.view, .map (some e.blk))) :: (S.flatMap OutE.in_ ++ l)) h
  have hn : alook (S.map fun e => (e.view, Value.map (some e.blk))) k = none := by
    rw [alook_none] at hk ⊢
    simpa [List.map_map, Function.comp_def] using hk
  refine ⟨_, S.flatMap OutE.in_, hn, h2, fun w' m' l' b I' hI' h' => ?_⟩
  have hs : aset (S.map fun e => (e.view, iKv e.l)) k (iKv I') = (S ++ [(⟨k, b, I'⟩ : OutE)]).map (fun e => (e.view, iKv e.l)) := by rw [aset_none hk]; simp
  rw [outsT_eq]
  refine Sys.close (f := outsF _ _) (S ++ [(⟨k, b, I'⟩ : OutE)]) ?_
  refine Sys.addPure ?_ ⟨hs, fun x hx => ?_⟩
  · have he : aset (S.map fun e => (e.view, Value.map (some e.blk))) k (.map (some b)) = (S ++ [(⟨k, b, I'⟩ : OutE)]).map (fun e : OutE => (e.view, Value.map (some e.blk))) := by rw [aset_none hn]; simp
    rw [he] at h'
    refine h'.perm ?_
    have h1 := (List.perm_middle (a := mapT intKey ob ((S ++ [(⟨k, b, I'⟩ : OutE)]).map fun e => (e.view, Value.map (some e.blk)))) (l₁ := OutE.in_ ⟨k, b, I'⟩) (l₂ := S.flatMap OutE.in_ ++ l'))
    have h2 : (OutE.in_ ⟨k, b, I'⟩ ++ (S.flatMap OutE.in_ ++ l')).Perm ((S ++ [(⟨k, b, I'⟩ : OutE)]).flatMap OutE.in_ ++ l') := by
      rw [List.flatMap_append, ← List.append_assoc]
      refine List.Perm.append_right l' ?_
      simpa using List.perm_append_comm (l₁ := OutE.in_ ⟨k, b, I'⟩) (l₂ := S.flatMap OutE.in_)
    have h3 := h1.trans (List.Perm.cons _ h2)
    simpa [OutE.in_, iMap] using h3
  · rcases List.mem_append.1 hx with hx | hx
    · exact hwf x hx
    · simp at hx; subst hx; exact hI'
end
end Go.Proofs.Ytcfhkpjheemkgaa
