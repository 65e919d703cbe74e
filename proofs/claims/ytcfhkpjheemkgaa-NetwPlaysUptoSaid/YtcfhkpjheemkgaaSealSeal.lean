/-
  (*seal.Vault).Seal: a region that draws its order.
-/
import Derived.Test.YtcfhkpjheemkgaaSeal
import Derived.Test.YtcfhkpjheemkgaaStep
namespace Go.Proofs.Ytcfhkpjheemkgaa
set_option linter.unusedSectionVars false
set_option linter.unusedSimpArgs false
set_option linter.unusedVariables false
open Go.RowKit Go.MapKept

/-- What Seal leaves: one cipher more. -/
def VaultSealed (p : Nat) (F : Nat → Prop) (need : Int) (C : List Ciph) (label : Int) (l : List UInt8) (w : World) (e : Ending) (w' : World) : Prop :=
  e = .returned (.int .i64 ((C.length : Int) + 1)) ∧ (∃ F', Vault w' p F' need (C ++ [⟨label, l, []⟩]) ∧ ∀ k, F' k → F k ∨ w.heap.size ≤ k) ∧ Chg F w w'

theorem sealed_fin {w x y : World} {p : Nat} {F : Nat → Prop} {need : Int} {v : Value} {es : List CiphAt} (V : VaultAt w p need v es) (hF : ∀ k, F k ↔ k = p ∨ v.ownBlock = some k ∨ ∃ c ∈ es, k = c.mb ∨ c.pv.ownBlock = some k)
    (hx : Chg none_ w x) {mb : Nat} (hmb : w.heap.size ≤ mb) (hM : MapOf intKey x mb []) {cv : Value} {l : List UInt8} (hcv : Own 5 1 x cv l.length (bcells l)) (hcb : ∀ k, cv.ownBlock = some k → w.heap.size ≤ k ∧ k ≠ mb)
    {label : Int} {v' : Value} (hv : Own 124 3 y v' (es.length + 1) (flat3 es ++ [.int .i64 label, cv, .map (some mb)])) (hy : Chg (fun k => v.ownBlock = some k) x y) (hb : v'.ownBlock = v.ownBlock ∨ ∃ k, v'.ownBlock = some k ∧ x.heap.size ≤ k) :
    (∃ F', Vault (y.setCell ⟨p, 1, none⟩ v') p F' need (es.map (·.toCiph) ++ [⟨label, l, []⟩]) ∧ ∀ k, F' k → F k ∨ w.heap.size ≤ k) ∧ Chg F w (y.setCell ⟨p, 1, none⟩ v') ∧
      (y.setCell ⟨p, 1, none⟩ v').cell? ⟨p, 1, none⟩ = some v' := by
  have hp : p < w.heap.size := blk_lt V.here
  have hc : Chg F w y := (hx.mono fun _ _ h => h.elim).step hy fun i hi => .inl ((hF _).2 (.inr (.inl hi)))
  have hyz := Chg.refl (· = p) y |>.put 1 v'
  have hvlt : ∀ k, v.ownBlock = some k → k < w.heap.size := fun k hk => V.row.lt hk
  have hmlt : ∀ c ∈ es, c.mb < w.heap.size := fun c hc => (V.map c hc).lt
  have htlt : ∀ c ∈ es, ∀ k, c.pv.ownBlock = some k → k < w.heap.size := fun c hc k hk => (V.text c hc).lt hk
  have hxs := hx.size
  have hnb : ∀ k, v'.ownBlock = some k → v.ownBlock = some k ∨ x.heap.size ≤ k := by
    intro k hk
    rcases hb with h | ⟨k', h, hle⟩
    · exact .inl (h ▸ hk)
    · rw [h] at hk; cases hk; exact .inr hle
  have herep : y.heap[p]? = some (.cells #[.int .i64 need, v] 127 (0, 0)) := hy.blk (hx.blk V.here (fun h => h)) (fun e => V.rowp e)
  have hw' : (y.setCell ⟨p, 1, none⟩ v').heap[p]? = some (.cells #[.int .i64 need, v'] 127 (0, 0)) := setCell_same (i := 1) v' herep
  obtain ⟨x2, hx2⟩ : ∃ x2 : CiphAt, x2 = ⟨⟨label, l, []⟩, cv, mb⟩ := ⟨_, rfl⟩
  have hmem : ∀ c ∈ es ++ [x2], c ∈ es ∨ c = x2 := by intro c hc; simpa using hc
  refine ⟨⟨fun k => k = p ∨ v'.ownBlock = some k ∨ ∃ c ∈ es ++ [x2], k = c.mb ∨ c.pv.ownBlock = some k, ⟨v', es ++ [x2], ⟨hw', ?_, ?_, ?_, ?_, ?_, ?_, ?_, ?_, ?_, ?_⟩, fun _ => Iff.rfl, by simp [hx2]⟩, ?_⟩, hc.setCell (.inl ((hF _).2 (.inl rfl))) v', by rw [cell_of_blk hw']; rfl⟩
  · rw [flat3_snoc, hx2]
    simpa using hv.chg hyz (fun k hk e => by
      subst e
      rcases hnb _ hk with h | h
      · exact V.rowp h
      · omega)
  · intro c hc
    rcases hmem c hc with hc | rfl
    · exact (((V.text c hc).chg hx (fun _ _ h => h)).chg hy (fun k hk => V.textr c hc k hk)).chg hyz (fun k hk e => V.textp c hc (e ▸ hk))
    · subst hx2
      refine (hcv.chg hy (fun k hk h => ?_)).chg hyz (fun k hk e => ?_)
      · have := hvlt k h; have := (hcb k hk).1; omega
      · subst e; have := (hcb _ hk).1; omega
  · intro c hc
    rcases hmem c hc with hc | rfl
    · exact (((V.map c hc).chg hx (fun h => h)).chg hy (V.rowm c hc)).chg hyz (fun e => (List.nodup_cons.1 V.maps).1 (e ▸ List.mem_map.2 ⟨c, hc, rfl⟩))
    · subst hx2
      exact (hM.chg hy (fun h => by have := hvlt _ h; omega)).chg hyz (fun e => by have e' : mb = p := e; omega)
  · intro c hc
    rcases hmem c hc with hc | rfl
    · exact V.wf c hc
    · subst hx2; simp
  · have h1 := V.maps
    rw [List.nodup_cons] at h1 ⊢
    rw [List.map_append, List.nodup_append]
    refine ⟨?_, h1.2, by simp, ?_⟩
    · subst hx2
      intro h
      rcases List.mem_append.1 h with h | h
      · exact h1.1 h
      · simp at h; omega
    · subst hx2
      intro a ha b hb e
      obtain ⟨c, hc, rfl⟩ := List.mem_map.1 ha
      have := hmlt c hc
      simp at hb; omega
  · intro h
    rcases hnb _ h with h | h
    · exact V.rowp h
    · omega
  · intro c hc h
    rcases hmem c hc with hc | rfl
    · rcases hnb _ h with h | h
      · exact V.rowm c hc h
      · have := hmlt c hc; omega
    · subst hx2
      have := hM.lt
      rcases hnb _ h with h | h
      · have := hvlt _ h; have e1 : mb < w.heap.size := this; omega
      · have e1 : x.heap.size ≤ mb := h; omega
  · intro c hc
    rcases hmem c hc with hc | rfl
    · exact V.textp c hc
    · subst hx2; intro h; have := (hcb _ h).1; omega
  · intro c hc d hd h
    rcases hmem c hc with hc' | rfl
    · rcases hmem d hd with hd' | rfl
      · exact V.textm c hc' d hd' h
      · subst hx2; have := htlt c hc' _ h; simp at *; omega
    · subst hx2
      rcases hmem d hd with hd' | rfl
      · have := (hcb _ h).1; have := hmlt d hd'; omega
      · exact (hcb _ h).2 rfl
  · intro c hc k hk h
    rcases hmem c hc with hc | rfl
    · rcases hnb _ h with h | h
      · exact V.textr c hc k hk h
      · have := htlt c hc k hk; omega
    · subst hx2
      have hlt := hcv.lt hk
      rcases hnb _ h with h | h
      · have := hvlt _ h; have := (hcb _ hk).1; omega
      · omega
  · rintro k (rfl | h | ⟨c, hc, h⟩)
    · exact .inl ((hF _).2 (.inl rfl))
    · rcases hnb _ h with h | h
      · exact .inl ((hF _).2 (.inr (.inl h)))
      · right; omega
    · rcases hmem c hc with hc | rfl
      · exact .inl ((hF _).2 (.inr (.inr ⟨c, hc, h⟩)))
      · subst hx2
        rcases h with h | h
        · right; simp at h; omega
        · exact .inr (hcb k h).1

set_option maxRecDepth 100000 in
set_option maxHeartbeats 4000000 in
theorem seal_seal (p : Nat) (F : Nat → Prop) (need : Int) (C : List Ciph) (label : Int) (a : Option Addr) (l : List UInt8) (cap : Nat) (w : World) (h : Vault w p F need C) (hn : C.length ≤ 1000000000) (ha : BytesAt w a l) (han : a = none → l = []) (hl : l.length ≤ 1000000000) :
    Calls Try.prog 61 #[.pointer (some ⟨p, 0, none⟩), .int .i64 label, .slice a l.length cap] w (VaultSealed p F need C label l w) := by
  obtain ⟨v, es, V, hF, rfl⟩ := h
  obtain ⟨av, cv, rfl, hcc, hm, c0, c1, c2⟩ := V.cells
  rw [List.length_map] at hn
  have hp : p < w.heap.size := blk_lt V.here
  obtain ⟨i, hi, hz, hs, hby⟩ := info_parts' (P := Try.prog) (e := 124) (z := some (.agg #[.int .i64 0, .slice none 0 0, .map none])) (s := 3) (b := 40) (by kernel_rfl)
  have hcell : ∀ x, Chg none_ w x → x.cell? ⟨p, 1, none⟩ = some (.slice av es.length cv) := fun x hx => hx.cell c1 (fun h => h)
  have hclone : ∀ x, Chg none_ w x → Calls Try.prog 66 #[.slice a l.length cap] x (Cloned l x) := fun x hx => clone_any a l cap x (ha.chg0 hx) han hl
  have hfin : ∀ x y mb cvv v', Chg none_ w x → w.heap.size ≤ mb → MapOf intKey x mb [] → Own 5 1 x cvv l.length (bcells l) → (∀ k, cvv.ownBlock = some k → w.heap.size ≤ k ∧ k ≠ mb) → Own 124 3 y v' (es.length + 1) (flat3 es ++ [.int .i64 label, cvv, .map (some mb)]) → Chg (fun k => (Value.slice av es.length cv).ownBlock = some k) x y → (v'.ownBlock = (Value.slice av es.length cv).ownBlock ∨ ∃ k, v'.ownBlock = some k ∧ x.heap.size ≤ k) →
    (∃ F', Vault (y.setCell ⟨p, 1, none⟩ v') p F' need (es.map (·.toCiph) ++ [⟨label, l, []⟩]) ∧ ∀ k, F' k → F k ∨ w.heap.size ≤ k) ∧ Chg F w (y.setCell ⟨p, 1, none⟩ v') ∧ (y.setCell ⟨p, 1, none⟩ v').cell? ⟨p, 1, none⟩ = some v' :=
    fun x y mb cvv v' h1 h2 h3 h4 h5 h6 h7 h8 => sealed_fin V hF h1 h2 h3 h4 h5 h6 h7 h8
  have hown : ∀ x, Chg none_ w x → Own 124 3 x (.slice av es.length cv) es.length (flat3 es) := fun x hx => V.row.chg hx (fun _ _ h => h)
  have hfrz : ∀ x y, Chg none_ w x → Chg (fun k => (Value.slice av es.length cv).ownBlock = some k) x y → y.frozen? ⟨p, 1, none⟩ = false ∧ y.cell? ⟨p, 1, none⟩ = some (.slice av es.length cv) := fun x y hx hy => by
    have := hy.blk (hx.blk V.here (fun h => h)) (fun e => V.rowp e)
    exact ⟨frozen_of_blk this 1, (cell_of_blk this 1).trans rfl⟩
  have HFIN := Lib.hid hfin
  have HOWN := Lib.hid hown
  have HFRZ := Lib.hid hfrz
  have HCELL := Lib.hid hcell
  have HCLONE := Lib.hid hclone
  have hW := Chg.refl none_ w
  have hmm := @run_makeMap Try.prog
  have hd1 := fun o => hcell (w.drew.alloc o) (by repeat (first | (with_reducible assumption) | (with_reducible exact Chg.refl _ _) | (with_reducible refine Chg.alloc ?_ _) | (with_reducible refine Chg.drew ?_) | (with_reducible refine Chg.drewN ?_ _) | (with_reducible refine Chg.trans ?_ (Chg.of_below (by with_reducible assumption)))))
  have hd2 := fun o o' => hcell ((w.drew.alloc o).alloc o') (by repeat (first | (with_reducible assumption) | (with_reducible exact Chg.refl _ _) | (with_reducible refine Chg.alloc ?_ _) | (with_reducible refine Chg.drew ?_) | (with_reducible refine Chg.drewN ?_ _) | (with_reducible refine Chg.trans ?_ (Chg.of_below (by with_reducible assumption)))))
  clear V c2 hF ha han hfin hown hfrz hcell hclone hcc hm
  generalize hes : es.length = n at *
  generalize flat3 es = fl at *
  go_enter Try.func61, Try.ntmps61
  go_wp2_with fail
  go_region_law (first
    | (go_at_call 66; go_simp)
    | (go_simp; go_at_call 66; refine (HCLONE.out _ (by repeat (first | (with_reducible assumption) | (with_reducible exact Chg.refl _ _) | (with_reducible refine Chg.alloc ?_ _) | (with_reducible refine Chg.drew ?_) | (with_reducible refine Chg.drewN ?_ _) | (with_reducible refine Chg.trans ?_ (Chg.of_below (by with_reducible assumption)))))).mono ?_; rintro e w1 ⟨cv, rfl, ho1, hb1, hB1⟩; obtain ⟨ac, cpc, rfl, -⟩ := ho1.open; have hc1 := HCELL.out w1 (by repeat (first | (with_reducible assumption) | (with_reducible exact Chg.refl _ _) | (with_reducible refine Chg.alloc ?_ _) | (with_reducible refine Chg.drew ?_) | (with_reducible refine Chg.drewN ?_ _) | (with_reducible refine Chg.trans ?_ (Chg.of_below (by with_reducible assumption))))); have hc2 := fun o => HCELL.out (w1.alloc o) (by repeat (first | (with_reducible assumption) | (with_reducible exact Chg.refl _ _) | (with_reducible refine Chg.alloc ?_ _) | (with_reducible refine Chg.drew ?_) | (with_reducible refine Chg.drewN ?_ _) | (with_reducible refine Chg.trans ?_ (Chg.of_below (by with_reducible assumption))))); have hc3 := fun o o' => HCELL.out ((w1.alloc o).alloc o') (by repeat (first | (with_reducible assumption) | (with_reducible exact Chg.refl _ _) | (with_reducible refine Chg.alloc ?_ _) | (with_reducible refine Chg.drew ?_) | (with_reducible refine Chg.drewN ?_ _) | (with_reducible refine Chg.trans ?_ (Chg.of_below (by with_reducible assumption))))))
    | (refine step_own_append rfl (.tmp 11) (.tmp 17) 125 rfl Try.underlying125 hi hz hs hby rfl (by decide) (by simp [Act.eval] <;> rfl) (HOWN.out _ (by repeat (first | (with_reducible assumption) | (with_reducible exact Chg.refl _ _) | (with_reducible refine Chg.alloc ?_ _) | (with_reducible refine Chg.drew ?_) | (with_reducible refine Chg.drewN ?_ _) | (with_reducible refine Chg.trans ?_ (Chg.of_below (by with_reducible assumption)))))) (by simp [Act.eval] <;> rfl) _ (alloc_new _ _ _ (by simp)) rfl (by simp [Value.oneCell']) (by omega) (by unfold maxLen; omega) ?_; intro v' w' hv' hw' hb'; obtain ⟨av', cv', rfl, -⟩ := hv'.open; obtain ⟨hf1, hf2⟩ := HFRZ.out _ w' (by repeat (first | (with_reducible assumption) | (with_reducible exact Chg.refl _ _) | (with_reducible refine Chg.alloc ?_ _) | (with_reducible refine Chg.drew ?_) | (with_reducible refine Chg.drewN ?_ _) | (with_reducible refine Chg.trans ?_ (Chg.of_below (by with_reducible assumption))))) hw'))
  all_goals
    have hsz1 : w.heap.size ≤ w1.heap.size := by have := hB1.size; simp at this; omega
    first
    | (have hfin := HFIN.out _ w' w1.heap.size _ _ (by repeat (first | (with_reducible assumption) | (with_reducible exact Chg.refl _ _) | (with_reducible refine Chg.alloc ?_ _) | (with_reducible refine Chg.drew ?_) | (with_reducible refine Chg.drewN ?_ _) | (with_reducible refine Chg.trans ?_ (Chg.of_below (by with_reducible assumption))))) (by omega) ((MapOf.made w1 _ rfl).alloc _) ((ho1.alloc _).alloc _) (fun k hk => ⟨by have := hb1 k hk; simp at this; omega, by have := ho1.lt hk; omega⟩) hv' hw' hb')
    | (have hfin := HFIN.out _ w' w.drew.heap.size _ _ (by repeat (first | (with_reducible assumption) | (with_reducible exact Chg.refl _ _) | (with_reducible refine Chg.alloc ?_ _) | (with_reducible refine Chg.drew ?_) | (with_reducible refine Chg.drewN ?_ _) | (with_reducible refine Chg.trans ?_ (Chg.of_below (by with_reducible assumption))))) (Nat.le_refl _) (((MapOf.made w.drew _ rfl).chg (S := none_) (Chg.of_below hB1) (fun h => h)).alloc _) (ho1.alloc _) (fun k hk => ⟨by have := hb1 k hk; simp at this; omega, by have := hb1 k hk; simp at this ⊢; omega⟩) hv' hw' hb')
    obtain ⟨q1, q2, q3⟩ := hfin
    clear HFIN HOWN HCELL HCLONE HFRZ hd1 hd2 hc1 hc2 hc3 hf1 hf2 hw' hv' hb' ho1 hb1 hB1 c0 c1 hmm hi hz hs hby hsz1
    generalize w'.setCell _ _ = wz at *
    go_wp2_with fail
    go_ret
    exact ⟨by simp [hes], q1, q2⟩
end Go.Proofs.Ytcfhkpjheemkgaa
