/-
  The reference's Pairs: who did what to which, in a row behind a pointer.
-/
import Derived.Test.YtjllejlgclfahaaRising
import Derived.Test.YtjllejlgclfahaaSign
namespace Go.Proofs.Ytjllejlgclfahaa
open Go.RowKit Go.MapKept

def flat2 (l : List (Int × Int)) : List Value := l.flatMap fun q => [.int .i64 q.1, .int .i64 q.2]
theorem flat2_snoc (l : List (Int × Int)) (q : Int × Int) : flat2 (l ++ [q]) = flat2 l ++ [.int .i64 q.1, .int .i64 q.2] := by simp [flat2]
theorem flat2_length (l : List (Int × Int)) : (flat2 l).length = l.length * 2 := by
  induction l with
  | nil => rfl
  | cons q l ih => simp only [flat2, List.flatMap_cons, List.length_append, List.length_cons, List.length_nil] at *; omega
theorem flat2_at (l : List (Int × Int)) (i : Nat) (h : i < l.length) : (flat2 l)[i * 2]? = some (.int .i64 l[i].1) ∧ (flat2 l)[i * 2 + 1]? = some (.int .i64 l[i].2) := by
  induction l generalizing i with
  | nil => simp at h
  | cons q l ih =>
    cases i with
    | zero => simp [flat2]
    | succ i =>
      have := ih i (by simpa using h)
      have e1 : (i + 1) * 2 = i * 2 + 2 := by omega
      have e2 : (i + 1) * 2 + 1 = (i * 2 + 1) + 2 := by omega
      constructor
      · rw [e1]; simpa [flat2] using this.1
      · rw [e2]; simpa [flat2] using this.2
/-- Who did it to one thing. -/
def pf (l : List (Int × Int)) (d : Int) : List Int := (l.filter fun q => q.2 == d).map (·.1)
theorem mem_pf {l : List (Int × Int)} {d a : Int} : a ∈ pf l d ↔ (a, d) ∈ l := by
  unfold pf
  rw [List.mem_map]
  constructor
  · rintro ⟨⟨x, y⟩, h, rfl⟩
    obtain ⟨h1, h2⟩ := List.mem_filter.1 h
    have : y = d := by simpa using h2
    subst this; exact h1
  · intro h; exact ⟨(a, d), List.mem_filter.2 ⟨h, by simp⟩, rfl⟩
theorem pf_snoc (l : List (Int × Int)) (a d x : Int) : pf (l ++ [(a, d)]) x = if x = d then pf l x ++ [a] else pf l x := by
  unfold pf
  rw [List.filter_append, List.map_append]
  by_cases h : x = d
  · subst h; simp
  · have : (d == x) = false := by simp; exact fun e => h e.symm
    simp [this, h]

/-- The row v of pairs, told by who did what; no more than N. -/
def PairsV (w : World) (v : Value) (f : Int → List Int) (N : Nat) : Prop := ∃ l, Own 112 2 w v l.length (flat2 l) ∧ l.length ≤ N ∧ (∀ d, f d = pf l d) ∧ l.Nodup
section
variable {w w' : World} {v : Value} {f g : Int → List Int} {N M : Nat}
theorem PairsV.nil (w : World) : PairsV w (.slice none 0 0) (fun _ => []) 0 := ⟨[], Own.nil _ _ _, Nat.le_refl _, fun _ => rfl, List.nodup_nil⟩
theorem PairsV.lt (h : PairsV w v f N) {k : Nat} (hk : v.ownBlock = some k) : k < w.heap.size := by
  obtain ⟨l, h1, _⟩ := h
  exact h1.lt hk
theorem PairsV.chg {S : Nat → Prop} (h : PairsV w v f N) (hc : Chg S w w') (hs : ∀ k, v.ownBlock = some k → ¬ S k) : PairsV w' v f N := by
  obtain ⟨l, h1, h2, h3, h4⟩ := h
  exact ⟨l, h1.chg hc hs, h2, h3, h4⟩
theorem PairsV.below (h : PairsV w v f N) (hb : Below w.heap.size w w') : PairsV w' v f N := h.chg (S := none_) (Chg.of_below hb) fun _ _ h => h
theorem PairsV.congr (h : PairsV w v f N) (e : ∀ d, g d = f d) : PairsV w v g N := by
  obtain ⟨l, h1, h2, h3, h4⟩ := h
  exact ⟨l, h1, h2, fun d => (e d).trans (h3 d), h4⟩
theorem PairsV.more (h : PairsV w v f N) (hm : N ≤ M) : PairsV w v f M := by
  obtain ⟨l, h1, h2, h3, h4⟩ := h
  exact ⟨l, h1, Nat.le_trans h2 hm, h3, h4⟩
theorem pf_nodup {l : List (Int × Int)} (h : l.Nodup) (d : Int) : (pf l d).Nodup := by
  unfold pf
  refine List.pairwise_map.2 ((h.filter _).imp_of_mem ?_)
  intro a b ha hb hne e
  have h1 := (List.mem_filter.1 ha).2
  have h2 := (List.mem_filter.1 hb).2
  have h1' : a.2 = d := by simpa using h1
  have h2' : b.2 = d := by simpa using h2
  exact hne (Prod.ext e (h1'.trans h2'.symm))
theorem PairsV.nodup (h : PairsV w v f N) (d : Int) : (f d).Nodup := by
  obtain ⟨l, h1, h2, h3, h4⟩ := h
  rw [h3 d]; exact pf_nodup h4 d
theorem PairsV.length (h : PairsV w v f N) (d : Int) : (f d).length ≤ N := by
  obtain ⟨l, h1, h2, h3, h4⟩ := h
  rw [h3 d]; unfold pf
  rw [List.length_map]
  exact Nat.le_trans (List.length_filter_le _ _) h2
end

set_option maxRecDepth 100000 in
set_option maxHeartbeats 2000000 in
theorem pairs_has (b off : Nat) (v : Value) (f : Int → List Int) (N : Nat) (who d : Int) (w : World) (c0 : w.cell? ⟨b, off, none⟩ = some v) (h : PairsV w v f N) (hN : N ≤ 100000) :
    Calls Try.prog 38 #[.pointer (some ⟨b, off, none⟩), .int .i64 who, .int .i64 d] w fun e w' => e = .returned (.bool (decide (who ∈ f d))) ∧ w = w' := by
  obtain ⟨l, h2, h4, hf, _⟩ := h
  rw [hf d]
  obtain ⟨a, cap, rfl, hcap, hcm, hxl, ha⟩ := h2.open
  obtain ⟨n, hn⟩ : ∃ n, n = l.length := ⟨_, rfl⟩
  rw [← hn] at c0 h4 ha hcap
  have HA := Lib.hid ha
  have HN := Lib.hid hn
  have hnb : n ≤ 100000 := by omega
  clear h2 h4 hf ha hn hxl
  go_enter Try.func38, Try.ntmps38
  go_wp2_with fail
  go_loop [7] (fun i => ∃ k : Nat, k ≤ n ∧ i = .int .i64 k ∧ ∀ j, j < k → l[j]? ≠ some (who, d)) (fun i => n - (intOf i).toNat)
  case atStart => exact ⟨0, by omega, rfl, by intro j hj; omega⟩
  case round =>
    obtain ⟨k, hk, rfl, hno⟩ := hrel
    have HNO := Lib.hid hno
    clear hno
    by_cases hlt : k < n
    · have q : ∃ g, a = some ⟨g, 0, none⟩ ∧ w.cell? ⟨g, k * 2, none⟩ = some (.int .i64 (l.getD k (0, 0)).1) ∧ w.cell? ⟨g, k * 2 + 1, none⟩ = some (.int .i64 (l.getD k (0, 0)).2) := by
        have hkl : k < l.length := by have := HN.out; omega
        rcases HA.out with ⟨_, h, _⟩ | ⟨g, cs, e, hg, _, ht⟩
        · omega
        · obtain ⟨f1, f2⟩ := flat2_at l k hkl
          have e1 : l.getD k (0, 0) = l[k] := by simp [List.getD, hkl]
          rw [e1]
          exact ⟨g, e, own_cell hg ht (by omega) f1, own_cell hg ht (by omega) f2⟩
      obtain ⟨g, rfl, hc1, hc2⟩ := q
      have hel : l[k]? = some (l.getD k (0, 0)) := by
        have hkl : k < l.length := by have := HN.out; omega
        simp [List.getD, hkl]
      generalize l.getD k (0, 0) = q at hc1 hc2 hel
      obtain ⟨x, y⟩ := q
      simp only at hc1 hc2
      have HEL := Lib.hid hel
      clear hel
      by_cases hx : x = who
      · have hx1 : (x == who) = true := by simpa using hx
        have HX := Lib.hid hx
        clear hx
        by_cases hy : y = d
        · have hy1 : (y == d) = true := by simpa using hy
          have HY := Lib.hid hy
          clear hy
          go_wp2_with fail
          go_ret
          refine ⟨?_, rfl⟩
          have : who ∈ pf l d := mem_pf.2 (List.mem_of_getElem? (by rw [HEL.out, HX.out, HY.out]))
          simp [this]
        · have hy1 : (y == d) = false := by simpa using hy
          have HY := Lib.hid hy
          clear hy
          go_wp2_with fail
          go_round
          case rel =>
            refine ⟨k + 1, by omega, by go_num, fun j hj => ?_⟩
            by_cases e : j = k
            · subst e; rw [HEL.out]; intro h; cases h; exact HY.out rfl
            · exact HNO.out j (by omega)
          case measure => simp [intOf]; omega
      · have hx1 : (x == who) = false := by simpa using hx
        have HX := Lib.hid hx
        clear hx
        go_wp2_with fail
        go_round
        case rel =>
          refine ⟨k + 1, by omega, by go_num, fun j hj => ?_⟩
          by_cases e : j = k
          · subst e; rw [HEL.out]; intro h; cases h; exact HX.out rfl
          · exact HNO.out j (by omega)
        case measure => simp [intOf]; omega
    · go_wp2_with fail
      go_ret
      refine ⟨?_, rfl⟩
      have : who ∉ pf l d := by
        rw [mem_pf]
        intro h
        obtain ⟨j, hj, e⟩ := List.getElem_of_mem h
        exact HNO.out j (by have := HN.out; omega) (by rw [List.getElem?_eq_getElem hj, e])
      simp [this]

theorem pairs_has_yes (b off : Nat) (v : Value) (f : Int → List Int) (N : Nat) (who d : Int) (w : World) (c0 : w.cell? ⟨b, off, none⟩ = some v) (h : PairsV w v f N) (hN : N ≤ 100000) (hm : who ∈ f d) :
    Calls Try.prog 38 #[.pointer (some ⟨b, off, none⟩), .int .i64 who, .int .i64 d] w fun e w' => e = .returned (.bool true) ∧ w = w' :=
  (pairs_has b off v f N who d w c0 h hN).mono fun _ _ ⟨h1, h2⟩ => ⟨by rw [h1]; simp [hm], h2⟩
theorem pairs_has_no (b off : Nat) (v : Value) (f : Int → List Int) (N : Nat) (who d : Int) (w : World) (c0 : w.cell? ⟨b, off, none⟩ = some v) (h : PairsV w v f N) (hN : N ≤ 100000) (hm : who ∉ f d) :
    Calls Try.prog 38 #[.pointer (some ⟨b, off, none⟩), .int .i64 who, .int .i64 d] w fun e w' => e = .returned (.bool false) ∧ w = w' :=
  (pairs_has b off v f N who d w c0 h hN).mono fun _ _ ⟨h1, h2⟩ => ⟨by rw [h1]; simp [hm], h2⟩

def PairsPut (b off : Nat) (v : Value) (cs : Array Value) (T : Nat) (f : Int → List Int) (N : Nat) (who d : Int) (w : World) (e : Ending) (w' : World) : Prop :=
  e = .returned (.tuple #[]) ∧ ∃ v', w'.heap[b]? = some (.cells (cs.setIfInBounds off v') T (0, 0)) ∧ PairsV w' v' (addAt f d who) (N + 1) ∧ (v'.ownBlock = v.ownBlock ∨ ∃ k, v'.ownBlock = some k ∧ w.heap.size ≤ k) ∧ Chg (fun k => k = b ∨ v.ownBlock = some k) w w'

set_option maxRecDepth 100000 in
set_option maxHeartbeats 2000000 in
theorem pairs_put (b off : Nat) (v : Value) (cs : Array Value) (T : Nat) (f : Int → List Int) (N : Nat) (who d : Int) (w : World) (hb : w.heap[b]? = some (.cells cs T (0, 0))) (hv : cs[off]? = some v) (h : PairsV w v f N) (h3 : v.ownBlock ≠ some b) (hN : N ≤ 100000) :
    Calls Try.prog 39 #[.pointer (some ⟨b, off, none⟩), .int .i64 who, .int .i64 d] w (PairsPut b off v cs T f N who d w) := by
  have c0 : w.cell? ⟨b, off, none⟩ = some v := (cell_of_blk hb off).trans hv
  by_cases hm : who ∈ f d
  · have hcall := pairs_has_yes b off v f N who d w c0 h hN hm
    have hfin : PairsPut b off v cs T f N who d w (.returned (.tuple #[])) w := by
      refine ⟨rfl, v, ?_, (h.congr fun x => ?_).more (by omega), .inl rfl, Chg.refl _ _⟩
      · rw [hb]
        congr 2
        apply Array.ext_getElem?
        intro i
        rw [Array.getElem?_setIfInBounds]
        split
        · rename_i e; subst e; rw [hv]; split
          · rfl
          · rename_i hx; rw [Array.getElem?_eq_none (by omega)] at hv; cases hv
        · rfl
      · unfold addAt addTo
        rw [if_pos hm]
        split
        · rename_i e; rw [e]
        · rfl
    have HF := Lib.hid hfin
    have HC := Lib.hid hcall
    clear hfin hcall hm h hb hv h3
    go_enter Try.func39, Try.ntmps39
    go_wp2_with fail
    refine HC.out.mono ?_
    rintro e _ ⟨rfl, rfl⟩
    go_wp2_with fail
    go_end0
    exact HF.out
  · have hcall := pairs_has_no b off v f N who d w c0 h hN hm
    obtain ⟨l, h2, h4, hf, hnd⟩ := h
    obtain ⟨i, hi, hz, hs, hby⟩ := info_parts' (P := Try.prog) (e := 112) (z := some (.agg #[.int .i64 0, .int .i64 0])) (s := 2) (b := 16) (by kernel_rfl)
    obtain ⟨v2, w2, ha, ho, hc, hk⟩ := own_append (P := Try.prog) (T := 68) Try.underlying68 hi hz hs hby rfl (by decide) h2 [.int .i64 who, .int .i64 d] rfl (by intro u hu; simp at hu; rcases hu with rfl | rfl <;> rfl) (by omega) (by unfold maxLen; omega) 68
    have b2 := hc.blk hb h3
    have c2 : w2.cell? ⟨b, off, none⟩ = some v := (cell_of_blk b2 off).trans hv
    have f2 := frozen_of_blk b2 off
    have hv2 : v2.ownBlock ≠ some b := by
      rcases hk with h | ⟨q, h, hq⟩
      · rw [h]; exact h3
      · rw [h]; intro e; cases e; have := blk_lt hb; omega
    obtain ⟨a2, cap2, hve, _⟩ := ho.open
    have hfin : PairsPut b off v cs T f N who d w (.returned (.tuple #[])) (w2.setCell ⟨b, off, none⟩ v2) := by
      refine ⟨rfl, v2, setCell_same v2 b2, ⟨l ++ [(who, d)], ?_, by simp; omega, ?_, ?_⟩, hk, ?_⟩
      · rw [flat2_snoc, List.length_append, List.length_singleton]
        exact Own.chg ho ((Chg.refl (· = b) _).put off _) (fun k hk e => hv2 (e ▸ hk))
      · intro x
        rw [pf_snoc]
        unfold addAt addTo
        by_cases hx : x = d
        · rw [if_pos hx, if_pos hx, if_neg hm, hf d, hx]
        · rw [if_neg hx, if_neg hx, hf x]
      · refine List.nodup_append.2 ⟨hnd, by simp, fun a ha b hb e => ?_⟩
        simp at hb; subst hb; subst e
        exact hm (by rw [hf d]; exact mem_pf.2 ha)
      · exact (hc.mono fun k _ e => .inr e).setCell (.inl (.inl rfl)) _
    have HF := Lib.hid hfin
    have HC := Lib.hid hcall
    subst hve
    obtain ⟨a1, cap1, rfl, _⟩ := h2.open
    clear hfin hcall hm h2 h3 h4 hf ho hc hk b2 hv2 hi hz hs hby hb hv hnd
    go_enter Try.func39, Try.ntmps39
    go_wp2_with fail
    refine HC.out.mono ?_
    rintro e _ ⟨rfl, rfl⟩
    go_wp2_with (at_builtin; refine wpl_append rfl _ _ _ rfl rfl rfl ha ?_)
    go_end0
    exact HF.out

theorem Own.ints {w : World} {v : Value} {n : Nat} {l : List Int} (h : Own 3 1 w v n (l.map (Value.int .i64))) : ∃ a cap, v = .slice a l.length cap ∧ n = l.length ∧ IntsAt w a l ∧ ∀ b off, a = some ⟨b, off, none⟩ → v.ownBlock = some b := by
  obtain ⟨a, cap, rfl, hc, hm, hl, ha⟩ := h.open
  have hn : n = l.length := by simpa using hl.symm
  subst hn
  refine ⟨a, cap, rfl, rfl, ?_, fun b off e => by subst e; rfl⟩
  rcases ha with ⟨_, h0, _⟩ | ⟨g, cs, rfl, hg, _, ht⟩
  · exact .inl (List.length_eq_zero_iff.1 h0)
  · refine .inr ⟨g, 0, rfl, fun i hi => ?_⟩
    rw [Nat.zero_add]
    exact own_cell hg ht (by omega) (by simp [hi])

def PairsAll (l : List Int) (w : World) (e : Ending) (w' : World) : Prop :=
  ∃ a cap, e = .returned (.slice a l.length cap) ∧ IntsAt w' a (rising l) ∧ (∀ b off, a = some ⟨b, off, none⟩ → w.heap.size ≤ b) ∧ Below w.heap.size w w'

theorem pf_take_succ (l : List (Int × Int)) (d : Int) (k : Nat) (hk : k < l.length) (hn : l.Nodup) : pf (l.take (k + 1)) d = if l[k].2 = d then addTo (pf (l.take k) d) l[k].1 else pf (l.take k) d := by
  rw [List.take_succ_eq_append_getElem hk, show l[k] = (l[k].1, l[k].2) from rfl, pf_snoc]
  by_cases h : d = l[k].2
  · rw [if_pos h, if_pos h.symm]
    unfold addTo
    rw [if_neg]
    rw [mem_pf, h]
    intro hm
    have hm' : l[k] ∈ l.take k := hm
    obtain ⟨j, hj, e⟩ := List.getElem_of_mem hm'
    rw [List.length_take] at hj
    rw [List.getElem_take] at e
    have := List.pairwise_iff_getElem.1 hn j k (by omega) hk (by omega)
    exact this e
  · rw [if_neg h, if_neg (fun e => h e.symm)]

set_option maxRecDepth 100000 in
set_option maxHeartbeats 4000000 in
theorem pairs_all (b off : Nat) (v : Value) (f : Int → List Int) (N : Nat) (d : Int) (w : World) (c0 : w.cell? ⟨b, off, none⟩ = some v) (h : PairsV w v f N) (hN : N ≤ 10000) :
    Calls Try.prog 41 #[.pointer (some ⟨b, off, none⟩), .int .i64 d] w (PairsAll (f d) w) := by
  obtain ⟨l, h2, h4, hf, hnd⟩ := h
  rw [hf d]
  obtain ⟨a, cap, rfl, hcap, hcm, hxl, ha⟩ := h2.open
  have hbw := World.block_lt_of_cell? w _ c0
  obtain ⟨n, hn⟩ : ∃ n, n = l.length := ⟨_, rfl⟩
  rw [← hn] at c0 h4 ha hcap
  have HA := Lib.hid ha
  have HN := Lib.hid hn
  have HC0 := Lib.hid c0
  have HND := Lib.hid hnd
  have hnb : n ≤ 10000 := by omega
  clear h2 h4 hf ha hn hxl hnd
  go_enter Try.func41, Try.ntmps41
  go_wp2_with fail
  go_loopw [5, 6] (fun out i wr => ∃ k : Nat, k ≤ n ∧ i = .int .i64 k ∧ Own 3 1 wr out (rising (pf (l.take k) d)).length ((rising (pf (l.take k) d)).map (Value.int .i64)) ∧ (∀ b, out.ownBlock = some b → w.heap.size ≤ b) ∧ Below w.heap.size w wr) (fun _ i _ => n - (intOf i).toNat)
  case atStart =>
    have e : pf (l.take 0) d = [] := by simp [pf]
    exact ⟨0, by omega, rfl, by rw [e, rising_nil]; exact Own.nil _ _ _, (by intro b hb; cases hb), Below.refl _ _⟩
  case round =>
    obtain ⟨k, hk, rfl, hown, hblk, hB⟩ := hrel
    have c1 := (hB.cell (p := ⟨b, off, none⟩) hbw).trans HC0.out
    clear c0
    by_cases hlt : k < n
    · have hkl : k < l.length := by have := HN.out; omega
      have q : ∃ g, a = some ⟨g, 0, none⟩ ∧ wr.cell? ⟨g, k * 2, none⟩ = some (.int .i64 (l.getD k (0, 0)).1) ∧ wr.cell? ⟨g, k * 2 + 1, none⟩ = some (.int .i64 (l.getD k (0, 0)).2) := by
        rcases HA.out with ⟨_, h, _⟩ | ⟨g, cs, e, hg, _, ht⟩
        · omega
        · obtain ⟨f1, f2⟩ := flat2_at l k hkl
          have e1 : l.getD k (0, 0) = l[k] := by simp [List.getD, hkl]
          rw [e1]
          exact ⟨g, e, (hB.cell (p := ⟨g, k * 2, none⟩) (blk_lt hg)).trans (own_cell hg ht (by omega) f1), (hB.cell (p := ⟨g, k * 2 + 1, none⟩) (blk_lt hg)).trans (own_cell hg ht (by omega) f2)⟩
      obtain ⟨g, rfl, hc1, hc2⟩ := q
      have hstep := pf_take_succ l d k hkl HND.out
      have e1 : l[k] = l.getD k (0, 0) := by simp [List.getD, hkl]
      rw [e1] at hstep
      have hpn : (pf (l.take k) d).Nodup := pf_nodup (List.Sublist.nodup (List.take_sublist _ _) HND.out) d
      have hpl : (pf (l.take k) d).length ≤ 10000 := by
        unfold pf
        rw [List.length_map]
        have := List.length_filter_le (fun q : Int × Int => q.2 == d) (l.take k)
        rw [List.length_take] at this
        omega
      generalize l.getD k (0, 0) = q at hc1 hc2 hstep
      obtain ⟨x, y⟩ := q
      simp only at hc1 hc2 hstep
      generalize pf (l.take k) d = pk at hown hstep hpn hpl
      have HST := Lib.hid hstep
      have HPN := Lib.hid hpn
      clear hstep e1 hkl hpn
      by_cases hy : y = d
      · have hy1 : (y == d) = true := by simpa using hy
        have HY := Lib.hid hy
        clear hy
        obtain ⟨a2, cap2, rfl, _, hi2, ho2⟩ := hown.ints
        have hblk' : ∀ b off, a2 = some ⟨b, off, none⟩ → w.heap.size ≤ b := fun b off e => hblk b (ho2 b off e)
        have hlt2 : ∀ b off, a2 = some ⟨b, off, none⟩ → b < wr.heap.size := fun b off e => hown.lt (ho2 b off e)
        have hlen : (rising pk).length ≤ 100000 := by rw [rising_length]; omega
        have HI2 := Lib.hid hi2
        have HL2 := Lib.hid hlt2
        clear hi2 ho2 hown hblk hblk' hlt2
        go_wp2_with fail
        refine (rising_any a2 (rising pk) cap2 x wr HI2.out hlen HL2.out).mono ?_
        rintro e w2 ⟨v2, rfl, ho, hb2, hB2⟩
        rw [insR_eq pk x HPN.out] at ho
        have hBB : Below w.heap.size w w2 := hB.trans (hB2.mono hB.size)
        have hbb : ∀ b, v2.ownBlock = some b → w.heap.size ≤ b := fun b e => Nat.le_trans hB.size (hb2 b e)
        have HO := Lib.hid ho
        clear ho hb2 hB2 hB
        go_wp2_with fail
        go_roundw
        case rel => exact ⟨k + 1, by omega, by go_num, by rw [HST.out, if_pos HY.out]; exact HO.out, hbb, hBB⟩
        case measure => simp [intOf]; omega
      · have hy1 : (y == d) = false := by simpa using hy
        have HY := Lib.hid hy
        have HO := Lib.hid hown
        clear hy hown
        go_wp2_with fail
        go_roundw
        case rel => exact ⟨k + 1, by omega, by go_num, by rw [HST.out, if_neg HY.out]; exact HO.out, hblk, hB⟩
        case measure => simp [intOf]; omega
    · have hle : l.take k = l := List.take_of_length_le (by have := HN.out; omega)
      rw [hle] at hown
      obtain ⟨a2, cap2, rfl, _, hi2, ho2⟩ := hown.ints
      have hblk' : ∀ b off, a2 = some ⟨b, off, none⟩ → w.heap.size ≤ b := fun b off e => hblk b (ho2 b off e)
      have HI := Lib.hid hi2
      have HH := Lib.hid hblk'
      clear hown hle hi2 ho2 hblk hblk'
      go_wp2_with fail
      go_ret
      exact ⟨a2, cap2, by first | rfl | simp [rising_length], HI.out, HH.out, hB⟩
end Go.Proofs.Ytjllejlgclfahaa
