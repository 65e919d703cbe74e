/-
  The net: Copy, Send.
-/
import Derived.Test.YtjllejlgclfahaaBuild
namespace Go.Proofs.Ytjllejlgclfahaa
open Go.RowKit Go.MapKept

set_option maxRecDepth 100000 in
set_option maxHeartbeats 2000000 in
theorem net_copy_no (p : Nat) (F : Nat → Prop) (L : List MsgX) (i : Int) (w : World) (h : NetV w p F L) (hi : ¬ (0 ≤ i ∧ i < (L.length : Int))) :
    Calls Try.prog 26 #[.pointer (some ⟨p, 0, none⟩), .int .i64 i] w fun e w' => e = .returned (.bool false) ∧ Below w.heap.size w w' := by
  have HAT := Lib.hid (net_at_no p F L i w h hi)
  clear h hi
  go_enter Try.func26, Try.ntmps26
  go_wp2_with fail
  refine HAT.out.mono ?_
  rintro e y ⟨rfl, hB'⟩
  obtain ⟨n5, hn5⟩ : ∃ n5, n5 = y.heap.size := ⟨_, rfl⟩
  obtain ⟨ya, hya⟩ : ∃ ya, ya = y.alloc (.cells #[.int .i64 0, .int .i64 0, .int .i64 0, .int .i64 0, .int .i64 0, .int .i64 0, .int .i64 0, .slice none 0 0, .int .i64 0, .slice none 0 0, .slice none 0 0, .int .i64 0, .int .i64 0, .slice none 0 0, .int .i64 0, .int .u64 0, .int .u64 0, .int .i64 0, .slice none 0 0] 51 (0, 0)) := ⟨_, rfl⟩
  have hb5 : ya.heap[n5]? = some (.cells #[.int .i64 0, .int .i64 0, .int .i64 0, .int .i64 0, .int .i64 0, .int .i64 0, .int .i64 0, .slice none 0 0, .int .i64 0, .slice none 0 0, .slice none 0 0, .int .i64 0, .int .i64 0, .slice none 0 0, .int .i64 0, .int .u64 0, .int .u64 0, .int .i64 0, .slice none 0 0] 51 (0, 0)) := by rw [hya]; exact alloc_new y _ _ hn5
  have HYA := Lib.hid hya
  have HN5 := Lib.hid hn5
  have HC := Lib.hid ((Chg.refl (· = n5) ya).row #[.int .i64 0, .int .i64 0, .int .i64 0, .int .i64 0, .int .i64 0, .int .i64 0, .int .i64 0, .slice none 0 0, .int .i64 0, .slice none 0 0, .slice none 0 0, .int .i64 0, .int .i64 0, .slice none 0 0, .int .i64 0, .int .u64 0, .int .u64 0, .int .i64 0, .slice none 0 0])
  have HY0 := Lib.hid (by rw [hya]; exact (Chg.refl none_ y).alloc _ : Chg none_ y ya)
  clear hya hn5
  go_wp2_with (rw [← HYA.out, ← HN5.out]; refine wpList_store_row rfl 51 _ _ rfl n5 #[.int .i64 0, .int .i64 0, .int .i64 0, .int .i64 0, .int .i64 0, .int .i64 0, .int .i64 0, .slice none 0 0, .int .i64 0, .slice none 0 0, .slice none 0 0, .int .i64 0, .int .i64 0, .slice none 0 0, .int .i64 0, .int .u64 0, .int .u64 0, .int .i64 0, .slice none 0 0] rfl rfl _ _ hb5 size19 rfl (by simp [Value.oneCell']) ?_)
  go_ret
  have h1 := HN5.out
  have h2 := hB'.size
  have h3 := HY0.out.size
  exact ⟨rfl, hB'.trans ((HY0.out.below (by omega) (fun _ e => e.elim)).trans (HC.out.below (by omega) (fun k e => by omega)))⟩

set_option maxRecDepth 100000 in
set_option maxHeartbeats 4000000 in
theorem net_copy_yes (p : Nat) (F : Nat → Prop) (L : List MsgX) (i : Nat) (m : MsgX) (w : World) (h : NetV w p F L) (hm : L[i]? = some m) (hL : L.length ≤ 1000000) :
    Calls Try.prog 26 #[.pointer (some ⟨p, 0, none⟩), .int .i64 i] w fun e w' => e = .returned (.bool true) ∧ NetTo w p F (L ++ [m]) w' := by
  have HAT := Lib.hid (net_at_yes p F L i m w h hm)
  obtain ⟨v, E, rfl, hN⟩ := h
  obtain ⟨a, cap, rfl, -⟩ := id hN.2.1.open
  rw [List.length_map] at hL
  have HN := Lib.hid hN
  clear hN hm
  obtain ⟨ii, hi9, hz9, hs9, hby9⟩ := info_parts' (P := Try.prog) (e := 51) (z := some (.agg zeroMsg.toArray)) (s := 19) (b := 232) (by kernel_rfl)
  have HI9 := Lib.hid hi9
  have HS9 := Lib.hid hs9
  have HZ9 := Lib.hid hz9
  have HBY9 := Lib.hid hby9
  clear hi9 hs9 hz9 hby9
  go_enter Try.func26, Try.ntmps26
  go_wp2_with fail
  refine HAT.out.mono ?_
  rintro e y ⟨cs, rfl, hmv, hB'⟩
  have hone : cs.toArray.all (·.oneCell') = true := by rw [List.all_toArray]; exact List.all_eq_true.2 hmv.one
  have hcl : (Try.prog.info? 51).map (·.size) = some cs.toArray.size := size19.trans (congrArg some (by rw [List.size_toArray, hmv.length]))
  have hcz : (#[.int .i64 0, .int .i64 0, .int .i64 0, .int .i64 0, .int .i64 0, .int .i64 0, .int .i64 0, .slice none 0 0, .int .i64 0, .slice none 0 0, .slice none 0 0, .int .i64 0, .int .i64 0, .slice none 0 0, .int .i64 0, .int .u64 0, .int .u64 0, .int .i64 0, .slice none 0 0] : Array Value).size = cs.toArray.size := by show 19 = cs.toArray.size; rw [List.size_toArray, hmv.length]
  obtain ⟨n5, hn5⟩ : ∃ n5, n5 = y.heap.size := ⟨_, rfl⟩
  obtain ⟨ya, hya⟩ : ∃ ya, ya = y.alloc (.cells #[.int .i64 0, .int .i64 0, .int .i64 0, .int .i64 0, .int .i64 0, .int .i64 0, .int .i64 0, .slice none 0 0, .int .i64 0, .slice none 0 0, .slice none 0 0, .int .i64 0, .int .i64 0, .slice none 0 0, .int .i64 0, .int .u64 0, .int .u64 0, .int .i64 0, .slice none 0 0] 51 (0, 0)) := ⟨_, rfl⟩
  have hb5 : ya.heap[n5]? = some (.cells #[.int .i64 0, .int .i64 0, .int .i64 0, .int .i64 0, .int .i64 0, .int .i64 0, .int .i64 0, .slice none 0 0, .int .i64 0, .slice none 0 0, .slice none 0 0, .int .i64 0, .int .i64 0, .slice none 0 0, .int .i64 0, .int .u64 0, .int .u64 0, .int .i64 0, .slice none 0 0] 51 (0, 0)) := by rw [hya]; exact alloc_new y _ _ hn5
  obtain ⟨yb, hyb⟩ : ∃ yb, yb = ya.setRow n5 cs.toArray := ⟨_, rfl⟩
  have hb5' : yb.heap[n5]? = some (.cells cs.toArray 51 (0, 0)) := by rw [hyb]; exact setRow_heap _ n5 _ cs.toArray _ _ hb5
  have hy0 : Chg none_ y ya := by rw [hya]; exact (Chg.refl none_ y).alloc _
  have hc5 : Chg (· = n5) ya yb := by rw [hyb]; exact (Chg.refl (· = n5) ya).row cs.toArray
  have hsz := hB'.size
  have hcw : Chg none_ w yb := ((Chg.of_below hB').trans hy0).step hc5 (fun k e => .inr (by omega))
  have hmy : MsgV (fun k => w.heap.size ≤ k) yb cs m := (((hmv.mono (S' := fun k => w.heap.size ≤ k ∧ k < n5) (fun k hk hlt => ⟨hk, by omega⟩)).chg0 hy0).chg hc5 (fun k hk e => by omega)).mono (fun k hk _ => hk.1)
  have HYA := Lib.hid hya
  have HYB := Lib.hid hyb
  have HN5 := Lib.hid hn5
  have HONE := Lib.hid hmv.one
  have HLEN := Lib.hid hmv.length
  have hcwd : Chg none_ w yb.drew := hcw.drew
  have hmyd : MsgV (fun k => w.heap.size ≤ k) yb.drew cs m := hmy.chg0 (Chg.refl _ _).drew
  have hNd := HN.out.chg hcwd (fun _ _ h => h)
  have hS1 : yb.drew.cell? ⟨p, 0, none⟩ = some (.slice a E.length cap) ∧ yb.drew.heap[n5]? = some (.cells cs.toArray 51 (0, 0)) := ⟨(cell_of_blk hNd.1 0).trans rfl, hb5'⟩
  have HCWD := Lib.hid hcwd
  have HMYD := Lib.hid hmyd
  have HND := Lib.hid hNd
  have HSY := Lib.hid hsz
  clear hya hyb hn5 hcw hmy hcwd hmyd hNd hb5' hy0 hc5 hmv hB' hsz
  go_wp2_with (rw [← HYA.out, ← HN5.out]; refine wpList_store_row rfl 51 _ _ rfl n5 cs.toArray rfl rfl _ _ hb5 hcl hcz hone ?_; rw [← HYB.out])
  refine wp_region_stage (fun x : World => x.cell? ⟨p, 0, none⟩ = some (.slice a E.length cap) ∧ x.heap[n5]? = some (.cells cs.toArray 51 (0, 0))) [10] (by kernel_rfl) ?_
  refine takeW 0 (some 14) (v := ?_) rfl (by rfl) (by kernel_rfl) (by kernel_rfl) (by kernel_rfl) (fun _ _ _ h => h) (by kernel_rfl) (by kernel_rfl) ?_ (Stage.still (by assumption)) ?_
  rotate_left
  · (intro w; go_simp; try (with_reducible rfl))
  try simp only [Act.put, List.setIfInBounds_toArray, List.set_cons_zero, List.set_cons_succ]
  refine takeW 1 (some 15) (v := ?_) rfl (by rfl) (by kernel_rfl) (by kernel_rfl) (by kernel_rfl) (fun _ _ _ h => h) (by kernel_rfl) (by kernel_rfl) ?_ (Stage.still (by assumption)) ?_
  rotate_left
  · (intro w; go_simp; try (with_reducible rfl))
  try simp only [Act.put, List.setIfInBounds_toArray, List.set_cons_zero, List.set_cons_succ]
  refine takeW 2 (some 16) (v := ?_) rfl (by rfl) (by kernel_rfl) (by kernel_rfl) (by kernel_rfl) (fun _ _ _ h => h) (by kernel_rfl) (by kernel_rfl) ?_ (Stage.still (by assumption)) ?_
  rotate_left
  · (intro w; go_simp; try (with_reducible rfl))
  try simp only [Act.put, List.setIfInBounds_toArray, List.set_cons_zero, List.set_cons_succ]
  refine takeW 3 (some 17) (v := ?_) rfl (by rfl) (by kernel_rfl) (by kernel_rfl) (by kernel_rfl) (fun _ _ _ h => h) (by kernel_rfl) (by kernel_rfl) ?_ (Stage.still (by assumption)) ?_
  rotate_left
  · (intro w; go_simp; try (with_reducible rfl))
  try simp only [Act.put, List.setIfInBounds_toArray, List.set_cons_zero, List.set_cons_succ]
  refine takeS 4 (some 18) (v := ?_) rfl (by rfl) (by kernel_rfl) (by kernel_rfl) (by kernel_rfl) (fun _ _ _ h => h) (by kernel_rfl) (by kernel_rfl) (by kernel_rfl) ?_ (by assumption) ?_
  rotate_left
  · (intro w hSw; (try dsimp only at hSw); go_simp; try (with_reducible rfl))
  try simp only [Act.put, List.setIfInBounds_toArray, List.set_cons_zero, List.set_cons_succ]
  refine takeS 5 (some 19) (v := ?_) rfl (by rfl) (by kernel_rfl) (by kernel_rfl) (by kernel_rfl) (fun _ _ _ h => h) (by kernel_rfl) (by kernel_rfl) (by kernel_rfl) ?_ (by assumption) ?_
  rotate_left
  · (intro w hSw; refine exec_load_row 51 (.tmp 5) ?_ n5 ?_ _ _ _ _ hSw.2 Try.underlying51 ?_ hcl <;> rfl)
  try simp only [Act.put, List.setIfInBounds_toArray, List.set_cons_zero, List.set_cons_succ]
  refine oneT 6 (by kernel_rfl) rfl (fun K hK => ?_)
  refine if_wanted rfl (wp_buildSlice_one 41 51 19 (.tmp 19) rfl cs rfl ii (.agg zeroMsg.toArray) Try.underlying41 HI9.out HS9.out HZ9.out (by decide) (by decide) HLEN.out ?_)
  have hS2 : (yb.drew.alloc (.cells cs.toArray 51)).cell? ⟨p, 0, none⟩ = some (.slice a E.length cap) ∧ (yb.drew.alloc (.cells cs.toArray 51)).heap[n5]? = some (.cells cs.toArray 51 (0, 0)) := ⟨((Chg.refl none_ _).alloc _).cell hS1.1 (fun h => h), ((Chg.refl none_ _).alloc _).blk hS1.2 (fun h => h)⟩
  refine hK.out _ _ (Stage.still ?_) (fun hSt => ?_)
  · (try dsimp only); first | exact hS3 | exact hS2
  clear hK K hSt
  try simp only [Act.put, List.setIfInBounds_toArray, List.set_cons_zero, List.set_cons_succ]
  refine oneT 7 (by kernel_rfl) rfl (fun K hK => ?_)
  refine step_own_append rfl (.tmp 18) (.tmp 20) 41 rfl Try.underlying41 HI9.out HZ9.out HS9.out HBY9.out rfl (by decide) rfl (HND.out.2.1.chg ((Chg.refl none_ _).alloc _) (fun _ _ h => h)) rfl cs (alloc_new _ _ _ rfl) HLEN.out HONE.out (by omega) (by unfold maxLen; omega) ?_
  intro v' wz' hv' hw' hb'
  obtain ⟨av', cv', rfl, -⟩ := id hv'.open
  have hpz := hw'.blk (((Chg.refl none_ _).alloc _).blk HND.out.1 (fun h => h)) HND.out.2.2.1
  have hS3 : wz'.cell? ⟨p, 0, none⟩ = some (.slice a E.length cap) ∧ wz'.heap[n5]? = some (.cells cs.toArray 51 (0, 0)) := ⟨(cell_of_blk hpz 0).trans rfl, hw'.blk hS2.2 (fun e => by have h1 := HND.out.2.1.lt e; have h2 := blk_lt hS1.2; have h3 := HN.out.2.1.lt e; have h4 := HN5.out; have h5 := HSY.out; omega)⟩
  have f0z := frozen_of_blk hpz 0
  refine hK.out _ _ (Stage.still ?_) (fun hSt => ?_)
  · (try dsimp only); first | exact hS3 | exact hS2
  clear hK K hSt
  try simp only [Act.put, List.setIfInBounds_toArray, List.set_cons_zero, List.set_cons_succ]
  refine takeW 8 (some 22) (v := ?_) rfl (by rfl) (by kernel_rfl) (by kernel_rfl) (by kernel_rfl) (fun _ _ _ h => h) (by kernel_rfl) (by kernel_rfl) ?_ (Stage.still (by assumption)) ?_
  rotate_left
  · (intro w; go_simp; try (with_reducible rfl))
  try simp only [Act.put, List.setIfInBounds_toArray, List.set_cons_zero, List.set_cons_succ]
  refine takeW 9 (some 23) (v := ?_) rfl (by rfl) (by kernel_rfl) (by kernel_rfl) (by kernel_rfl) (fun _ _ _ h => h) (by kernel_rfl) (by kernel_rfl) ?_ (Stage.still (by assumption)) ?_
  rotate_left
  · (intro w; go_simp; try (with_reducible rfl))
  try simp only [Act.put, List.setIfInBounds_toArray, List.set_cons_zero, List.set_cons_succ]
  refine oneT 10 (by kernel_rfl) rfl (fun K hK => ?_)
  go_simp
  refine hK.out _ _ (Stage.past (by kernel_rfl)) (fun hSt => ?_)
  clear hSt
  clear hK K
  try simp only [Act.put, List.setIfInBounds_toArray, List.set_cons_zero, List.set_cons_succ]
  refine doneT (by kernel_rfl) ?_ _
  obtain ⟨F', hN', hF', hcc⟩ := HN.out.push rfl (HCWD.out.alloc _) (HMYD.out.chg0 ((Chg.refl _ _).alloc _)) hv' hw' hb'
  have HN' := Lib.hid hN'
  generalize wz'.setCell ⟨p, 0, none⟩ (.slice av' (E.length + 1) cv') = wf at *
  clear hv' hw' hb' hS1 hS2 hS3 hN'
  go_wp2_with fail
  go_ret
  exact ⟨rfl, F', ⟨_, E ++ [(m, cs)], by simp, HN'.out⟩, hF', hcc⟩

/-- A row of messages behind a slice value. -/
def MsgsIn (S : Nat → Prop) (w : World) (v : Value) (A : List (MsgX × List Value)) : Prop := SliceIn S w v A.length (flatM A) ∧ ∀ e ∈ A, MsgV S w e.2 e.1
theorem MsgsIn.chg {S X : Nat → Prop} {w w' : World} {v : Value} {A : List (MsgX × List Value)} (h : MsgsIn S w v A) (hc : Chg X w w') (hs : ∀ b, S b → ¬ X b) : MsgsIn S w' v A := ⟨h.1.chg hc hs, fun e he => (h.2 e he).chg hc hs⟩
theorem NetTo.refl {w : World} {p : Nat} {F : Nat → Prop} {L : List MsgX} (h : NetV w p F L) : NetTo w p F L w := ⟨F, h, fun _ h => .inl h, Chg.refl _ _⟩

set_option maxRecDepth 100000 in
set_option maxHeartbeats 4000000 in
theorem net_send (p : Nat) (F S : Nat → Prop) (L : List MsgX) (vl : Value) (A : List (MsgX × List Value)) (w : World) (h : NetV w p F L) (hA : MsgsIn S w vl A) (hSF : ∀ k, S k → ¬ F k) (hL : L.length + A.length ≤ 900000) :
    Calls Try.prog 25 #[.pointer (some ⟨p, 0, none⟩), vl] w fun e w' => e = .returned (.tuple #[]) ∧ NetTo w p F (L ++ A.map (·.1)) w' := by
  obtain ⟨la, lc, rfl, -⟩ := id hA.1
  have HA := Lib.hid hA
  have H0 := Lib.hid (NetTo.refl h)
  clear hA h
  obtain ⟨ii, hi9, hz9, hs9, hby9⟩ := info_parts' (P := Try.prog) (e := 51) (z := some (.agg zeroMsg.toArray)) (s := 19) (b := 232) (by kernel_rfl)
  have HI9 := Lib.hid hi9
  have HS9 := Lib.hid hs9
  have HZ9 := Lib.hid hz9
  have HBY9 := Lib.hid hby9
  clear hi9 hs9 hz9 hby9
  go_enter Try.func25, Try.ntmps25
  go_wp2_with fail
  go_loopw [8] (fun i wr => ∃ j : Nat, j ≤ A.length ∧ i = .int .i64 j ∧ NetTo w p F (L ++ (A.take j).map (·.1)) wr) (fun i _ => A.length - (intOf i).toNat)
  case atStart => exact ⟨0, by omega, rfl, by simpa using H0.out⟩
  case round =>
    clear H0
    obtain ⟨j, hj, rfl, hT⟩ := hrel
    by_cases hlt : j < A.length
    · have hjl : (j : Int) < (A.length : Int) := by omega
      have hwj : IntKind.i64.wrap ((j : Int) + 1) = (j : Int) + 1 := by rw [IntKind.wrap_i64]; omega
      obtain ⟨F1, ⟨v, E, hLE, hN⟩, hF1, hC1⟩ := hT
      have hEl : E.length = L.length + j := by
        have := congrArg List.length hLE
        simp only [List.length_append, List.length_map, List.length_take] at this
        omega
      obtain ⟨a, cap, rfl, -⟩ := id hN.2.1.open
      have hAw := HA.out.chg hC1 hSF
      obtain ⟨_, _, e', hsrc, _⟩ := hAw.1
      cases e'
      rcases hsrc with hsrc | ⟨bA, offA, rfl, hsrc⟩
      · have := flatM_length A (fun e he => (HA.out.2 e he).length); rw [hsrc] at this; simp at this; omega
      obtain ⟨⟨m, es⟩, hem⟩ : ∃ e, e = A[j] := ⟨_, rfl⟩
      have hmv := hAw.2 A[j] (List.getElem_mem hlt)
      rw [← hem] at hmv
      dsimp only at hmv
      have hat : ∀ (k : Nat) (u : Value), es[k]? = some u → wr.cell? ⟨bA, offA + j * 19 + k, none⟩ = some u := fun k u hu => by
        have hk : k < 19 := by have := (List.getElem?_eq_some_iff.1 hu).1; rw [hmv.length] at this; exact this
        have := (hsrc (j * 19 + k) u (by rw [flatM_at A (fun e he => (HA.out.2 e he).length) j hlt k hk, ← hem]; exact hu)).1
        rwa [← Nat.add_assoc] at this
      have hone : es.toArray.all (·.oneCell') = true := by rw [List.all_toArray]; exact List.all_eq_true.2 hmv.one
      have hel : (Try.prog.info? 51).map (·.size) = some es.length := size19.trans (congrArg some hmv.length.symm)
      have hcl : (Try.prog.info? 51).map (·.size) = some es.toArray.size := size19.trans (congrArg some (by rw [List.size_toArray, hmv.length]))
      have hcz : (#[.int .i64 0, .int .i64 0, .int .i64 0, .int .i64 0, .int .i64 0, .int .i64 0, .int .i64 0, .slice none 0 0, .int .i64 0, .slice none 0 0, .slice none 0 0, .int .i64 0, .int .i64 0, .slice none 0 0, .int .i64 0, .int .u64 0, .int .u64 0, .int .i64 0, .slice none 0 0] : Array Value).size = es.toArray.size := by show 19 = es.toArray.size; rw [List.size_toArray, hmv.length]
      obtain ⟨n5, hn5⟩ : ∃ n5, n5 = wr.heap.size := ⟨_, rfl⟩
      obtain ⟨ya, hya⟩ : ∃ ya, ya = wr.alloc (.cells #[.int .i64 0, .int .i64 0, .int .i64 0, .int .i64 0, .int .i64 0, .int .i64 0, .int .i64 0, .slice none 0 0, .int .i64 0, .slice none 0 0, .slice none 0 0, .int .i64 0, .int .i64 0, .slice none 0 0, .int .i64 0, .int .u64 0, .int .u64 0, .int .i64 0, .slice none 0 0] 51 (0, 0)) := ⟨_, rfl⟩
      have hb5 : ya.heap[n5]? = some (.cells #[.int .i64 0, .int .i64 0, .int .i64 0, .int .i64 0, .int .i64 0, .int .i64 0, .int .i64 0, .slice none 0 0, .int .i64 0, .slice none 0 0, .slice none 0 0, .int .i64 0, .int .i64 0, .slice none 0 0, .int .i64 0, .int .u64 0, .int .u64 0, .int .i64 0, .slice none 0 0] 51 (0, 0)) := by rw [hya]; exact alloc_new wr _ _ hn5
      obtain ⟨yb, hyb⟩ : ∃ yb, yb = ya.setRow n5 es.toArray := ⟨_, rfl⟩
      have hb5' : yb.heap[n5]? = some (.cells es.toArray 51 (0, 0)) := by rw [hyb]; exact setRow_heap _ n5 _ es.toArray _ _ hb5
      have hy0 : Chg none_ wr ya := by rw [hya]; exact (Chg.refl none_ wr).alloc _
      have hc5 : Chg (· = n5) ya yb := by rw [hyb]; exact (Chg.refl (· = n5) ya).row es.toArray
      have hcw : Chg none_ wr yb.drew := (hy0.step hc5 (fun k e => .inr (by omega))).drew
      have hNd := hN.chg hcw (fun _ _ h => h)
      have hmd := hmv.chg0 hcw
      have hS1 : yb.drew.cell? ⟨p, 0, none⟩ = some (.slice a E.length cap) ∧ yb.drew.heap[n5]? = some (.cells es.toArray 51 (0, 0)) := ⟨(cell_of_blk hNd.1 0).trans rfl, hb5'⟩
      have hcl5 : ∀ z, Chg none_ yb.drew z → z.cell? ⟨p, 0, none⟩ = some (.slice a E.length cap) ∧ z.heap[n5]? = some (.cells es.toArray 51 (0, 0)) := fun z hz => ⟨hz.cell hS1.1 (fun h => h), hz.blk hS1.2 (fun h => h)⟩
      have HCL5 := Lib.hid hcl5
      have HYA := Lib.hid hya
      have HYB := Lib.hid hyb
      have HN5 := Lib.hid hn5
      have HMD := Lib.hid hmd
      have HND := Lib.hid hNd
      have HN := Lib.hid hN
      have HCW := Lib.hid hcw
      have HAT := Lib.hid hat
      have HEM := Lib.hid hem
      have HLE := Lib.hid hLE
      have HEL := Lib.hid hEl
      have HF1 := Lib.hid hF1
      have HC1 := Lib.hid hC1
      have hE9 : E.length ≤ 900000 := by omega
      clear hya hyb hn5 hcw hNd hmd hb5' hy0 hc5 hmv hN hat hem hsrc hAw hLE hEl hcl5 hF1 hC1
      go_wp2_with (first
        | (refine wpList_load_at rfl 51 _ rfl bA (offA + j * 19) rfl es _ HAT.out Try.underlying51 rfl hel ?_)
        | (rw [← HYA.out, ← HN5.out]; refine wpList_store_row rfl 51 _ _ rfl n5 es.toArray rfl rfl _ _ hb5 hcl hcz hone ?_; rw [← HYB.out]))
      refine wp_region_stage (fun x : World => x.cell? ⟨p, 0, none⟩ = some (.slice a E.length cap) ∧ x.heap[n5]? = some (.cells es.toArray 51 (0, 0))) [11] (by kernel_rfl) ?_
      refine takeW 0 (some 12) (v := ?_) rfl (by rfl) (by kernel_rfl) (by kernel_rfl) (by kernel_rfl) (fun _ _ _ h => h) (by kernel_rfl) (by kernel_rfl) ?_ (Stage.still (by assumption)) ?_
      rotate_left
      · (intro w; go_simp; try (with_reducible rfl))
      try simp only [Act.put, List.setIfInBounds_toArray, List.set_cons_zero, List.set_cons_succ]
      refine takeW 1 (some 13) (v := ?_) rfl (by rfl) (by kernel_rfl) (by kernel_rfl) (by kernel_rfl) (fun _ _ _ h => h) (by kernel_rfl) (by kernel_rfl) ?_ (Stage.still (by assumption)) ?_
      rotate_left
      · (intro w; go_simp; try (with_reducible rfl))
      try simp only [Act.put, List.setIfInBounds_toArray, List.set_cons_zero, List.set_cons_succ]
      refine takeW 2 (some 14) (v := ?_) rfl (by rfl) (by kernel_rfl) (by kernel_rfl) (by kernel_rfl) (fun _ _ _ h => h) (by kernel_rfl) (by kernel_rfl) ?_ (Stage.still (by assumption)) ?_
      rotate_left
      · (intro w; go_simp; try (with_reducible rfl))
      try simp only [Act.put, List.setIfInBounds_toArray, List.set_cons_zero, List.set_cons_succ]
      refine takeW 3 (some 15) (v := ?_) rfl (by rfl) (by kernel_rfl) (by kernel_rfl) (by kernel_rfl) (fun _ _ _ h => h) (by kernel_rfl) (by kernel_rfl) ?_ (Stage.still (by assumption)) ?_
      rotate_left
      · (intro w; go_simp; try (with_reducible rfl))
      try simp only [Act.put, List.setIfInBounds_toArray, List.set_cons_zero, List.set_cons_succ]
      refine takeS 4 (some 16) (v := ?_) rfl (by rfl) (by kernel_rfl) (by kernel_rfl) (by kernel_rfl) (fun _ _ _ h => h) (by kernel_rfl) (by kernel_rfl) (by kernel_rfl) ?_ (by assumption) ?_
      rotate_left
      · (intro w hSw; (try dsimp only at hSw); go_simp; try (with_reducible rfl))
      try simp only [Act.put, List.setIfInBounds_toArray, List.set_cons_zero, List.set_cons_succ]
      refine takeS 5 (some 17) (v := ?_) rfl (by rfl) (by kernel_rfl) (by kernel_rfl) (by kernel_rfl) (fun _ _ _ h => h) (by kernel_rfl) (by kernel_rfl) (by kernel_rfl) ?_ (by assumption) ?_
      rotate_left
      · (intro w hSw; refine exec_load_row 51 (.tmp 5) ?_ n5 ?_ _ _ _ _ hSw.2 Try.underlying51 ?_ hcl <;> rfl)
      try simp only [Act.put, List.setIfInBounds_toArray, List.set_cons_zero, List.set_cons_succ]
      refine oneT 6 (by kernel_rfl) rfl (fun K hK => ?_)
      go_simp
      go_at_call 56
      refine (mess_still _ es m _ HMD.out).mono ?_
      rintro e y6 ⟨cs6, rfl, hm6, hB6⟩
      have hS2 := HCL5.out y6 (Chg.of_below hB6)
      have HLEN := Lib.hid hm6.length
      have HONE := Lib.hid hm6.one
      go_wp2_with fail
      refine hK.out _ _ (Stage.still ?_) (fun hSt => ?_)
      · (try dsimp only); first | exact hS3 | exact hS2' | exact hS2
      clear hK K hSt
      try simp only [Act.put, List.setIfInBounds_toArray, List.set_cons_zero, List.set_cons_succ]
      refine oneT 7 (by kernel_rfl) rfl (fun K hK => ?_)
      refine if_wanted rfl (wp_buildSlice_one 41 51 19 (.tmp 18) rfl cs6 rfl ii (.agg zeroMsg.toArray) Try.underlying41 HI9.out HS9.out HZ9.out (by decide) (by decide) HLEN.out ?_)
      have hS2' : (y6.alloc (.cells cs6.toArray 51)).cell? ⟨p, 0, none⟩ = some (.slice a E.length cap) ∧ (y6.alloc (.cells cs6.toArray 51)).heap[n5]? = some (.cells es.toArray 51 (0, 0)) := ⟨((Chg.refl none_ _).alloc _).cell hS2.1 (fun h => h), ((Chg.refl none_ _).alloc _).blk hS2.2 (fun h => h)⟩
      refine hK.out _ _ (Stage.still ?_) (fun hSt => ?_)
      · (try dsimp only); first | exact hS3 | exact hS2' | exact hS2
      clear hK K hSt
      try simp only [Act.put, List.setIfInBounds_toArray, List.set_cons_zero, List.set_cons_succ]
      refine oneT 8 (by kernel_rfl) rfl (fun K hK => ?_)
      refine step_own_append rfl (.tmp 16) (.tmp 19) 41 rfl Try.underlying41 HI9.out HZ9.out HS9.out HBY9.out rfl (by decide) rfl (HND.out.2.1.chg ((Chg.of_below (S := none_) hB6).alloc _) (fun _ _ h => h)) rfl cs6 (alloc_new _ _ _ rfl) HLEN.out HONE.out (by omega) (by unfold maxLen; omega) ?_
      intro v' wz' hv' hw' hb'
      obtain ⟨av', cv', rfl, -⟩ := id hv'.open
      have hNz := HND.out.chg ((Chg.of_below (S := none_) hB6).alloc (.cells cs6.toArray 51 (0, 0))) (fun _ _ h => h)
      have hpz := hw'.blk hNz.1 hNz.2.2.1
      have hS3 : wz'.cell? ⟨p, 0, none⟩ = some (.slice a E.length cap) ∧ wz'.heap[n5]? = some (.cells es.toArray 51 (0, 0)) := ⟨(cell_of_blk hpz 0).trans rfl, hw'.blk hS2'.2 (fun e => by have h3 := HN.out.2.1.lt e; have h4 := HN5.out; omega)⟩
      have f0z := frozen_of_blk hpz 0
      refine hK.out _ _ (Stage.still ?_) (fun hSt => ?_)
      · (try dsimp only); first | exact hS3 | exact hS2' | exact hS2
      clear hK K hSt
      try simp only [Act.put, List.setIfInBounds_toArray, List.set_cons_zero, List.set_cons_succ]
      refine takeW 9 (some 21) (v := ?_) rfl (by rfl) (by kernel_rfl) (by kernel_rfl) (by kernel_rfl) (fun _ _ _ h => h) (by kernel_rfl) (by kernel_rfl) ?_ (Stage.still (by assumption)) ?_
      rotate_left
      · (intro w; go_simp; try (with_reducible rfl))
      try simp only [Act.put, List.setIfInBounds_toArray, List.set_cons_zero, List.set_cons_succ]
      refine takeW 10 (some 22) (v := ?_) rfl (by rfl) (by kernel_rfl) (by kernel_rfl) (by kernel_rfl) (fun _ _ _ h => h) (by kernel_rfl) (by kernel_rfl) ?_ (Stage.still (by assumption)) ?_
      rotate_left
      · (intro w; go_simp; try (with_reducible rfl))
      try simp only [Act.put, List.setIfInBounds_toArray, List.set_cons_zero, List.set_cons_succ]
      refine oneT 11 (by kernel_rfl) rfl (fun K hK => ?_)
      go_simp
      refine hK.out _ _ (Stage.past (by kernel_rfl)) (fun hSt => ?_)
      clear hSt
      clear hK K
      try simp only [Act.put, List.setIfInBounds_toArray, List.set_cons_zero, List.set_cons_succ]
      refine doneT (by kernel_rfl) ?_ _
      obtain ⟨F', hN', hF', hcc⟩ := HN.out.push rfl ((HCW.out.trans (Chg.of_below hB6)).alloc _) (hm6.chg0 ((Chg.refl _ _).alloc _) |>.mono (fun k hk _ => Nat.le_trans HCW.out.size hk)) hv' hw' hb'
      have HN' := Lib.hid hN'
      have HFF := Lib.hid hF'
      have HCC := Lib.hid hcc
      generalize wz'.setCell ⟨p, 0, none⟩ (.slice av' (E.length + 1) cv') = wf at *
      clear hv' hw' hb' hS1 hS2 hS2' hS3 hN' hF' hcc
      go_wp2_with fail
      go_roundw
      case rel =>
        refine ⟨j + 1, by omega, by go_num, F', ⟨_, E ++ [(m, cs6)], ?_, HN'.out⟩, fun k hk => ?_, HC1.out.step HCC.out (fun k hk => HF1.out k hk)⟩
        · rw [List.map_append, ← HLE.out, List.append_assoc, List.take_succ_eq_append_getElem hlt, List.map_append, ← HEM.out]
          rfl
        · rcases HFF.out k hk with hk | hk
          · exact HF1.out k hk
          · have := HC1.out.size; right; omega
      case measure => simp [intOf]; omega
    · have hje : j = A.length := by omega
      subst hje
      rw [List.take_length] at hT
      have HT := Lib.hid hT
      clear hT HA
      go_wp2_with fail
      go_end0
      exact ⟨rfl, HT.out⟩
end Go.Proofs.Ytjllejlgclfahaa
