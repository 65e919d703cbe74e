/-
  A writer of bytes: New, Num, Int, Text, Bytes.
-/
import Derived.Test.YtcfhkpjheemkgaaSys
import Derived.Test.YtcfhkpjheemkgaaWords
import Derived.Test.YtcfhkpjheemkgaaStage
import Derived.Test.YtcfhkpjheemkgaaStep
namespace Go.Proofs.Ytcfhkpjheemkgaa
set_option linter.unusedSectionVars false
set_option linter.unusedSimpArgs false
set_option linter.unusedVariables false
open Go.RowKit Go.MapKept

def writer (p : Nat) (L : List UInt8) : Thing := ex fun v : Value => [blk p (.cells #[v] 182 (0, 0)), own 5 1 v L.length (bcells L)]
section
variable {w : World} {m : Nat → Thing} {l : List Thing} {p : Nat} {L : List UInt8}
theorem Sys.wopen (h : Sys w m (writer p L :: l)) : ∃ v, Sys w m (blk p (.cells #[v] 182 (0, 0)) :: own 5 1 v L.length (bcells L) :: l) := h.open
theorem Sys.wclose {v : Value} {n : Nat} {xs : List Value} (h : Sys w m (blk p (.cells #[v] 182 (0, 0)) :: own 5 1 v n xs :: l)) (hn : n = L.length) (hx : xs = bcells L) : Sys w m (writer p L :: l) := by
  subst hn hx; exact Sys.close v h
theorem wire_new (h : Sys w m l) : Calls Try.prog 92 #[] w fun e w' => ∃ p, e = .returned (.pointer (some ⟨p, 0, none⟩)) ∧ Sys w' m (writer p [] :: l) := by
  have H := Lib.hid h
  clear h
  go_enter Try.func92, Try.ntmps92
  go_wp2_with fail
  go_ret
  refine ⟨_, rfl, Sys.wclose (v := .slice none 0 0) (n := 0) (xs := []) (Sys.swap ?_) rfl rfl⟩
  exact (H.out.alloc _ rfl).push (Chg.refl _ _) (F := fun _ => False) ⟨Own.nil _ _ _, by funext k; simp [Value.ownBlock]⟩ (fun _ h => h.elim)
end
theorem be8_take (n : Int) (j : Nat) (h : j < 8) : (be8 n).take (j + 1) = (be8 n).take j ++ [be n j] := by
  match j, h with
  | 0, _ => rfl
  | 1, _ => rfl
  | 2, _ => rfl
  | 3, _ => rfl
  | 4, _ => rfl
  | 5, _ => rfl
  | 6, _ => rfl
  | 7, _ => rfl
theorem wrap_u8 (x : Int) : IntKind.u8.wrap x = x % 256 := by simp [IntKind.wrap, IntKind.signed, IntKind.bits]
set_option maxRecDepth 100000 in
set_option maxHeartbeats 2000000 in
theorem wire_num {w : World} {m : Nat → Thing} {l : List Thing} {p : Nat} {L : List UInt8} (n : Int) (h0 : 0 ≤ n) (h1 : n < 18446744073709551616) (h : Sys w m (writer p L :: l)) (hL : L.length ≤ 70368744177664) :
    Calls Try.prog 95 #[.pointer (some ⟨p, 0, none⟩), .int .u64 n] w fun e w' => e = .returned (.tuple #[]) ∧ Sys w' m (writer p (L ++ be8 n) :: l) := by
  have H := Lib.hid h
  obtain ⟨ii, hi9, hz9, hs9, hby9⟩ := info_parts' (P := Try.prog) (e := 5) (z := some (.int .u8 0)) (s := 1) (b := 1) (by kernel_rfl)
  have HI9 := Lib.hid hi9
  have HS9 := Lib.hid hs9
  have HZ9 := Lib.hid hz9
  have HBY9 := Lib.hid hby9
  have HL := Lib.hid hL
  clear hi9 hs9 hz9 hby9 h hL
  go_enter Try.func95, Try.ntmps95
  go_wp2_with fail
  go_loopw [4] (fun i wr => ∃ j : Nat, j ≤ 8 ∧ i = .int .i64 (56 - 8 * (j : Int)) ∧ Sys wr m (writer p (L ++ (be8 n).take j) :: l)) (fun i _ => (intOf i + 8).toNat)
  case atStart => exact ⟨0, by omega, rfl, by simpa using H.out⟩
  case round =>
    obtain ⟨j, hj, rfl, hT⟩ := hrel
    by_cases hlt : j < 8
    · have hd : decide (0 ≤ 56 - 8 * (j : Int)) = true := by simp; omega
      obtain ⟨v, hS⟩ := hT.wopen
      obtain ⟨av, kv, cv, rfl, HKV0⟩ := hS.swap.getOwn.slice
      generalize hv : Value.slice av kv cv = v at *
      have hS1 : wr.drew.heap[p]? = some (.cells #[v] 182 (0, 0)) := hS.getBlk
      have HS := Lib.hid hS
      have HLEN : Hid ((L ++ (be8 n).take j).length ≤ 70368744177672) := by have := HL.out; show _ ≤ _; rw [List.length_append]; have h2 := List.length_take_le j (be8 n); omega
      have HBE : Hid (IntKind.u8.wrap (n / 2 ^ (56 - 8 * (j : Int)).toNat) = ((be n j).toNat : Int)) := by
        show _ = _
        rw [be_toNat, wrap_u8, show (56 - 8 * (j : Int)).toNat = 56 - 8 * j by omega]
        simp
      clear hT hS
      go_wp2_with fail
      refine wp_region_stage (fun x : World => x.heap[p]? = some (.cells #[v] 182 (0, 0))) [13] (by kernel_rfl) ?_
      refine takeW 0 (some 9) (v := ?_) rfl (by rfl) (by kernel_rfl) (by kernel_rfl) (by kernel_rfl) (fun _ _ _ h => h) (by kernel_rfl) (by kernel_rfl) ?_ (Stage.still (by assumption)) ?_
      rotate_left
      · (intro w; go_simp; try (with_reducible rfl))
      try simp only [Act.put, List.setIfInBounds_toArray, List.set_cons_zero, List.set_cons_succ]
      refine takeW 1 (some 10) (v := ?_) rfl (by rfl) (by kernel_rfl) (by kernel_rfl) (by kernel_rfl) (fun _ _ _ h => h) (by kernel_rfl) (by kernel_rfl) ?_ (Stage.still (by assumption)) ?_
      rotate_left
      · (intro w; go_simp; try (with_reducible rfl))
      try simp only [Act.put, List.setIfInBounds_toArray, List.set_cons_zero, List.set_cons_succ]
      refine takeW 2 (some 11) (v := ?_) rfl (by rfl) (by kernel_rfl) (by kernel_rfl) (by kernel_rfl) (fun _ _ _ h => h) (by kernel_rfl) (by kernel_rfl) ?_ (Stage.still (by assumption)) ?_
      rotate_left
      · (intro w; go_simp; try (with_reducible rfl))
      try simp only [Act.put, List.setIfInBounds_toArray, List.set_cons_zero, List.set_cons_succ]
      refine takeW 3 (some 12) (v := ?_) rfl (by rfl) (by kernel_rfl) (by kernel_rfl) (by kernel_rfl) (fun _ _ _ h => h) (by kernel_rfl) (by kernel_rfl) ?_ (Stage.still (by assumption)) ?_
      rotate_left
      · (intro w; go_simp; try (with_reducible rfl))
      try simp only [Act.put, List.setIfInBounds_toArray, List.set_cons_zero, List.set_cons_succ]
      refine takeS 4 (some 13) (v := ?_) rfl (by rfl) (by kernel_rfl) (by kernel_rfl) (by kernel_rfl) (fun _ _ _ h => h) (by kernel_rfl) (by kernel_rfl) (by kernel_rfl) ?_ (by assumption) ?_
      rotate_left
      · (intro w hSw; have c : w.cell? ⟨p, 0, none⟩ = some (v) := cell_of_blk hSw 0; clear hSw; go_simp; try (with_reducible rfl))
      try simp only [Act.put, List.setIfInBounds_toArray, List.set_cons_zero, List.set_cons_succ]
      refine takeW 5 (some 14) (v := ?_) rfl (by rfl) (by kernel_rfl) (by kernel_rfl) (by kernel_rfl) (fun _ _ _ h => h) (by kernel_rfl) (by kernel_rfl) ?_ (Stage.still (by assumption)) ?_
      rotate_left
      · (intro w; go_simp; try (with_reducible rfl))
      try simp only [Act.put, List.setIfInBounds_toArray, List.set_cons_zero, List.set_cons_succ]
      refine takeW 6 (some 15) (v := ?_) rfl (by rfl) (by kernel_rfl) (by kernel_rfl) (by kernel_rfl) (fun _ _ _ h => h) (by kernel_rfl) (by kernel_rfl) ?_ (Stage.still (by assumption)) ?_
      rotate_left
      · (intro w; go_simp; try (with_reducible rfl))
      try simp only [Act.put, List.setIfInBounds_toArray, List.set_cons_zero, List.set_cons_succ]
      refine takeW 7 (some 16) (v := ?_) rfl (by rfl) (by kernel_rfl) (by kernel_rfl) (by kernel_rfl) (fun _ _ _ h => h) (by kernel_rfl) (by kernel_rfl) ?_ (Stage.still (by assumption)) ?_
      rotate_left
      · (intro w; go_simp; try (with_reducible rfl))
      try simp only [Act.put, List.setIfInBounds_toArray, List.set_cons_zero, List.set_cons_succ]
      refine takeS 8 (some 17) (v := ?_) rfl (by rfl) (by kernel_rfl) (by kernel_rfl) (by kernel_rfl) (fun _ _ _ h => h) (by kernel_rfl) (by kernel_rfl) (by kernel_rfl) ?_ (by assumption) ?_
      rotate_left
      · (intro w _; go_simp; rw [HBE.out])
      try simp only [Act.put, List.setIfInBounds_toArray, List.set_cons_zero, List.set_cons_succ]
      refine oneT 9 (by kernel_rfl) rfl (fun K hK => ?_)
      go_simp
      have HSA := Lib.hid (HS.out.drew.alloc0 (.cells #[.int .u8 ((be n j).toNat : Int)] 5))
      have hS1 := HSA.out.getBlk
      have HOWN := Lib.hid HSA.out.swap.getOwn
      refine hK.out _ _ (Stage.still ?_) (fun hSt => ?_)
      · (try dsimp only); exact hS1
      clear hK K hSt
      try simp only [Act.put, List.setIfInBounds_toArray, List.set_cons_zero, List.set_cons_succ]
      refine oneT 10 (by kernel_rfl) rfl (fun K hK => ?_)
      refine step_own_append rfl (.tmp 13) (.tmp 18) 53 rfl Try.underlying53 HI9.out HZ9.out HS9.out HBY9.out rfl (by decide) rfl (HOWN.out) rfl [.int .u8 ((be n j).toNat : Int)] (alloc_new _ _ _ rfl) rfl (by intro u hu; simp at hu; subst hu; rfl) (by have := HLEN.out; omega) (by have := HLEN.out; unfold maxLen; omega) ?_
      intro v' wz' hv' hw' hb'
      have HSZ := Lib.hid (HSA.out.swap.ownTo hv' hw' hb').swap
      obtain ⟨av', kv', cv', rfl, HKV⟩ := hv'.slice
      have hS1 : wz'.heap[p]? = some (.cells #[v] 182 (0, 0)) := HSZ.out.getBlk
      have f0z := frozen_of_blk hS1 0
      have c0z : wz'.cell? ⟨p, 0, none⟩ = some v := cell_of_blk hS1 0
      clear hv' hw' hb'
      refine hK.out _ _ (Stage.still ?_) (fun hSt => ?_)
      · (try dsimp only); exact hS1
      clear hK K hSt
      try simp only [Act.put, List.setIfInBounds_toArray, List.set_cons_zero, List.set_cons_succ]
      refine takeW 11 (some 20) (v := ?_) rfl (by rfl) (by kernel_rfl) (by kernel_rfl) (by kernel_rfl) (fun _ _ _ h => h) (by kernel_rfl) (by kernel_rfl) ?_ (Stage.still (by assumption)) ?_
      rotate_left
      · (intro w; go_simp; try (with_reducible rfl))
      try simp only [Act.put, List.setIfInBounds_toArray, List.set_cons_zero, List.set_cons_succ]
      refine takeW 12 (some 21) (v := ?_) rfl (by rfl) (by kernel_rfl) (by kernel_rfl) (by kernel_rfl) (fun _ _ _ h => h) (by kernel_rfl) (by kernel_rfl) ?_ (Stage.still (by assumption)) ?_
      rotate_left
      · (intro w; go_simp; try (with_reducible rfl))
      try simp only [Act.put, List.setIfInBounds_toArray, List.set_cons_zero, List.set_cons_succ]
      refine oneT 13 (by kernel_rfl) rfl (fun K hK => ?_)
      go_simp
      refine hK.out _ _ (Stage.past (by kernel_rfl)) (fun hSt => ?_)
      clear hK K hSt
      try simp only [Act.put, List.setIfInBounds_toArray, List.set_cons_zero, List.set_cons_succ]
      refine doneT (by kernel_rfl) ?_ _
      have HF := Lib.hid ((HSZ.out.setCell (i := 0) (.slice av' kv' cv')).wclose (L := L ++ (be8 n).take (j + 1)) (by
        rw [List.length_append, List.length_append, be8_take n j hlt]; simp; omega) (by rw [be8_take n j hlt]; simp [bcells]))
      generalize wz'.setCell _ _ = wf at *
      clear HSZ HSA HOWN HS HBE hS1
      go_wp2_with fail
      go_roundw
      case rel => exact ⟨j + 1, by omega, by go_num, HF.out⟩
      case measure => simp [intOf]; omega
    · have hd : decide (0 ≤ 56 - 8 * (j : Int)) = false := by simp; omega
      obtain rfl : j = 8 := by omega
      have HT := Lib.hid hT
      clear hT
      go_wp2_with fail
      go_end0
      exact ⟨rfl, HT.out⟩
theorem wire_int {w : World} {m : Nat → Thing} {l : List Thing} {p : Nat} {L : List UInt8} (n : Int) (h : Sys w m (writer p L :: l)) (hL : L.length ≤ 70368744177664) :
    Calls Try.prog 94 #[.pointer (some ⟨p, 0, none⟩), .int .i64 n] w fun e w' => e = .returned (.tuple #[]) ∧ Sys w' m (writer p (L ++ intB n) :: l) := by
  have H := Lib.hid (wire_num (u64 n) (u64_range n).1 (u64_range n).2 h hL)
  have hu : IntKind.u64.wrap n = u64 n := IntKind.wrap_u64 n
  clear h hL
  go_enter Try.func94, Try.ntmps94
  go_wp2_with fail
  refine H.out.mono ?_
  rintro e w1 ⟨rfl, hS⟩
  have HS := Lib.hid hS
  clear hS
  go_wp2_with fail
  go_end0
  exact ⟨rfl, HS.out⟩
theorem bytes_cells {w : World} {ad : Addr} {t : List UInt8} (h : BytesAt w (some ad) t) : ∀ (j : Nat) (u : Value), (bcells t)[j]? = some u → w.cell? (ad.add j) = some u := by
  intro j u hu
  rcases h with rfl | ⟨b, off, e, h⟩
  · simp [bcells] at hu
  · cases e
    have hj : j < t.length := by have := (List.getElem?_eq_some_iff.1 hu).1; simpa [bcells] using this
    rw [addr_add, h j hj]
    simp [bcells, hj] at hu
    simp [List.getD, hj, hu]
theorem bcells_one (t : List UInt8) : ∀ u ∈ bcells t, u.oneCell' = true := by
  intro u hu; obtain ⟨x, _, rfl⟩ := List.mem_map.1 hu; rfl
set_option maxRecDepth 100000 in
set_option maxHeartbeats 2000000 in
theorem wire_text {w : World} {m : Nat → Thing} {l : List Thing} {p : Nat} {L : List UInt8} (t : List UInt8) (ad : Addr) (c : Nat) (hb : ∀ w', Sys w' m l → BytesAt w' (some ad) t) (h : Sys w m (writer p L :: l)) (hL : L.length ≤ 60000000000000) (ht : t.length ≤ 1000000) :
    Calls Try.prog 93 #[.pointer (some ⟨p, 0, none⟩), .slice (some ad) t.length c] w fun e w' => e = .returned (.tuple #[]) ∧ Sys w' m (writer p (L ++ textB t) :: l) := by
  have H := Lib.hid (wire_int (t.length : Int) h (by omega))
  obtain ⟨ii, hi9, hz9, hs9, hby9⟩ := info_parts' (P := Try.prog) (e := 5) (z := some (.int .u8 0)) (s := 1) (b := 1) (by kernel_rfl)
  have HI9 := Lib.hid hi9
  have HS9 := Lib.hid hs9
  have HZ9 := Lib.hid hz9
  have HBY9 := Lib.hid hby9
  have HB := Lib.hid hb
  have HL := Lib.hid hL
  have HT := Lib.hid ht
  obtain ⟨k, hk⟩ : ∃ k, k = t.length := ⟨_, rfl⟩
  rw [← hk] at H ⊢
  have HK := Lib.hid hk
  clear h hi9 hs9 hz9 hby9 hb hL ht hk
  go_enter Try.func93, Try.ntmps93
  go_wp2_with fail
  refine H.out.mono ?_
  rintro e w1 ⟨rfl, hS⟩
  obtain ⟨v, hS⟩ := hS.wopen
  have c0 : w1.cell? ⟨p, 0, none⟩ = some v := cell_of_blk hS.getBlk 0
  obtain ⟨v', w2, hrun, hS2⟩ := hS.swap.appendRow (P := Try.prog) Try.underlying53 HI9.out HZ9.out HS9.out HBY9.out rfl (by decide) ad k c (bcells t) (by simp [bcells, HK.out]) (bytes_cells (HB.out _ hS.tail.tail)) (bcells_one t) (by have := HK.out; have := HL.out; have := HT.out; rw [List.length_append, intB_length]; omega) (by have := HK.out; have := HL.out; have := HT.out; rw [List.length_append, intB_length]; unfold maxLen; omega) 53
  have hp2 := hS2.swap.getBlk
  have c2 : w2.cell? ⟨p, 0, none⟩ = some v := cell_of_blk hp2 0
  have f2 := frozen_of_blk hp2 0
  have HS2 := Lib.hid hS2.swap
  obtain ⟨av', kv', cv', rfl, -⟩ := hS2.getOwn.slice
  clear hS hS2 hp2
  go_wp2_with (at_builtin; refine wpl_append rfl _ _ _ rfl rfl rfl hrun ?_)
  go_end0
  exact ⟨rfl, (HS2.out.setCell (i := 0) _).wclose (by rw [HK.out]; simp [textB]; omega) (by rw [HK.out]; simp [bcells, textB])⟩
set_option maxHeartbeats 1000000 in
theorem wire_bytes {w : World} {m : Nat → Thing} {l : List Thing} {p : Nat} {L : List UInt8} (h : Sys w m (writer p L :: l)) (hL : L.length ≤ 1000000000) :
    Calls Try.prog 97 #[.pointer (some ⟨p, 0, none⟩)] w fun e w' => ∃ v, e = .returned v ∧ Sys w' m (own 5 1 v L.length (bcells L) :: l) := by
  obtain ⟨v, hS⟩ := h.wopen
  obtain ⟨a, cap, rfl, hn, hb, hnil, _⟩ := hS.swap.getOwn.bytes
  have c0 : w.cell? ⟨p, 0, none⟩ = some (.slice a L.length cap) := cell_of_blk hS.getBlk 0
  have HC := Lib.hid (clone_any a L cap w hb hnil hL)
  have HS := Lib.hid hS.tail.tail
  clear h hS hb hnil hn
  go_enter Try.func97, Try.ntmps97
  go_wp2_with fail
  refine HC.out.mono ?_
  rintro e w1 ⟨v1, rfl, ho, hnew, hB⟩
  have HF := Lib.hid (HS.out.pushOwn hB ho hnew)
  clear ho hnew hB
  go_wp2_with fail
  go_ret
  exact ⟨v1, rfl, HF.out⟩
end Go.Proofs.Ytcfhkpjheemkgaa
