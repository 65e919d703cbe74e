/-
  The net's awake: what the document fixes.
-/
import Derived.Test.YtjllejlgclfahaaNetSend
namespace Go.Proofs.Ytjllejlgclfahaa
open Go.RowKit Go.MapKept

set_option maxRecDepth 100000 in
set_option maxHeartbeats 4000000 in
theorem net_awake (w : World) : Calls Try.prog 29 #[] w fun e w' => e = .returned (.bool true) ∧ Below w.heap.size w w' := by
  obtain ⟨ii, hi9, hz9, hs9, hby9⟩ := info_parts' (P := Try.prog) (e := 51) (z := some (.agg zeroMsg.toArray)) (s := 19) (b := 232) (by kernel_rfl)
  have HI9 := Lib.hid hi9
  have HS9 := Lib.hid hs9
  have HZ9 := Lib.hid hz9
  clear hi9 hs9 hz9 hby9
  go_enter Try.func29, Try.ntmps29
  go_wp2_with fail
  refine (net_new w).mono ?_
  rintro e x1 ⟨p, rfl, h1, hB1⟩
  obtain ⟨F1, hF1⟩ : ∃ F1 : Nat → Prop, F1 = fun k => w.heap.size ≤ k ∧ k < x1.heap.size := ⟨_, rfl⟩
  rw [← hF1] at h1
  have hge1 : ∀ k, F1 k → w.heap.size ≤ k := fun k hk => by rw [hF1] at hk; exact hk.1
  clear hF1
  obtain ⟨x2, hx2⟩ : ∃ x2, x2 = x1.alloc (.cells (plainC 8 1 ++ plainC 8 2).toArray 51 (0, 0)) := ⟨_, rfl⟩
  obtain ⟨n2, hn2⟩ : ∃ n2, n2 = x1.heap.size := ⟨_, rfl⟩
  have hb2 : x2.heap[n2]? = some (.cells (plainC 8 1 ++ plainC 8 2).toArray 51 (0, 0)) := by rw [hx2]; exact alloc_new x1 _ _ hn2
  have hc2 : Chg none_ x1 x2 := by rw [hx2]; exact (Chg.refl none_ x1).alloc _
  have hA : MsgsIn (· = n2) x2 (.slice (some ⟨n2, 0, none⟩) 2 2) [(plainM 8 1, plainC 8 1), (plainM 8 2, plainC 8 2)] := by
    refine ⟨⟨_, _, rfl, .inr ⟨n2, 0, rfl, fun j u hu => ?_⟩, fun b off e => ?_, (by intro h; cases h), by simp⟩, fun e he => ?_⟩
    · refine ⟨?_, frozen_of_blk hb2 _⟩
      rw [Nat.zero_add, cell_of_blk hb2]
      simpa [flatM] using hu
    · cases e; exact ⟨rfl, blk_lt hb2⟩
    · simp at he
      rcases he with rfl | rfl
      · exact plainV _ _ _ _
      · exact plainV _ _ _ _
  have hsf : ∀ k, (fun k => k = n2) k → ¬ F1 k := fun k e hk => by have := h1.lt k hk; have e' : k = n2 := e; omega
  have HS := Lib.hid (net_send p F1 (· = n2) [] _ _ x2 (h1.chg0 hc2) hA hsf (by simp))
  have HX2 := Lib.hid hx2
  have HN2 := Lib.hid hn2
  have hB2 : Below w.heap.size w x2 := hB1.trans (hc2.below hB1.size (fun _ e => e.elim))
  clear hA hsf hx2 hn2 hb2 hc2 h1
  go_wp2_with (refine wpList_plain rfl fun K hK => wp_buildSlice_two 41 51 19 (.tmp 14) (.tmp 15) rfl (plainC 8 1) (plainC 8 2) rfl rfl ii (.agg zeroMsg.toArray) Try.underlying41 HI9.out HS9.out HZ9.out (by decide) (by decide) rfl rfl (hK _ _ ?_))
  rw [← HX2.out, ← HN2.out]
  refine HS.out.mono ?_
  rintro e x3 ⟨rfl, F3, h3, hg3, hc3⟩
  have hB3 : Below w.heap.size w x3 := hB2.trans (hc3.below hB2.size hge1)
  have hge3 : ∀ k, F3 k → w.heap.size ≤ k := fun k hk => by rcases hg3 k hk with h | h; exact hge1 k h; have := hB2.size; omega
  have h3' : NetV x3 p F3 [plainM 8 1, plainM 8 2] := h3
  clear h3 hg3 hc3 HS
  go_wp2_with fail
  refine (net_copy_yes p F3 _ 0 (plainM 8 1) x3 h3' rfl (by simp)).mono ?_
  rintro e x4 ⟨rfl, F4, h4, hg4, hc4⟩
  have hB4 : Below w.heap.size w x4 := hB3.trans (hc4.below hB3.size hge3)
  have hge4 : ∀ k, F4 k → w.heap.size ≤ k := fun k hk => by rcases hg4 k hk with h | h; exact hge3 k h; have := hB3.size; omega
  have h4' : NetV x4 p F4 [plainM 8 1, plainM 8 2, plainM 8 1] := h4
  clear h4 hg4 hc4 h3'
  go_wp2_with fail
  refine (net_copy_no p F4 _ 5 x4 h4' (by simp)).mono ?_
  rintro e x5 ⟨rfl, hb5⟩
  have hB5 : Below w.heap.size w x5 := hB4.trans (hb5.mono hB4.size)
  have h5' := h4'.chg0 (Chg.of_below hb5)
  clear h4' hb5
  go_wp2_with fail
  refine (net_take_yes p F4 _ 1 (plainM 8 2) x5 h5' rfl (by simp)).mono ?_
  rintro e x6 ⟨cs6, rfl, hm6, h6, hc6⟩
  have hB6 : Below w.heap.size w x6 := hB5.trans (hc6.below hB5.size hge4)
  have h6' : NetV x6 p F4 [plainM 8 1, plainM 8 1] := h6
  clear h6 hc6 h5'
  obtain ⟨na, hna⟩ : ∃ n, n = x6.heap.size := ⟨_, rfl⟩
  obtain ⟨ua, hua⟩ : ∃ u, u = x6.alloc (.cells #[.int .i64 0, .int .i64 0, .int .i64 0, .int .i64 0, .int .i64 0, .int .i64 0, .int .i64 0, .slice none 0 0, .int .i64 0, .slice none 0 0, .slice none 0 0, .int .i64 0, .int .i64 0, .slice none 0 0, .int .i64 0, .int .u64 0, .int .u64 0, .int .i64 0, .slice none 0 0] 51 (0, 0)) := ⟨_, rfl⟩
  have hba : ua.heap[na]? = some (.cells #[.int .i64 0, .int .i64 0, .int .i64 0, .int .i64 0, .int .i64 0, .int .i64 0, .int .i64 0, .slice none 0 0, .int .i64 0, .slice none 0 0, .slice none 0 0, .int .i64 0, .int .i64 0, .slice none 0 0, .int .i64 0, .int .u64 0, .int .u64 0, .int .i64 0, .slice none 0 0] 51 (0, 0)) := by rw [hua]; exact alloc_new x6 _ _ hna
  obtain ⟨va, hva⟩ : ∃ v, v = ua.setRow na cs6.toArray := ⟨_, rfl⟩
  have hwa : va.heap[na]? = some (.cells cs6.toArray 51 (0, 0)) := by rw [hva]; exact setRow_heap _ na _ cs6.toArray _ _ hba
  have honea : cs6.toArray.all (·.oneCell') = true := by rw [List.all_toArray]; exact List.all_eq_true.2 hm6.one
  have hcla : (Try.prog.info? 51).map (·.size) = some cs6.toArray.size := size19.trans (congrArg some (by rw [List.size_toArray, hm6.length]))
  have hcza : (#[.int .i64 0, .int .i64 0, .int .i64 0, .int .i64 0, .int .i64 0, .int .i64 0, .int .i64 0, .slice none 0 0, .int .i64 0, .slice none 0 0, .slice none 0 0, .int .i64 0, .int .i64 0, .slice none 0 0, .int .i64 0, .int .u64 0, .int .u64 0, .int .i64 0, .slice none 0 0] : Array Value).size = cs6.toArray.size := by show 19 = cs6.toArray.size; rw [List.size_toArray, hm6.length]
  have HCa : Hid (Chg none_ x6 va) := by
    have e : Chg none_ x6 ua := by rw [hua]; exact (Chg.refl none_ x6).alloc _
    exact e.step (by rw [hva]; exact (Chg.refl (· = na) ua).row cs6.toArray) (fun j e => .inr (by have e' : j = na := e; omega))
  have HWa := Lib.hid hwa
  have HUa := Lib.hid hua
  have HNa := Lib.hid hna
  have HVa := Lib.hid hva
  clear hwa hua hna hva
  have h6v := h6'.chg0 HCa.out
  have HK6 := Lib.hid hm6.num
  go_wp2_with (rw [← HUa.out, ← HNa.out]; refine wpList_store_row rfl 51 _ _ rfl na cs6.toArray rfl rfl _ _ hba hcla hcza honea ?_; rw [← HVa.out])
  refine (net_at_yes p F4 _ 1 (plainM 8 1) va h6v rfl).mono ?_
  rintro e x7 ⟨cs7, rfl, hm7, hb7⟩
  have h7 := h6v.chg0 (Chg.of_below hb7)
  have HB7 := Lib.hid hb7
  clear hb7
  obtain ⟨nb, hnb⟩ : ∃ n, n = x7.heap.size := ⟨_, rfl⟩
  obtain ⟨ub, hub⟩ : ∃ u, u = x7.alloc (.cells #[.int .i64 0, .int .i64 0, .int .i64 0, .int .i64 0, .int .i64 0, .int .i64 0, .int .i64 0, .slice none 0 0, .int .i64 0, .slice none 0 0, .slice none 0 0, .int .i64 0, .int .i64 0, .slice none 0 0, .int .i64 0, .int .u64 0, .int .u64 0, .int .i64 0, .slice none 0 0] 51 (0, 0)) := ⟨_, rfl⟩
  have hbb : ub.heap[nb]? = some (.cells #[.int .i64 0, .int .i64 0, .int .i64 0, .int .i64 0, .int .i64 0, .int .i64 0, .int .i64 0, .slice none 0 0, .int .i64 0, .slice none 0 0, .slice none 0 0, .int .i64 0, .int .i64 0, .slice none 0 0, .int .i64 0, .int .u64 0, .int .u64 0, .int .i64 0, .slice none 0 0] 51 (0, 0)) := by rw [hub]; exact alloc_new x7 _ _ hnb
  obtain ⟨vb, hvb⟩ : ∃ v, v = ub.setRow nb cs7.toArray := ⟨_, rfl⟩
  have hwb : vb.heap[nb]? = some (.cells cs7.toArray 51 (0, 0)) := by rw [hvb]; exact setRow_heap _ nb _ cs7.toArray _ _ hbb
  have honeb : cs7.toArray.all (·.oneCell') = true := by rw [List.all_toArray]; exact List.all_eq_true.2 hm7.one
  have hclb : (Try.prog.info? 51).map (·.size) = some cs7.toArray.size := size19.trans (congrArg some (by rw [List.size_toArray, hm7.length]))
  have hczb : (#[.int .i64 0, .int .i64 0, .int .i64 0, .int .i64 0, .int .i64 0, .int .i64 0, .int .i64 0, .slice none 0 0, .int .i64 0, .slice none 0 0, .slice none 0 0, .int .i64 0, .int .i64 0, .slice none 0 0, .int .i64 0, .int .u64 0, .int .u64 0, .int .i64 0, .slice none 0 0] : Array Value).size = cs7.toArray.size := by show 19 = cs7.toArray.size; rw [List.size_toArray, hm7.length]
  have HCb : Hid (Chg none_ x7 vb) := by
    have e : Chg none_ x7 ub := by rw [hub]; exact (Chg.refl none_ x7).alloc _
    exact e.step (by rw [hvb]; exact (Chg.refl (· = nb) ub).row cs7.toArray) (fun j e => .inr (by have e' : j = nb := e; omega))
  have HWb := Lib.hid hwb
  have HUb := Lib.hid hub
  have HNb := Lib.hid hnb
  have HVb := Lib.hid hvb
  clear hwb hub hnb hvb
  have h7v := h7.chg0 HCb.out
  have HK7 := Lib.hid hm7.num
  go_wp2_with (rw [← HUb.out, ← HNb.out]; refine wpList_store_row rfl 51 _ _ rfl nb cs7.toArray rfl rfl _ _ hbb hclb hczb honeb ?_; rw [← HVb.out])
  refine (net_take_no p F4 _ 2 vb h7v (by simp)).mono ?_
  rintro e x8 ⟨rfl, hb8⟩
  have h8 := h7v.chg0 (Chg.of_below hb8)
  have HB8 := Lib.hid hb8
  clear hb8
  obtain ⟨nc, hnc⟩ : ∃ n, n = x8.heap.size := ⟨_, rfl⟩
  obtain ⟨uc, huc⟩ : ∃ u, u = x8.alloc (.cells #[.int .i64 0, .int .i64 0, .int .i64 0, .int .i64 0, .int .i64 0, .int .i64 0, .int .i64 0, .slice none 0 0, .int .i64 0, .slice none 0 0, .slice none 0 0, .int .i64 0, .int .i64 0, .slice none 0 0, .int .i64 0, .int .u64 0, .int .u64 0, .int .i64 0, .slice none 0 0] 51 (0, 0)) := ⟨_, rfl⟩
  have hbc : uc.heap[nc]? = some (.cells #[.int .i64 0, .int .i64 0, .int .i64 0, .int .i64 0, .int .i64 0, .int .i64 0, .int .i64 0, .slice none 0 0, .int .i64 0, .slice none 0 0, .slice none 0 0, .int .i64 0, .int .i64 0, .slice none 0 0, .int .i64 0, .int .u64 0, .int .u64 0, .int .i64 0, .slice none 0 0] 51 (0, 0)) := by rw [huc]; exact alloc_new x8 _ _ hnc
  obtain ⟨vc, hvc⟩ : ∃ v, v = uc.setRow nc zeroMsg.toArray := ⟨_, rfl⟩
  have hwc : vc.heap[nc]? = some (.cells zeroMsg.toArray 51 (0, 0)) := by rw [hvc]; exact setRow_heap _ nc _ zeroMsg.toArray _ _ hbc
  have honec : zeroMsg.toArray.all (·.oneCell') = true := by rw [List.all_toArray]; exact List.all_eq_true.2 (by intro u hu; simp only [zeroMsg, List.mem_cons, List.not_mem_nil, or_false] at hu; rcases hu with rfl | rfl | rfl | rfl | rfl | rfl | rfl | rfl | rfl | rfl | rfl | rfl | rfl | rfl | rfl | rfl | rfl | rfl | rfl <;> rfl)
  have hclc : (Try.prog.info? 51).map (·.size) = some zeroMsg.toArray.size := size19.trans (congrArg some (by rw [List.size_toArray, show zeroMsg.length = 19 from rfl]))
  have hczc : (#[.int .i64 0, .int .i64 0, .int .i64 0, .int .i64 0, .int .i64 0, .int .i64 0, .int .i64 0, .slice none 0 0, .int .i64 0, .slice none 0 0, .slice none 0 0, .int .i64 0, .int .i64 0, .slice none 0 0, .int .i64 0, .int .u64 0, .int .u64 0, .int .i64 0, .slice none 0 0] : Array Value).size = zeroMsg.toArray.size := by show 19 = zeroMsg.toArray.size; rw [List.size_toArray, show zeroMsg.length = 19 from rfl]
  have HCc : Hid (Chg none_ x8 vc) := by
    have e : Chg none_ x8 uc := by rw [huc]; exact (Chg.refl none_ x8).alloc _
    exact e.step (by rw [hvc]; exact (Chg.refl (· = nc) uc).row zeroMsg.toArray) (fun j e => .inr (by have e' : j = nc := e; omega))
  have HWc := Lib.hid hwc
  have HUc := Lib.hid huc
  have HNc := Lib.hid hnc
  have HVc := Lib.hid hvc
  clear hwc huc hnc hvc
  have h8v := h8.chg0 HCc.out
  have hwa := ((((Chg.of_below (S := none_) HB7.out).trans HCb.out).trans (Chg.of_below HB8.out)).trans HCc.out).blk HWa.out (fun h => h)
  have hwb := ((Chg.of_below (S := none_) HB8.out).trans HCc.out).blk HWb.out (fun h => h)
  have d4 : vc.cell? ⟨na, 4, none⟩ = some (.int .i64 2) := (cell_of_blk hwa 4).trans HK6.out
  have d5 : vc.cell? ⟨nb, 4, none⟩ = some (.int .i64 1) := (cell_of_blk hwb 4).trans HK7.out
  clear hwa hwb hm6 hm7 h6' h6v h7 h7v h8
  go_wp2_with (rw [← HUc.out, ← HNc.out]; refine wpList_store_row rfl 51 _ _ rfl nc zeroMsg.toArray rfl rfl _ _ hbc hclc hczc honec ?_; rw [← HVc.out])
  refine (net_len p F4 _ vc h8v).mono ?_
  rintro e _ ⟨rfl, rfl⟩
  go_wp2_with fail
  go_ret
  have h1 := hB6.size
  have h2 := HCa.out.size
  have h3 := HB7.out.size
  have h4 := HCb.out.size
  have h5 := HB8.out.size
  exact ⟨rfl, hB6.trans ((HCa.out.below (B := w.heap.size) (by omega) (fun _ e => e.elim)).trans ((HB7.out.mono (by omega)).trans ((HCb.out.below (by omega) (fun _ e => e.elim)).trans ((HB8.out.mono (by omega)).trans (HCc.out.below (by omega) (fun _ e => e.elim))))))⟩
end Go.Proofs.Ytjllejlgclfahaa
