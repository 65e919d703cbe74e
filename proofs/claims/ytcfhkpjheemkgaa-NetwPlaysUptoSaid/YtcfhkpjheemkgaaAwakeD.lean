/-
  tolseylaw27.awake: what the document fixes of who listens.
-/
import Derived.Test.YtcfhkpjheemkgaaWatchSign
import Derived.Test.YtcfhkpjheemkgaaWatchOpen
import Derived.Test.YtcfhkpjheemkgaaWatchSeen
namespace Go.Proofs.Ytcfhkpjheemkgaa
set_option linter.unusedSectionVars false
set_option linter.unnecessarySimpa false
set_option linter.unusedSimpArgs false
set_option linter.unusedVariables false
open Go.RowKit Go.MapKept

/-- The world and who listens. -/
def two (a b : Thing) : Nat → Thing := upd (upd (fun _ => emp) 0 a) 1 b
theorem memBaseD {w W : World} {m : Nat → Thing} {l : List Thing} (h : Sys w m l) (ht : base W ∈ l) : Below W.heap.size W w := by obtain ⟨F, hF⟩ := h.mem ht; exact hF.1
theorem two0 (a b x : Thing) : upd (two a b) 0 x = two x b := by
  unfold two
  rw [upd_comm _ _ _ (by decide), upd_upd]
theorem two1 (a b x : Thing) : upd (two a b) 1 x = two a x := upd_upd _ _ _ _
theorem two_0 (a b : Thing) : two a b 0 = a := rfl
theorem two_1 (a b : Thing) : two a b 1 = b := rfl
def cfgA : CfgX := ⟨1, 4, 0, 0, 0, 0, 0, 0⟩
def awC0 : List Ciph := [⟨0, [120], []⟩]
def awC1 : List Ciph := [⟨0, [120], [2]⟩]
def awC2 : List Ciph := shareC awC1 0 1
theorem aw_bads : badsOf cfgA [9, 2, 3] = [2] := by decide
theorem aw_share1 : shareC awC0 2 1 = awC1 := rfl
theorem aw_open1 (bs : List UInt8) : openN 2 awC1 ([(bs, 0, [])], []) 1 = ([(bs, 0, [])], []) := rfl
theorem aw_open2 (bs : List UInt8) : openN 2 awC2 ([(bs, 0, [])], []) 1 = ([(bs, 0, []), ([], 1, [120])], [1]) := rfl
theorem aw_open3 (bs : List UInt8) : openN 2 awC2 ([(bs, 0, []), ([], 1, [120])], [1]) 1 = ([(bs, 0, []), ([], 1, [120])], [1]) := rfl
theorem awC2_one : awC2.length = 1 := rfl
set_option maxRecDepth 100000 in
set_option maxHeartbeats 8000000 in
theorem adve_awake (w : World) : Calls Try.prog 20 #[] w fun e w' => e = .returned (.bool true) ∧ Below w.heap.size w w' := by
  have kc := fun w => Lib.run_convert_bytes_const (P := Try.prog) w 53 5 #[.int .u8 120] 1 1 Try.underlying53 Try.underlying5
  go_enter Try.func20, Try.ntmps20
  go_wp2_with fail
  refine (world_new 1 (Sys.start w)).mono ?_
  rintro e w1 ⟨p, d, rfl, h1⟩
  obtain ⟨X0, hX0⟩ : ∃ X : WX, X = ⟨[], fun _ => [], min (max 1 0) 100 + 1, []⟩ := ⟨_, rfl⟩
  rw [← hX0] at h1
  have hT0 : X0.T.length = 0 := by rw [hX0]; rfl
  have hN0 : X0.need = 2 := by rw [hX0]; rfl
  have hC0 : X0.C = [] := by rw [hX0]
  have hs1 := h1.putN 0 rfl
  obtain ⟨ni, x2, EN2, EX2, ES2, H2⟩ := Sys.box hs1 (.cells #[.int .i64 9, .int .i64 2, .int .i64 3] 3 (0, 0))
  have HT0 := Lib.hid hT0
  have HN0 := Lib.hid hN0
  have HC0 := Lib.hid hC0
  clear h1 hs1 hX0 hT0 hN0 hC0
  go_upto_region 4 with fail
  go_wp2_with fail
  rw [EX2.out, EN2.out]
  refine (adve_new (kw := 1) cfgA ⟨by decide, by decide, by decide⟩ [9, 2, 3] (some ⟨ni, 0, none⟩) 3 3 rfl (by decide) (fun y m' hs => ints_const (t := [9, 2, 3]) (hs.nth 0 rfl)) H2.out rfl).mono ?_
  rintro e w3 ⟨pa, rfl, h3⟩
  rw [aw_bads] at h3
  have H3 : Hid (Sys w3 (two (worldT p d X0) (watchT pa p [2] [] (oneM []))) [base w]) := h3.tail
  clear h3
  obtain ⟨nb, x4, EN4, EX4, ES4, H4⟩ := H3.out.box (.cells #[.int .u8 120] 5 (1, 2))
  go_upto_region 7 with fail
  go_wp2_with fail
  rw [EX4.out, EN4.out]
  have hby : BytesAt x4 (some ⟨nb, 0, none⟩) [120] := bytes_const (t := [120]) (H4.out.nth 0 rfl)
  refine (world_make 0 0 1 (some ⟨nb, 0, none⟩) [120] 1 (by decide) (by decide) H4.out rfl (by rw [HC0.out]; decide) (by rw [HT0.out]; decide) hby (fun h => nomatch h) (by decide)).mono ?_
  rintro e w5 ⟨he, h⟩
  rw [two0] at h
  obtain ⟨X1, hX1⟩ : ∃ X, X = X0.made ⟨0, 0, 1, (X0.C.length : Int) + 1⟩ [120] := ⟨_, rfl⟩
  have hC1 : X1.C = awC0 := by rw [hX1]; show X0.C ++ _ = _; rw [HC0.out]; rfl
  have hN1 : X1.need = 2 := by rw [hX1]; exact HN0.out
  have hT1 : X1.T.length ≤ 1 := by
    rw [hX1]
    have := (X0.ext_digest (envB ⟨0, 0, 1, (X0.C.length : Int) + 1⟩)).len.2
    rw [HT0.out] at this
    exact this
  rw [← hX1] at h
  obtain rfl : e = .returned (.agg #[.int .i64 0, .int .u64 0, .int .u64 1, .int .i64 1]) := by rw [he, HC0.out]; rfl
  obtain ⟨ne, x6, EN6, EX6, ES6, H6⟩ := Sys.box h (.cells #[.int .i64 0, .int .u64 0, .int .u64 1, .int .i64 1] 33 (0, 0))
  have HC1 := Lib.hid hC1
  have HN1 := Lib.hid hN1
  have HT1 := Lib.hid hT1
  clear h hX1 hC1 hN1 hT1 hby kc he
  go_upto_region 8 with fail
  rw [EX6.out, EN6.out]
  have q3 : x6.cell? ⟨ne, 3, none⟩ = some (.int .i64 1) := (cell_of_blk (H6.out.nth 0 rfl) 3).trans rfl
  obtain ⟨n7, x7, EN7, EX7, ES7, H7⟩ := H6.out.box (.cells #[.int .i64 0, .int .i64 0, .int .i64 0, .int .i64 0, .int .i64 0, .int .i64 0, .int .i64 0, .slice none 0 0, .int .i64 0, .slice none 0 0, .slice none 0 0, .int .i64 0, .int .i64 0, .slice none 0 0, .int .i64 0, .int .u64 0, .int .u64 0, .int .i64 0, .slice none 0 0] 36 (0, 0))
  obtain ⟨cs, hcs⟩ : ∃ cs : Array Value, cs = #[.int .i64 8, .int .i64 2, .int .i64 0, .int .i64 0, .int .i64 1, .int .i64 0, .int .i64 0, .slice none 0 0, .int .i64 0, .slice none 0 0, .slice none 0 0, .int .i64 0, .int .i64 0, .slice none 0 0, .int .i64 0, .int .u64 0, .int .u64 0, .int .i64 0, .slice none 0 0] := ⟨_, rfl⟩
  obtain ⟨x8, hx8⟩ : ∃ x, x = x7.setRow n7 cs := ⟨_, rfl⟩
  have hb7 : x7.heap[n7]? = some (.cells #[.int .i64 0, .int .i64 0, .int .i64 0, .int .i64 0, .int .i64 0, .int .i64 0, .int .i64 0, .slice none 0 0, .int .i64 0, .slice none 0 0, .slice none 0 0, .int .i64 0, .int .i64 0, .slice none 0 0, .int .i64 0, .int .u64 0, .int .u64 0, .int .i64 0, .slice none 0 0] 36 (0, 0)) := H7.out.nth 0 rfl
  have hone : cs.all (·.oneCell') = true := by rw [hcs]; simp [Value.oneCell']
  have hcl : (Try.prog.info? 36).map (·.size) = some cs.size := by rw [hcs]; exact size19
  have hcz : (#[.int .i64 0, .int .i64 0, .int .i64 0, .int .i64 0, .int .i64 0, .int .i64 0, .int .i64 0, .slice none 0 0, .int .i64 0, .slice none 0 0, .slice none 0 0, .int .i64 0, .int .i64 0, .slice none 0 0, .int .i64 0, .int .u64 0, .int .u64 0, .int .i64 0, .slice none 0 0] : Array Value).size = cs.size := by rw [hcs]; rfl
  have hbt : Try.prog.built 36 [(0, .int .i64 8), (1, .int .i64 2), (4, .int .i64 1)] = some cs := by rw [hcs]; rfl
  have H8 : Hid (Sys x8 (two (worldT p d X1) (watchT pa p [2] [] (oneM []))) [blk n7 (.cells #[.int .i64 8, .int .i64 2, .int .i64 0, .int .i64 0, .int .i64 1, .int .i64 0, .int .i64 0, .slice none 0 0, .int .i64 0, .slice none 0 0, .slice none 0 0, .int .i64 0, .int .i64 0, .slice none 0 0, .int .i64 0, .int .u64 0, .int .u64 0, .int .i64 0, .slice none 0 0] 36 (0, 0)), blk ne (.cells #[.int .i64 0, .int .u64 0, .int .u64 1, .int .i64 1] 33 (0, 0)), base w]) := by
    rw [hx8, hcs]
    exact (H7.out.store ((Chg.refl (· = n7) x7).row #[.int .i64 8, .int .i64 2, .int .i64 0, .int .i64 0, .int .i64 1, .int .i64 0, .int .i64 0, .slice none 0 0, .int .i64 0, .slice none 0 0, .slice none 0 0, .int .i64 0, .int .i64 0, .slice none 0 0, .int .i64 0, .int .u64 0, .int .u64 0, .int .i64 0, .slice none 0 0]) (setRow_heap _ _ _ _ _ _ hb7)).dropAt 2 rfl
  have HBT := Lib.hid hbt
  have HX8 := Lib.hid hx8
  have HB7 := Lib.hid hb7
  clear hcs hx8 hb7 hbt
  go_upto_region 9 with (first | (refine wpList_buildTo rfl 36 _ rfl (some 26) rfl cs ?_ ?_; (focus (simp only [List.map_toArray, List.map_cons, List.map_nil]; exact HBT.out))) | (rw [EX7.out, EN7.out]; refine wpList_store_row rfl 36 _ _ rfl n7 cs rfl rfl _ _ HB7.out hcl hcz hone ?_; rw [← HX8.out]))
  clear q3 HBT HX8 HB7 hone hcl hcz
  have hbm := H8.out.nth 0 rfl
  go_wp2_with (refine wpList_load_row rfl 36 _ rfl n7 rfl _ _ _ _ hbm Try.underlying36 rfl size19 ?_)
  refine (watch_sign_share 2 1 (by decide) (by decide) H8.out rfl rfl (by have := HT1.out; show X1.T.length ≤ _; omega)).mono ?_
  rintro e w9 ⟨rfl, h⟩
  rw [decide_eq_true (show (2 : Int) ∈ [2] by decide)]
  rw [if_pos (show (2 : Int) ∈ [2] by decide), two0] at h
  obtain ⟨X2, hX2⟩ : ∃ X, X = { X1 with C := shareC X1.C 2 1 } := ⟨_, rfl⟩
  have hC2 : X2.C = awC1 := by rw [hX2]; show shareC X1.C 2 1 = _; rw [HC1.out]; rfl
  have hN2 : X2.need = 2 := by rw [hX2]; exact HN1.out
  have hT2 : X2.T.length ≤ 1 := by rw [hX2]; exact HT1.out
  rw [← hX2] at h
  have H9 := Lib.hid h
  have HC2 := Lib.hid hC2
  have HN2 := Lib.hid hN2
  have HT2 := Lib.hid hT2
  clear h hX2 hC2 hN2 hT2 hbm
  have q3 : w9.cell? ⟨ne, 3, none⟩ = some (.int .i64 1) := (cell_of_blk (H9.out.nth 1 rfl) 3).trans rfl
  go_wp2_with fail
  refine (watch_sign_share 3 1 (by decide) (by decide) H9.out rfl rfl (by have := HT2.out; show X2.T.length ≤ _; omega)).mono ?_
  rintro e w10 ⟨rfl, h⟩
  rw [decide_eq_false (show ¬ ((3 : Int) ∈ [2]) by decide)]
  rw [if_neg (show ¬ ((3 : Int) ∈ [2]) by decide), two0] at h
  have H10 := Lib.hid h
  clear h q3
  have hbm := H10.out.nth 0 rfl
  obtain ⟨n11, x11, EN11, EX11, ES11, H11⟩ := H10.out.box (.cells #[.int .i64 8, .int .i64 2, .int .i64 0, .int .i64 0, .int .i64 1, .int .i64 0, .int .i64 0, .slice none 0 0, .int .i64 0, .slice none 0 0, .slice none 0 0, .int .i64 0, .int .i64 0, .slice none 0 0, .int .i64 0, .int .u64 0, .int .u64 0, .int .i64 0, .slice none 0 0] 36 (0, 0))
  go_upto_region 11 with fail
  go_wp2_with (refine wpList_load_row rfl 36 _ rfl n7 rfl _ _ _ _ hbm Try.underlying36 rfl size19 ?_)
  rw [EX11.out, EN11.out]
  refine (watch_hear (kw := 1) (shareP 2 1) (share_own 2 1) (share_at 2 1 _) (share_wf 2 1) (share_len 2 1) n11 0 1 (fun y m' hs => cells_at (hs.nth 0 rfl) 0 (shareP 2 1).cells rfl) (by decide) H11.out rfl).mono ?_
  rintro e w12 ⟨rfl, h⟩
  rw [two1] at h
  obtain ⟨bs, hbs⟩ : ∃ b, b = (shareP 2 1).bytes := ⟨_, rfl⟩
  rw [← hbs] at h
  have hbl : bs.length ≤ 1000000000 := by rw [hbs]; exact share_len 2 1
  have H12 : Hid (Sys w12 (two (worldT p d X2) (watchT pa p [2] [(bs, 0, [])] (oneM []))) _) := h.tail
  have HBS := Lib.hid hbs
  have HBL := Lib.hid hbl
  clear h hbs hbm hbl
  have hpl1 : ∀ x ∈ X2.C, x.plain.length ≤ 1000000000 := by rw [HC2.out]; intro x hx; rcases List.mem_singleton.1 hx with rfl; decide
  go_wp2_with fail
  refine (watch_open (kw := 1) (by decide) (OL := []) hpl1 (by rw [HC2.out]; show 1 + 1 ≤ 1000000; decide) H12.out rfl rfl).mono ?_
  rintro e w13 ⟨rfl, h⟩
  rw [two1, HN2.out, HC2.out, show awC1.length = 1 from rfl, aw_open1] at h
  have H13 := Lib.hid h
  clear h hpl1
  go_wp2_with fail
  refine (watch_seen (kw := 1) (S := [(bs, 0, [])]) (show 1 ≤ 1000000 by decide) (fun x hx => by rcases List.mem_singleton.1 hx with rfl; exact ⟨HBL.out, Nat.zero_le _⟩) H13.out rfl).mono ?_
  rintro e w14 ⟨a, c, RX, he, hRX, h⟩
  obtain rfl : e = .returned (.slice a 1 c) := he
  have H14 := Lib.hid h.tail.tail
  clear h hRX RX
  go_upto_region 14 with fail
  refine wp_region_seq (fun x : World => x.cell? ⟨ne, 3, none⟩ = some (.int .i64 1)) anyW [] [(0, 0, some 44), (2, 0, some 46), (3, 1, some 47), (1, 2, some 45), (4, 2, some 48)] (by kernel_rfl) (by kernel_rfl) (fun _ _ _ d _ h => by cases d <;> exact h) ((cell_of_blk (H14.out.drew.nth 1 rfl) 3).trans rfl) anyW.i ?_
  repeat (first | (refine seqW (v := ?_) rfl rfl (by kernel_rfl) ?_ ?_; rotate_left; (focus ((intro x; go_simp); try (with_reducible rfl))); try simp only [Act.put, List.setIfInBounds_toArray, List.set_cons_zero, List.set_cons_succ]) | (refine seqS (v := ?_) rfl rfl (by kernel_rfl) ?_ ?_; rotate_left; (focus (intro x hS; first | (have q3 := hS; go_simp; try (with_reducible rfl)))); try simp only [Act.put, List.setIfInBounds_toArray, List.set_cons_zero, List.set_cons_succ]) | (refine seqX rfl rfl (by kernel_rfl) ?_; try simp only [Act.put, List.setIfInBounds_toArray, List.set_cons_zero, List.set_cons_succ]))
  refine seqL rfl rfl (fun K hK => ?_)
  go_simp
  go_at_call 24
  refine (world_vault H14.out.drew rfl).mono ?_
  rintro z y1 ⟨rfl, rfl⟩
  go_wp2_with fail
  refine hK.out _ _ anyW.i ?_ (fun _ hSt => ?_)
  · exact (cell_of_blk (H14.out.drew.nth 1 rfl) 3).trans rfl
  clear hSt hK K
  try simp only [Act.put, List.setIfInBounds_toArray, List.set_cons_zero, List.set_cons_succ]
  refine seqL rfl rfl (fun K hK => ?_)
  go_simp
  go_at_call 25
  refine (world_share 0 1 (by decide) H14.out.drew rfl).mono ?_
  rintro z w15 ⟨rfl, h⟩
  rw [two0] at h
  obtain ⟨X3, hX3⟩ : ∃ X, X = { X2 with C := shareC X2.C 0 1 } := ⟨_, rfl⟩
  have hC3 : X3.C = awC2 := by rw [hX3]; show shareC X2.C 0 1 = _; rw [HC2.out]; rfl
  have hN3 : X3.need = 2 := by rw [hX3]; exact HN2.out
  rw [← hX3] at h
  have H15 := Lib.hid h
  have HC3 := Lib.hid hC3
  have HN3 := Lib.hid hN3
  clear h hX3 hC3 hN3
  go_wp2_with fail
  refine hK.out _ _ anyW.i ?_ (fun _ hSt => ?_)
  · exact (cell_of_blk (H15.out.nth 1 rfl) 3).trans rfl
  clear hSt hK K
  try simp only [Act.put, List.setIfInBounds_toArray, List.set_cons_zero, List.set_cons_succ]
  refine seqE ?_
  have hpl2 : ∀ x ∈ X3.C, x.plain.length ≤ 1000000000 := by
    rw [HC3.out]
    intro x hx
    have hx' : x ∈ awC2 := hx
    have : ∀ x ∈ awC2, x.plain.length ≤ 1000000000 := by decide
    exact this x hx'
  go_wp2_with fail
  refine (watch_open (kw := 1) (by decide) (OL := []) hpl2 (by rw [HC3.out]; show 1 + 1 ≤ 1000000; decide) H15.out rfl rfl).mono ?_
  rintro e w16 ⟨rfl, h⟩
  rw [two1, HN3.out, HC3.out, show awC2.length = 1 from rfl, aw_open2] at h
  have H16 := Lib.hid h
  clear h
  go_wp2_with fail
  refine (watch_open (kw := 1) (by decide) (OL := [1]) hpl2 (by rw [HC3.out]; show 2 + 1 ≤ 1000000; decide) H16.out rfl rfl).mono ?_
  rintro e w17 ⟨rfl, h⟩
  rw [two1, HN3.out, HC3.out, show awC2.length = 1 from rfl, aw_open3] at h
  have H17 := Lib.hid h
  clear h hpl2
  go_wp2_with fail
  refine (watch_seen (kw := 1) (S := [(bs, 0, []), ([], 1, [120])]) (show 2 ≤ 1000000 by decide) (fun x hx => by
    rcases List.mem_cons.1 hx with rfl | hx
    · exact ⟨HBL.out, Nat.zero_le _⟩
    · rcases List.mem_singleton.1 hx with rfl; exact ⟨Nat.zero_le _, show 1 ≤ 1000000000 by decide⟩) H17.out rfl).mono ?_
  rintro e w18 ⟨a2, c2, RX, he, hRX, h⟩
  obtain rfl : e = .returned (.slice a2 2 c2) := he
  have H18 := Lib.hid h
  have HRX := Lib.hid hRX
  clear h hRX
  have hbm := H18.out.nth 2 rfl
  go_upto_region 18 with fail
  go_wp2_with (refine wpList_load_row rfl 36 _ rfl n7 rfl _ _ _ _ hbm Try.underlying36 rfl size19 ?_)
  refine (mess_code_own (shareP 2 1) (share_own 2 1) (share_at 2 1 _) (share_wf 2 1) (share_len 2 1) H18.out).mono ?_
  rintro e w19 ⟨v, rfl, h⟩
  rw [← HBS.out] at h
  obtain ⟨r0, r1, rfl, e0, e1⟩ : ∃ r0 r1, RX = [r0, r1] ∧ r0.x = (bs, 0, []) ∧ r1.x = ([], 1, [120]) := by
    have hh := HRX.out
    match RX, hh with
    | [r0, r1], hh => exact ⟨r0, r1, rfl, by simpa using (List.cons.inj hh).1, by simpa using (List.cons.inj (List.cons.inj hh).2).1⟩
  obtain ⟨mv0, m0, k0, tv0, t0⟩ := r0
  obtain ⟨mv1, m1, k1, tv1, t1⟩ := r1
  obtain ⟨rfl, rfl, rfl⟩ : m0 = bs ∧ k0 = 0 ∧ t0 = [] := by simpa [SeenX.x] using e0
  obtain ⟨rfl, rfl, rfl⟩ : m1 = [] ∧ k1 = 1 ∧ t1 = [120] := by simpa [SeenX.x] using e1
  obtain ⟨g, rfl, hc0⟩ := (h.front 1 rfl).getOwn.seenCellsAt (j := 0) (by simp)
  obtain ⟨g', hg', hc1⟩ := (h.front 1 rfl).getOwn.seenCellsAt (j := 1) (by simp)
  cases hg'
  obtain ⟨ho0, -⟩ := Sys.seenAt (h.front 2 rfl) (List.mem_cons_self ..)
  obtain ⟨-, ho1⟩ := Sys.seenAt (h.front 2 rfl) (List.mem_cons_of_mem _ (List.mem_cons_self ..))
  obtain ⟨b0, d0, hmv0, -, hy0, -⟩ := ho0.bytes
  obtain ⟨b1, d1, htv1, -, hy1, -⟩ := ho1.bytes
  dsimp only at hmv0 htv1 hy0 hy1
  subst hmv0 htv1
  obtain ⟨av, cv, rfl, -, hy2, -⟩ := h.getOwn.bytes
  have z0 := hc0 0 _ rfl
  have z4 := hc1 1 _ rfl
  have z5 := hc1 2 _ rfl
  obtain ⟨nb0, hnb0⟩ : ∃ n, n = m0.length := ⟨_, rfl⟩
  obtain ⟨st, hst⟩ : ∃ s : ByteArray, s = ⟨m0.toArray⟩ := ⟨_, rfl⟩
  have HCV : Hid (∀ (x : World) (a : Option Addr) (c : Nat), BytesAt x a m0 → (convert 53 9 (.slice a nb0 c)).run Try.prog x = .ok (.string st) x) := fun x a c hx => by rw [hnb0, hst]; exact bytes_string hx c
  have HC1 : Hid (∀ (x : World) (a : Option Addr) (c : Nat), BytesAt x a [120] → (convert 53 9 (.slice a 1 c)).run Try.prog x = .ok (.string ⟨#[120]⟩) x) := fun x a c hx => bytes_string hx c
  have he1 : (st.toList == st.toList) = true := by simp
  have he2 : ((⟨#[120]⟩ : ByteArray).toList == (⟨#[120]⟩ : ByteArray).toList) = true := by simp
  rw [← hnb0] at z0 ⊢
  replace z0 : w19.cell? ⟨g, 0, none⟩ = some (.slice b0 nb0 d0) := z0
  replace z4 : w19.cell? ⟨g, 4, none⟩ = some (.int .i64 1) := z4
  replace z5 : w19.cell? ⟨g, 5, none⟩ = some (.slice b1 1 d1) := z5
  have H19 := Lib.hid h
  have HS19 : Hid ((fun x : World => BytesAt x b0 m0 ∧ BytesAt x av m0 ∧ BytesAt x b1 [120] ∧ x.cell? ⟨g, 0, none⟩ = some (.slice b0 nb0 d0) ∧ x.cell? ⟨g, 4, none⟩ = some (.int .i64 1) ∧ x.cell? ⟨g, 5, none⟩ = some (.slice b1 1 d1)) w19) := ⟨hy0, hy2, hy1, z0, z4, z5⟩
  clear h hbm e0 e1 hc0 hc1 ho0 ho1 hy0 hy1 hy2 z0 z4 z5 hnb0 hst HRX
  go_upto_region 19 with fail
  have HSD : Hid ((fun x : World => BytesAt x b0 m0 ∧ BytesAt x av m0 ∧ BytesAt x b1 [120] ∧ x.cell? ⟨g, 0, none⟩ = some (.slice b0 nb0 d0) ∧ x.cell? ⟨g, 4, none⟩ = some (.int .i64 1) ∧ x.cell? ⟨g, 5, none⟩ = some (.slice b1 1 d1)) w19.drew) := HS19.out
  refine wp_region_seq (fun x : World => BytesAt x b0 m0 ∧ BytesAt x av m0 ∧ BytesAt x b1 [120] ∧ x.cell? ⟨g, 0, none⟩ = some (.slice b0 nb0 d0) ∧ x.cell? ⟨g, 4, none⟩ = some (.int .i64 1) ∧ x.cell? ⟨g, 5, none⟩ = some (.slice b1 1 d1)) anyW [] [(0, 0, some 60), (1, 2, some 61), (2, 0, some 62), (3, 0, some 63), (4, 2, some 64), (5, 0, some 65), (6, 0, some 66), (7, 0, some 67), (8, 0, some 68), (9, 2, some 69), (10, 0, some 70), (11, 0, some 71), (12, 0, some 72), (13, 0, some 73), (14, 0, some 74), (15, 0, some 75), (16, 0, some 76), (17, 0, some 77), (18, 0, some 78), (19, 0, some 79), (20, 0, some 80), (21, 0, some 81), (22, 0, some 82), (23, 0, some 83), (24, 0, some 84), (25, 0, some 85), (26, 0, some 86), (27, 0, some 87), (28, 0, some 88), (29, 0, some 89), (30, 0, some 90), (31, 0, some 91), (32, 1, some 92), (33, 1, some 93), (34, 0, some 94), (35, 1, some 95), (36, 0, some 96), (37, 0, some 97), (38, 0, some 98), (39, 0, some 99), (40, 0, some 100), (41, 0, some 101), (42, 1, some 102), (43, 0, some 103), (44, 0, some 104), (45, 0, some 105), (46, 0, some 106), (47, 0, some 107), (48, 0, some 108), (49, 1, some 109), (50, 1, some 110), (51, 0, some 111), (52, 0, some 112), (53, 0, some 0)] (by kernel_rfl) (by kernel_rfl) (fun _ _ _ d _ h => by cases d <;> exact h) HSD.out anyW.i ?_
  repeat (first | (refine seqW (v := ?_) rfl rfl (by kernel_rfl) ?_ ?_; rotate_left; (focus ((intro x; go_simp); try (with_reducible rfl))); try simp only [Act.put, List.setIfInBounds_toArray, List.set_cons_zero, List.set_cons_succ]) | (refine seqS (v := ?_) rfl rfl (by kernel_rfl) ?_ ?_; rotate_left; (focus (intro x hS; first | (obtain ⟨hb0, hb2, hb1, z0, z4, z5⟩ := hS; have s0 := HCV.out x b0 d0 hb0; have s2 := HCV.out x av cv hb2; have s1 := HC1.out x b1 d1 hb1; go_simp; try (with_reducible rfl)))); try simp only [Act.put, List.setIfInBounds_toArray, List.set_cons_zero, List.set_cons_succ]) | (refine seqX rfl rfl (by kernel_rfl) ?_; try simp only [Act.put, List.setIfInBounds_toArray, List.set_cons_zero, List.set_cons_succ]))
  refine seqL rfl rfl (fun K hK => ?_)
  go_simp
  go_at_call 28
  refine (watch_bad (kw := 1) 2 (by decide) H19.out.drew rfl).mono ?_
  rintro z y1 ⟨rfl, rfl⟩
  rw [decide_eq_true (show (2 : Int) ∈ [2] by decide)]
  go_wp2_with fail
  refine hK.out _ _ anyW.i ?_ (fun _ hSt => ?_)
  · exact HSD.out
  clear hSt hK K
  try simp only [Act.put, List.setIfInBounds_toArray, List.set_cons_zero, List.set_cons_succ]
  repeat (first | (refine seqW (v := ?_) rfl rfl (by kernel_rfl) ?_ ?_; rotate_left; (focus ((intro x; go_simp); try (with_reducible rfl))); try simp only [Act.put, List.setIfInBounds_toArray, List.set_cons_zero, List.set_cons_succ]) | (refine seqS (v := ?_) rfl rfl (by kernel_rfl) ?_ ?_; rotate_left; (focus (intro x hS; first | (obtain ⟨hb0, hb2, hb1, z0, z4, z5⟩ := hS; have s0 := HCV.out x b0 d0 hb0; have s2 := HCV.out x av cv hb2; have s1 := HC1.out x b1 d1 hb1; go_simp; try (with_reducible rfl)))); try simp only [Act.put, List.setIfInBounds_toArray, List.set_cons_zero, List.set_cons_succ]) | (refine seqX rfl rfl (by kernel_rfl) ?_; try simp only [Act.put, List.setIfInBounds_toArray, List.set_cons_zero, List.set_cons_succ]))
  refine seqL rfl rfl (fun K hK => ?_)
  go_simp
  go_at_call 28
  refine (watch_bad (kw := 1) 3 (by decide) H19.out.drew rfl).mono ?_
  rintro z y1 ⟨rfl, rfl⟩
  rw [decide_eq_false (show ¬ ((3 : Int) ∈ [2]) by decide)]
  go_wp2_with fail
  refine hK.out _ _ anyW.i ?_ (fun _ hSt => ?_)
  · exact HSD.out
  clear hSt hK K
  try simp only [Act.put, List.setIfInBounds_toArray, List.set_cons_zero, List.set_cons_succ]
  repeat (first | (refine seqW (v := ?_) rfl rfl (by kernel_rfl) ?_ ?_; rotate_left; (focus ((intro x; go_simp); try (with_reducible rfl))); try simp only [Act.put, List.setIfInBounds_toArray, List.set_cons_zero, List.set_cons_succ]) | (refine seqS (v := ?_) rfl rfl (by kernel_rfl) ?_ ?_; rotate_left; (focus (intro x hS; first | (obtain ⟨hb0, hb2, hb1, z0, z4, z5⟩ := hS; have s0 := HCV.out x b0 d0 hb0; have s2 := HCV.out x av cv hb2; have s1 := HC1.out x b1 d1 hb1; go_simp; try (with_reducible rfl)))); try simp only [Act.put, List.setIfInBounds_toArray, List.set_cons_zero, List.set_cons_succ]) | (refine seqX rfl rfl (by kernel_rfl) ?_; try simp only [Act.put, List.setIfInBounds_toArray, List.set_cons_zero, List.set_cons_succ]))
  refine seqL rfl rfl (fun K hK => ?_)
  go_simp
  go_at_call 28
  refine (watch_bad (kw := 1) 9 (by decide) H19.out.drew rfl).mono ?_
  rintro z y1 ⟨rfl, rfl⟩
  rw [decide_eq_false (show ¬ ((9 : Int) ∈ [2]) by decide)]
  go_wp2_with fail
  refine hK.out _ _ anyW.i ?_ (fun _ hSt => ?_)
  · exact HSD.out
  clear hSt hK K
  try simp only [Act.put, List.setIfInBounds_toArray, List.set_cons_zero, List.set_cons_succ]
  repeat (first | (refine seqW (v := ?_) rfl rfl (by kernel_rfl) ?_ ?_; rotate_left; (focus ((intro x; go_simp); try (with_reducible rfl))); try simp only [Act.put, List.setIfInBounds_toArray, List.set_cons_zero, List.set_cons_succ]) | (refine seqS (v := ?_) rfl rfl (by kernel_rfl) ?_ ?_; rotate_left; (focus (intro x hS; first | (obtain ⟨hb0, hb2, hb1, z0, z4, z5⟩ := hS; have s0 := HCV.out x b0 d0 hb0; have s2 := HCV.out x av cv hb2; have s1 := HC1.out x b1 d1 hb1; go_simp; try (with_reducible rfl)))); try simp only [Act.put, List.setIfInBounds_toArray, List.set_cons_zero, List.set_cons_succ]) | (refine seqX rfl rfl (by kernel_rfl) ?_; try simp only [Act.put, List.setIfInBounds_toArray, List.set_cons_zero, List.set_cons_succ]))
  refine seqE ?_
  go_wp2_with fail
  go_ret
  refine ⟨?_, memBaseD (W := w) H19.out.drew (by simp)⟩
  first | rfl | (simp only [he1, he2]; rfl) | trace_state
end Go.Proofs.Ytcfhkpjheemkgaa
