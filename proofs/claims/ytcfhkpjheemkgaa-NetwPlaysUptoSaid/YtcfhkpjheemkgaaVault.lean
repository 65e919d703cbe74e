/-
  The world's Make and Ok; its vault's Share, Plain, Len, Shares.
-/
import Derived.Test.YtcfhkpjheemkgaaWorld
namespace Go.Proofs.Ytcfhkpjheemkgaa
set_option linter.unusedSectionVars false
set_option linter.unusedSimpArgs false
set_option linter.unusedVariables false
open Go.RowKit Go.MapKept

theorem size4 : (Try.prog.info? 33).map (·.size) = some 4 := by kernel_rfl
section
variable {w w' : World} {m : Nat → Thing} {l : List Thing} {p : Nat} {d : Wd} {X : WX}
def WX.digest (X : WX) (x : List UInt8) : WX := { X with T := addT X.T x }
def WX.sign (X : WX) (who : Int) (x : List UInt8) : WX := { X with T := addT X.T x, f := addAt X.f (dg X.T x) who }
def WX.made (X : WX) (e : EnvX) (plain : List UInt8) : WX := { T := addT X.T (envB e), f := addAt X.f (dg X.T (envB e)) (1000 + e.client), need := X.need, C := X.C ++ [⟨e.client, plain, []⟩] }
theorem world_seal (label : Int) (a : Option Addr) (t : List UInt8) (cap : Nat) (h : Sys w m l) (hw : m 0 = worldT p d X) (hn : X.C.length ≤ 1000000000) (ha : BytesAt w a t) (han : a = none → t = []) (hl : t.length ≤ 1000000000) :
    Calls Try.prog 61 #[.pointer (some ⟨d.pv, 0, none⟩), .int .i64 label, .slice a t.length cap] w fun e w' => e = .returned (.int .i64 ((X.C.length : Int) + 1)) ∧ Sys w' (upd m 0 (worldT p d { X with C := X.C ++ [⟨label, t, []⟩] })) l := by
  obtain ⟨F, hF, _, _, hT⟩ := (h.vault hw).head
  refine (seal_seal d.pv F X.need X.C label a t cap w hF hn ha han hl).mono ?_
  rintro e w' ⟨he, ⟨F', h1, h2⟩, h3⟩
  exact ⟨he, (hT w' (vaultT d.pv X.need (X.C ++ [(⟨label, t, []⟩ : Ciph)])) ⟨F', h1, h2, h3⟩).vaultBack⟩
set_option maxRecDepth 100000 in
set_option maxHeartbeats 1000000 in
theorem world_make (client nonce fee : Int) (a : Option Addr) (t : List UInt8) (cap : Nat) (hc : 0 ≤ client ∧ client ≤ 999) (hnf : (0 ≤ nonce ∧ nonce < 18446744073709551616) ∧ (0 ≤ fee ∧ fee < 18446744073709551616)) (h : Sys w m l) (hw : m 0 = worldT p d X) (hn : X.C.length ≤ 1000000000) (hT : X.T.length ≤ 1000000000) (ha : BytesAt w a t) (han : a = none → t = []) (hl : t.length ≤ 1000000000) :
    Calls Try.prog 22 #[.pointer (some ⟨p, 0, none⟩), .int .i64 client, .int .u64 nonce, .int .u64 fee, .slice a t.length cap] w fun e w' => e = .returned (.agg (EnvX.cells ⟨client, nonce, fee, (X.C.length : Int) + 1⟩).toArray) ∧ Sys w' (upd m 0 (worldT p d (X.made ⟨client, nonce, fee, (X.C.length : Int) + 1⟩ t))) l := by
  obtain ⟨n0, hn0⟩ : ∃ n, n = w.heap.size := ⟨_, rfl⟩
  obtain ⟨wa, hwa⟩ : ∃ wa, wa = w.alloc (.cells #[.int .i64 0, .int .u64 0, .int .u64 0, .int .i64 0] 33 (0, 0)) := ⟨_, rfl⟩
  have h1 := h.alloc (.cells #[.int .i64 0, .int .u64 0, .int .u64 0, .int .i64 0] 33 (0, 0)) hn0
  rw [← hwa] at h1
  have ha1 : BytesAt wa a t := ha.chg0 (by rw [hwa]; exact (Chg.refl _ _).alloc _)
  have c : wa.cell? ⟨p, 2, none⟩ = some (.pointer (some ⟨d.pv, 0, none⟩)) := cell_of_blk (h1.whdr hw) 2
  have HS := Lib.hid (world_seal client a t cap h1 hw hn ha1 han hl)
  have hci : (Lit.int .i64 ((X.C.length : Int) + 1)).wf = true := wf_mk (by omega) (by omega)
  have HWF : Hid (EnvX.wf ⟨client, nonce, fee, (X.C.length : Int) + 1⟩) := ⟨hnf.1, hnf.2, wf_mk (by dsimp only; omega) (by dsimp only; omega), hci⟩
  have HWC : Hid ((Lit.int .i64 (1000 + client)).wf = true) := wf_mk (by omega) (by omega)
  have HTL : Hid (X.T.length ≤ 1000000000) := hT
  have HWA := Lib.hid hwa
  have HN0 := Lib.hid hn0
  have hd1 : decide (client < 0) = false := by simp; omega
  have hd2 : decide (999 < client) = false := by simp; omega
  have hr1 : -1000 ≤ client ∧ client ≤ 1000 := by omega
  have hwc : IntKind.i64.wrap (1000 + client) = 1000 + client := by rw [IntKind.wrap_i64]; omega
  clear h h1 ha1 ha han hl hn hwa hn0 hci hnf hc hT
  generalize t.length = tl at *
  go_enter Try.func22, Try.ntmps22
  go_upto_region 1 with fail
  rw [← HWA.out, ← HN0.out]
  go_wp2_with fail
  refine HS.out.mono ?_
  rintro e w2 ⟨rfl, h2⟩
  obtain ⟨ci, hci⟩ : ∃ c, c = (X.C.length : Int) + 1 := ⟨_, rfl⟩
  rw [← hci] at HWF ⊢
  have HCI := Lib.hid hci
  have H2 := Lib.hid h2
  clear h2 hci HS
  obtain ⟨nb, hnb⟩ : ∃ n, n = w2.heap.size := ⟨_, rfl⟩
  obtain ⟨w3, hw3⟩ : ∃ w3, w3 = w2.alloc (.cells #[.int .i64 client, .int .u64 nonce, .int .u64 fee, .int .i64 ci] 33 (0, 0)) := ⟨_, rfl⟩
  have h3 := H2.out.alloc (.cells #[.int .i64 client, .int .u64 nonce, .int .u64 fee, .int .i64 ci] 33 (0, 0)) hnb
  rw [← hw3] at h3
  have H3 := Lib.hid h3
  have HW3 := Lib.hid hw3
  have HNB := Lib.hid hnb
  clear h3 hw3 hnb
  go_wp2_with fail
  rw [← HW3.out, ← HNB.out]
  have HBLK : Hid (∀ (x : World) (m' : Nat → Thing), Sys x m' (blk nb (.cells #[.int .i64 client, .int .u64 nonce, .int .u64 fee, .int .i64 ci] 33 (0, 0)) :: blk n0 (.cells #[.int .i64 0, .int .u64 0, .int .u64 0, .int .i64 0] 33 (0, 0)) :: l) → x.heap[nb]? = some (.cells #[.int .i64 client, .int .u64 nonce, .int .u64 fee, .int .i64 ci] 33 (0, 0))) := fun x m' hx => hx.getBlk
  have hS1 := And.intro (H3.out.drew.whdr (upd_same _ _ _)) (HBLK.out _ _ H3.out.drew)
  refine wp_region_stage (fun x : World => x.heap[p]? = some (.cells #[.pointer (some ⟨d.pt, 0, none⟩), .pointer (some ⟨d.ps, 0, none⟩), .pointer (some ⟨d.pv, 0, none⟩)] 117 (0, 0)) ∧ x.heap[nb]? = some (.cells #[.int .i64 client, .int .u64 nonce, .int .u64 fee, .int .i64 ci] 33 (0, 0))) [] (by kernel_rfl) ?_
  refine takeW 0 (some 30) (v := ?_) rfl (by rfl) (by kernel_rfl) (by kernel_rfl) (by kernel_rfl) (fun _ _ _ h => h) (by kernel_rfl) (by kernel_rfl) ?_ (Stage.still (by assumption)) ?_
  rotate_left
  · (intro w; go_simp; try (with_reducible rfl))
  try simp only [Act.put, List.setIfInBounds_toArray, List.set_cons_zero, List.set_cons_succ]
  refine takeW 1 (some 31) (v := ?_) rfl (by rfl) (by kernel_rfl) (by kernel_rfl) (by kernel_rfl) (fun _ _ _ h => h) (by kernel_rfl) (by kernel_rfl) ?_ (Stage.still (by assumption)) ?_
  rotate_left
  · (intro w; go_simp; try (with_reducible rfl))
  try simp only [Act.put, List.setIfInBounds_toArray, List.set_cons_zero, List.set_cons_succ]
  refine takeW 2 (some 32) (v := ?_) rfl (by rfl) (by kernel_rfl) (by kernel_rfl) (by kernel_rfl) (fun _ _ _ h => h) (by kernel_rfl) (by kernel_rfl) ?_ (Stage.still (by assumption)) ?_
  rotate_left
  · (intro w; go_simp; try (with_reducible rfl))
  try simp only [Act.put, List.setIfInBounds_toArray, List.set_cons_zero, List.set_cons_succ]
  refine takeS 3 (some 33) (v := ?_) rfl (by rfl) (by kernel_rfl) (by kernel_rfl) (by kernel_rfl) (fun _ _ _ h => h) (by kernel_rfl) (by kernel_rfl) (by kernel_rfl) ?_ (by assumption) ?_
  rotate_left
  · (intro w hSw; have c : w.cell? ⟨p, 1, none⟩ = some (.pointer (some ⟨d.ps, 0, none⟩)) := cell_of_blk hSw.1 1; clear hSw; go_simp; try (with_reducible rfl))
  try simp only [Act.put, List.setIfInBounds_toArray, List.set_cons_zero, List.set_cons_succ]
  refine takeW 4 (some 34) (v := ?_) rfl (by rfl) (by kernel_rfl) (by kernel_rfl) (by kernel_rfl) (fun _ _ _ h => h) (by kernel_rfl) (by kernel_rfl) ?_ (Stage.still (by assumption)) ?_
  rotate_left
  · (intro w; go_simp; try (with_reducible rfl))
  try simp only [Act.put, List.setIfInBounds_toArray, List.set_cons_zero, List.set_cons_succ]
  refine takeW 5 (some 35) (v := ?_) rfl (by rfl) (by kernel_rfl) (by kernel_rfl) (by kernel_rfl) (fun _ _ _ h => h) (by kernel_rfl) (by kernel_rfl) ?_ (Stage.still (by assumption)) ?_
  rotate_left
  · (intro w; go_simp; try (with_reducible rfl))
  try simp only [Act.put, List.setIfInBounds_toArray, List.set_cons_zero, List.set_cons_succ]
  refine takeW 6 (some 36) (v := ?_) rfl (by rfl) (by kernel_rfl) (by kernel_rfl) (by kernel_rfl) (fun _ _ _ h => h) (by kernel_rfl) (by kernel_rfl) ?_ (Stage.still (by assumption)) ?_
  rotate_left
  · (intro w; go_simp; try (with_reducible rfl))
  try simp only [Act.put, List.setIfInBounds_toArray, List.set_cons_zero, List.set_cons_succ]
  refine takeS 7 (some 37) (v := ?_) rfl (by rfl) (by kernel_rfl) (by kernel_rfl) (by kernel_rfl) (fun _ _ _ h => h) (by kernel_rfl) (by kernel_rfl) (by kernel_rfl) ?_ (by assumption) ?_
  rotate_left
  · (intro w hSw; have c0 : w.cell? ⟨nb, 0, none⟩ = some (.int .i64 client) := cell_of_blk hSw.2 0; have c1 : w.cell? ⟨nb, 1, none⟩ = some (.int .u64 nonce) := cell_of_blk hSw.2 1; have c2 : w.cell? ⟨nb, 2, none⟩ = some (.int .u64 fee) := cell_of_blk hSw.2 2; have c3 : w.cell? ⟨nb, 3, none⟩ = some (.int .i64 ci) := cell_of_blk hSw.2 3; clear hSw; go_simp; try (with_reducible rfl))
  try simp only [Act.put, List.setIfInBounds_toArray, List.set_cons_zero, List.set_cons_succ]
  refine oneT 8 (by kernel_rfl) rfl (fun K hK => ?_)
  go_simp
  go_at_call 62
  refine (world_digest ⟨client, nonce, fee, ci⟩ HWF.out H3.out.drew (upd_same _ _ _) HTL.out).mono ?_
  rintro e y ⟨rfl, hy⟩
  rw [upd_upd] at hy
  have hS1 := And.intro (hy.whdr (upd_same _ _ _)) (HBLK.out _ _ hy)
  have HY := Lib.hid hy
  clear hy
  go_wp2_with fail
  refine hK.out _ _ (Stage.still ?_) (fun hSt => ?_)
  · (try dsimp only); exact hS1
  clear hK K hSt
  try simp only [Act.put, List.setIfInBounds_toArray, List.set_cons_zero, List.set_cons_succ]
  refine oneT 9 (by kernel_rfl) rfl (fun K hK => ?_)
  go_simp
  go_at_call 38
  refine (world_sign (1000 + client) _ HWC.out HY.out (upd_same _ _ _)).mono ?_
  rintro e z ⟨rfl, hz⟩
  rw [upd_upd] at hz
  have hS1 := And.intro (hz.whdr (upd_same _ _ _)) (HBLK.out _ _ hz)
  have HZ := Lib.hid hz
  clear hz
  go_wp2_with fail
  refine hK.out _ _ (Stage.still ?_) (fun hSt => ?_)
  · (try dsimp only); exact hS1
  clear hK K hSt
  try simp only [Act.put, List.setIfInBounds_toArray, List.set_cons_zero, List.set_cons_succ]
  refine doneT (by kernel_rfl) ?_ _
  have hb0 : z.heap[n0]? = some (.cells #[.int .i64 0, .int .u64 0, .int .u64 0, .int .i64 0] 33 (0, 0)) := HZ.out.tail.getBlk
  have hbb := hS1.2
  have hzz := setRow_heap z n0 _ #[.int .i64 client, .int .u64 nonce, .int .u64 fee, .int .i64 ci] _ _ hb0
  have HF := Lib.hid (HZ.out.tail.store ((Chg.refl (· = n0) z).row #[.int .i64 client, .int .u64 nonce, .int .u64 fee, .int .i64 ci]) hzz)
  go_wp2_with (first | (refine wpList_load_row rfl 33 _ rfl nb rfl _ _ _ _ hbb Try.underlying33 rfl size4 ?_) | (refine wpList_store_row rfl 33 _ _ rfl n0 #[.int .i64 client, .int .u64 nonce, .int .u64 fee, .int .i64 ci] rfl rfl _ _ hb0 size4 rfl (by simp [Value.oneCell']) ?_))
  (try simp only [Exit.inBlock, Exit.then])
  refine bodyPost_ret (results_cell_row (cs := #[.int .i64 client, .int .u64 nonce, .int .u64 fee, .int .i64 ci]) rfl _ _ n0 _ _ _ rfl hzz Try.underlying33 rfl size4) rfl ?_
  refine ⟨by rw [← HCI.out]; rfl, ?_⟩
  have hf := HF.out.tail
  rw [← HCI.out]
  exact hf
set_option maxRecDepth 100000 in
set_option maxHeartbeats 1000000 in
theorem world_ok (ec en ef ei : Int) (hc : 0 ≤ ec ∧ ec ≤ 999) (hx : EnvX.wf ⟨ec, en, ef, ei⟩) (h : Sys w m l) (hw : m 0 = worldT p d X) (hT : X.T.length ≤ 1000000000) :
    Calls Try.prog 101 #[.pointer (some ⟨p, 0, none⟩), .agg #[.int .i64 ec, .int .u64 en, .int .u64 ef, .int .i64 ei]] w fun e w' => e = .returned (.bool (decide (1000 + ec ∈ X.f (dg X.T (envB ⟨ec, en, ef, ei⟩))))) ∧ Sys w' (upd m 0 (worldT p d (X.digest (envB ⟨ec, en, ef, ei⟩)))) l := by
  obtain ⟨nb, hnb⟩ : ∃ n, n = w.heap.size := ⟨_, rfl⟩
  obtain ⟨wa, hwa⟩ : ∃ wa, wa = w.alloc (.cells #[.int .i64 ec, .int .u64 en, .int .u64 ef, .int .i64 ei] 33 (0, 0)) := ⟨_, rfl⟩
  have h1 := h.alloc (.cells #[.int .i64 ec, .int .u64 en, .int .u64 ef, .int .i64 ei] 33 (0, 0)) hnb
  rw [← hwa] at h1
  have HWF := Lib.hid hx
  have HTL := Lib.hid hT
  have HD := Lib.hid h1.drew
  have hS1 := And.intro (HD.out.whdr hw) HD.out.getBlk
  have HWA := Lib.hid hwa
  have HNB := Lib.hid hnb
  have hd1 : decide (0 ≤ ec) = true := by simp; omega
  have hd2 : decide (ec ≤ 999) = true := by simp; omega
  have hwc : IntKind.i64.wrap (1000 + ec) = 1000 + ec := by rw [IntKind.wrap_i64]; omega
  clear h h1 hnb hwa hx hT hc
  go_enter Try.func101, Try.ntmps101
  go_upto_region 1 with fail
  rw [← HWA.out, ← HNB.out]
  refine wp_region_stage (fun x : World => x.heap[p]? = some (.cells #[.pointer (some ⟨d.pt, 0, none⟩), .pointer (some ⟨d.ps, 0, none⟩), .pointer (some ⟨d.pv, 0, none⟩)] 117 (0, 0)) ∧ x.heap[nb]? = some (.cells #[.int .i64 ec, .int .u64 en, .int .u64 ef, .int .i64 ei] 33 (0, 0))) [] (by kernel_rfl) ?_
  refine takeW 0 (some 5) (v := ?_) rfl (by rfl) (by kernel_rfl) (by kernel_rfl) (by kernel_rfl) (fun _ _ _ h => h) (by kernel_rfl) (by kernel_rfl) ?_ (Stage.still (by assumption)) ?_
  rotate_left
  · (intro w; go_simp; try (with_reducible rfl))
  try simp only [Act.put, List.setIfInBounds_toArray, List.set_cons_zero, List.set_cons_succ]
  refine takeS 1 (some 6) (v := ?_) rfl (by rfl) (by kernel_rfl) (by kernel_rfl) (by kernel_rfl) (fun _ _ _ h => h) (by kernel_rfl) (by kernel_rfl) (by kernel_rfl) ?_ (by assumption) ?_
  rotate_left
  · (intro w hSw; have c0 : w.cell? ⟨nb, 0, none⟩ = some (.int .i64 ec) := cell_of_blk hSw.2 0; clear hSw; go_simp; try (with_reducible rfl))
  try simp only [Act.put, List.setIfInBounds_toArray, List.set_cons_zero, List.set_cons_succ]
  refine takeW 2 (some 7) (v := ?_) rfl (by rfl) (by kernel_rfl) (by kernel_rfl) (by kernel_rfl) (fun _ _ _ h => h) (by kernel_rfl) (by kernel_rfl) ?_ (Stage.still (by assumption)) ?_
  rotate_left
  · (intro w; go_simp; try (with_reducible rfl))
  try simp only [Act.put, List.setIfInBounds_toArray, List.set_cons_zero, List.set_cons_succ]
  refine takeW 3 (some 8) (v := ?_) rfl (by rfl) (by kernel_rfl) (by kernel_rfl) (by kernel_rfl) (fun _ _ _ h => h) (by kernel_rfl) (by kernel_rfl) ?_ (Stage.still (by assumption)) ?_
  rotate_left
  · (intro w; go_simp; try (with_reducible rfl))
  try simp only [Act.put, List.setIfInBounds_toArray, List.set_cons_zero, List.set_cons_succ]
  refine takeW 4 (some 9) (v := ?_) rfl (by rfl) (by kernel_rfl) (by kernel_rfl) (by kernel_rfl) (fun _ _ _ h => h) (by kernel_rfl) (by kernel_rfl) ?_ (Stage.still (by assumption)) ?_
  rotate_left
  · (intro w; go_simp; try (with_reducible rfl))
  try simp only [Act.put, List.setIfInBounds_toArray, List.set_cons_zero, List.set_cons_succ]
  refine takeS 5 (some 10) (v := ?_) rfl (by rfl) (by kernel_rfl) (by kernel_rfl) (by kernel_rfl) (fun _ _ _ h => h) (by kernel_rfl) (by kernel_rfl) (by kernel_rfl) ?_ (by assumption) ?_
  rotate_left
  · (intro w hSw; have c0 : w.cell? ⟨nb, 0, none⟩ = some (.int .i64 ec) := cell_of_blk hSw.2 0; clear hSw; go_simp; try (with_reducible rfl))
  try simp only [Act.put, List.setIfInBounds_toArray, List.set_cons_zero, List.set_cons_succ]
  refine takeW 6 (some 11) (v := ?_) rfl (by rfl) (by kernel_rfl) (by kernel_rfl) (by kernel_rfl) (fun _ _ _ h => h) (by kernel_rfl) (by kernel_rfl) ?_ (Stage.still (by assumption)) ?_
  rotate_left
  · (intro w; go_simp; try (with_reducible rfl))
  try simp only [Act.put, List.setIfInBounds_toArray, List.set_cons_zero, List.set_cons_succ]
  refine takeW 7 (some 12) (v := ?_) rfl (by rfl) (by kernel_rfl) (by kernel_rfl) (by kernel_rfl) (fun _ _ _ h => h) (by kernel_rfl) (by kernel_rfl) ?_ (Stage.still (by assumption)) ?_
  rotate_left
  · (intro w; go_simp; try (with_reducible rfl))
  try simp only [Act.put, List.setIfInBounds_toArray, List.set_cons_zero, List.set_cons_succ]
  refine takeW 8 (some 13) (v := ?_) rfl (by rfl) (by kernel_rfl) (by kernel_rfl) (by kernel_rfl) (fun _ _ _ h => h) (by kernel_rfl) (by kernel_rfl) ?_ (Stage.still (by assumption)) ?_
  rotate_left
  · (intro w; go_simp; try (with_reducible rfl))
  try simp only [Act.put, List.setIfInBounds_toArray, List.set_cons_zero, List.set_cons_succ]
  refine takeW 9 (some 14) (v := ?_) rfl (by rfl) (by kernel_rfl) (by kernel_rfl) (by kernel_rfl) (fun _ _ _ h => h) (by kernel_rfl) (by kernel_rfl) ?_ (Stage.still (by assumption)) ?_
  rotate_left
  · (intro w; go_simp; try (with_reducible rfl))
  try simp only [Act.put, List.setIfInBounds_toArray, List.set_cons_zero, List.set_cons_succ]
  refine takeW 10 (some 15) (v := ?_) rfl (by rfl) (by kernel_rfl) (by kernel_rfl) (by kernel_rfl) (fun _ _ _ h => h) (by kernel_rfl) (by kernel_rfl) ?_ (Stage.still (by assumption)) ?_
  rotate_left
  · (intro w; go_simp; try (with_reducible rfl))
  try simp only [Act.put, List.setIfInBounds_toArray, List.set_cons_zero, List.set_cons_succ]
  refine takeW 11 (some 16) (v := ?_) rfl (by rfl) (by kernel_rfl) (by kernel_rfl) (by kernel_rfl) (fun _ _ _ h => h) (by kernel_rfl) (by kernel_rfl) ?_ (Stage.still (by assumption)) ?_
  rotate_left
  · (intro w; go_simp; try (with_reducible rfl))
  try simp only [Act.put, List.setIfInBounds_toArray, List.set_cons_zero, List.set_cons_succ]
  refine takeS 12 (some 17) (v := ?_) rfl (by rfl) (by kernel_rfl) (by kernel_rfl) (by kernel_rfl) (fun _ _ _ h => h) (by kernel_rfl) (by kernel_rfl) (by kernel_rfl) ?_ (by assumption) ?_
  rotate_left
  · (intro w hSw; have c : w.cell? ⟨p, 1, none⟩ = some (.pointer (some ⟨d.ps, 0, none⟩)) := cell_of_blk hSw.1 1; clear hSw; go_simp; try (with_reducible rfl))
  try simp only [Act.put, List.setIfInBounds_toArray, List.set_cons_zero, List.set_cons_succ]
  refine takeW 13 (some 18) (v := ?_) rfl (by rfl) (by kernel_rfl) (by kernel_rfl) (by kernel_rfl) (fun _ _ _ h => h) (by kernel_rfl) (by kernel_rfl) ?_ (Stage.still (by assumption)) ?_
  rotate_left
  · (intro w; go_simp; try (with_reducible rfl))
  try simp only [Act.put, List.setIfInBounds_toArray, List.set_cons_zero, List.set_cons_succ]
  refine takeS 14 (some 19) (v := ?_) rfl (by rfl) (by kernel_rfl) (by kernel_rfl) (by kernel_rfl) (fun _ _ _ h => h) (by kernel_rfl) (by kernel_rfl) (by kernel_rfl) ?_ (by assumption) ?_
  rotate_left
  · (intro w hSw; have c0 : w.cell? ⟨nb, 0, none⟩ = some (.int .i64 ec) := cell_of_blk hSw.2 0; clear hSw; go_simp; try (with_reducible rfl))
  try simp only [Act.put, List.setIfInBounds_toArray, List.set_cons_zero, List.set_cons_succ]
  refine takeW 15 (some 20) (v := ?_) rfl (by rfl) (by kernel_rfl) (by kernel_rfl) (by kernel_rfl) (fun _ _ _ h => h) (by kernel_rfl) (by kernel_rfl) ?_ (Stage.still (by assumption)) ?_
  rotate_left
  · (intro w; go_simp; try (with_reducible rfl))
  try simp only [Act.put, List.setIfInBounds_toArray, List.set_cons_zero, List.set_cons_succ]
  refine takeW 16 (some 21) (v := ?_) rfl (by rfl) (by kernel_rfl) (by kernel_rfl) (by kernel_rfl) (fun _ _ _ h => h) (by kernel_rfl) (by kernel_rfl) ?_ (Stage.still (by assumption)) ?_
  rotate_left
  · (intro w; go_simp; try (with_reducible rfl))
  try simp only [Act.put, List.setIfInBounds_toArray, List.set_cons_zero, List.set_cons_succ]
  refine takeS 17 (some 22) (v := ?_) rfl (by rfl) (by kernel_rfl) (by kernel_rfl) (by kernel_rfl) (fun _ _ _ h => h) (by kernel_rfl) (by kernel_rfl) (by kernel_rfl) ?_ (by assumption) ?_
  rotate_left
  · (intro w hSw; have c0 : w.cell? ⟨nb, 0, none⟩ = some (.int .i64 ec) := cell_of_blk hSw.2 0; have c1 : w.cell? ⟨nb, 1, none⟩ = some (.int .u64 en) := cell_of_blk hSw.2 1; have c2 : w.cell? ⟨nb, 2, none⟩ = some (.int .u64 ef) := cell_of_blk hSw.2 2; have c3 : w.cell? ⟨nb, 3, none⟩ = some (.int .i64 ei) := cell_of_blk hSw.2 3; clear hSw; go_simp; try (with_reducible rfl))
  try simp only [Act.put, List.setIfInBounds_toArray, List.set_cons_zero, List.set_cons_succ]
  refine oneT 18 (by kernel_rfl) rfl (fun K hK => ?_)
  go_simp
  go_at_call 62
  refine (world_digest ⟨ec, en, ef, ei⟩ HWF.out HD.out (hw) HTL.out).mono ?_
  rintro e y ⟨rfl, hy⟩
  have hS1 := And.intro (hy.whdr (upd_same _ _ _)) hy.getBlk
  have HY := Lib.hid hy
  clear hy
  go_wp2_with fail
  refine hK.out _ _ (Stage.still ?_) (fun hSt => ?_)
  · (try dsimp only); exact hS1
  clear hK K hSt
  try simp only [Act.put, List.setIfInBounds_toArray, List.set_cons_zero, List.set_cons_succ]
  refine oneT 19 (by kernel_rfl) rfl (fun K hK => ?_)
  go_simp
  go_at_call 40
  refine (world_has (1000 + ec) _ HY.out (upd_same _ _ _)).mono ?_
  rintro e _ ⟨rfl, rfl⟩
  go_wp2_with fail
  refine hK.out _ _ (Stage.still ?_) (fun hSt => ?_)
  · (try dsimp only); exact hS1
  clear hK K hSt
  try simp only [Act.put, List.setIfInBounds_toArray, List.set_cons_zero, List.set_cons_succ]
  refine takeW 20 (some 25) (v := ?_) rfl (by rfl) (by kernel_rfl) (by kernel_rfl) (by kernel_rfl) (fun _ _ _ h => h) (by kernel_rfl) (by kernel_rfl) ?_ (Stage.still (by assumption)) ?_
  rotate_left
  · (intro w; go_simp; try (with_reducible rfl))
  try simp only [Act.put, List.setIfInBounds_toArray, List.set_cons_zero, List.set_cons_succ]
  refine takeW 21 (some 4) (v := ?_) rfl (by rfl) (by kernel_rfl) (by kernel_rfl) (by kernel_rfl) (fun _ _ _ h => h) (by kernel_rfl) (by kernel_rfl) ?_ (Stage.still (by assumption)) ?_
  rotate_left
  · (intro w; go_simp; try (with_reducible rfl))
  try simp only [Act.put, List.setIfInBounds_toArray, List.set_cons_zero, List.set_cons_succ]
  refine doneT (by kernel_rfl) ?_ _
  go_wp2_with fail
  go_ret
  exact ⟨rfl, HY.out.tail⟩
set_option maxRecDepth 100000 in
set_option maxHeartbeats 1000000 in
theorem world_ok_no (ec en ef ei : Int) (hc : ¬ (0 ≤ ec ∧ ec ≤ 999)) (h : Sys w m l) :
    Calls Try.prog 101 #[.pointer (some ⟨p, 0, none⟩), .agg #[.int .i64 ec, .int .u64 en, .int .u64 ef, .int .i64 ei]] w fun e w' => e = .returned (.bool false) ∧ Sys w' m l := by
  obtain ⟨nb, hnb⟩ : ∃ n, n = w.heap.size := ⟨_, rfl⟩
  obtain ⟨wa, hwa⟩ : ∃ wa, wa = w.alloc (.cells #[.int .i64 ec, .int .u64 en, .int .u64 ef, .int .i64 ei] 33 (0, 0)) := ⟨_, rfl⟩
  have h1 := h.alloc (.cells #[.int .i64 ec, .int .u64 en, .int .u64 ef, .int .i64 ei] 33 (0, 0)) hnb
  rw [← hwa] at h1
  have HD := Lib.hid h1.drew
  have hS1 := HD.out.getBlk
  have HWA := Lib.hid hwa
  have HNB := Lib.hid hnb
  clear h h1 hnb hwa
  by_cases h0 : 0 ≤ ec
  · have hd1 : decide (0 ≤ ec) = true := by simp; omega
    have hd2 : decide (ec ≤ 999) = false := by simp; omega
    clear h0 hc
    go_enter Try.func101, Try.ntmps101
    go_upto_region 1 with fail
    rw [← HWA.out, ← HNB.out]
    refine wp_region_stage (fun x : World => x.heap[nb]? = some (.cells #[.int .i64 ec, .int .u64 en, .int .u64 ef, .int .i64 ei] 33 (0, 0))) [] (by kernel_rfl) ?_
    refine takeW 0 (some 5) (v := ?_) rfl (by rfl) (by kernel_rfl) (by kernel_rfl) (by kernel_rfl) (fun _ _ _ h => h) (by kernel_rfl) (by kernel_rfl) ?_ (Stage.still (by assumption)) ?_
    rotate_left
    · (intro w; go_simp; try (with_reducible rfl))
    try simp only [Act.put, List.setIfInBounds_toArray, List.set_cons_zero, List.set_cons_succ]
    refine takeS 1 (some 6) (v := ?_) rfl (by rfl) (by kernel_rfl) (by kernel_rfl) (by kernel_rfl) (fun _ _ _ h => h) (by kernel_rfl) (by kernel_rfl) (by kernel_rfl) ?_ (by assumption) ?_
    rotate_left
    · (intro w hSw; have c0 : w.cell? ⟨nb, 0, none⟩ = some (.int .i64 ec) := cell_of_blk hSw 0; clear hSw; go_simp; try (with_reducible rfl))
    try simp only [Act.put, List.setIfInBounds_toArray, List.set_cons_zero, List.set_cons_succ]
    refine takeW 2 (some 7) (v := ?_) rfl (by rfl) (by kernel_rfl) (by kernel_rfl) (by kernel_rfl) (fun _ _ _ h => h) (by kernel_rfl) (by kernel_rfl) ?_ (Stage.still (by assumption)) ?_
    rotate_left
    · (intro w; go_simp; try (with_reducible rfl))
    try simp only [Act.put, List.setIfInBounds_toArray, List.set_cons_zero, List.set_cons_succ]
    refine takeW 3 (some 8) (v := ?_) rfl (by rfl) (by kernel_rfl) (by kernel_rfl) (by kernel_rfl) (fun _ _ _ h => h) (by kernel_rfl) (by kernel_rfl) ?_ (Stage.still (by assumption)) ?_
    rotate_left
    · (intro w; go_simp; try (with_reducible rfl))
    try simp only [Act.put, List.setIfInBounds_toArray, List.set_cons_zero, List.set_cons_succ]
    refine takeW 4 (some 9) (v := ?_) rfl (by rfl) (by kernel_rfl) (by kernel_rfl) (by kernel_rfl) (fun _ _ _ h => h) (by kernel_rfl) (by kernel_rfl) ?_ (Stage.still (by assumption)) ?_
    rotate_left
    · (intro w; go_simp; try (with_reducible rfl))
    try simp only [Act.put, List.setIfInBounds_toArray, List.set_cons_zero, List.set_cons_succ]
    refine takeS 5 (some 10) (v := ?_) rfl (by rfl) (by kernel_rfl) (by kernel_rfl) (by kernel_rfl) (fun _ _ _ h => h) (by kernel_rfl) (by kernel_rfl) (by kernel_rfl) ?_ (by assumption) ?_
    rotate_left
    · (intro w hSw; have c0 : w.cell? ⟨nb, 0, none⟩ = some (.int .i64 ec) := cell_of_blk hSw 0; clear hSw; go_simp; try (with_reducible rfl))
    try simp only [Act.put, List.setIfInBounds_toArray, List.set_cons_zero, List.set_cons_succ]
    refine takeW 6 (some 11) (v := ?_) rfl (by rfl) (by kernel_rfl) (by kernel_rfl) (by kernel_rfl) (fun _ _ _ h => h) (by kernel_rfl) (by kernel_rfl) ?_ (Stage.still (by assumption)) ?_
    rotate_left
    · (intro w; go_simp; try (with_reducible rfl))
    try simp only [Act.put, List.setIfInBounds_toArray, List.set_cons_zero, List.set_cons_succ]
    refine takeW 7 (some 12) (v := ?_) rfl (by rfl) (by kernel_rfl) (by kernel_rfl) (by kernel_rfl) (fun _ _ _ h => h) (by kernel_rfl) (by kernel_rfl) ?_ (Stage.still (by assumption)) ?_
    rotate_left
    · (intro w; go_simp; try (with_reducible rfl))
    try simp only [Act.put, List.setIfInBounds_toArray, List.set_cons_zero, List.set_cons_succ]
    refine takeW 8 (some 13) (v := ?_) rfl (by rfl) (by kernel_rfl) (by kernel_rfl) (by kernel_rfl) (fun _ _ _ h => h) (by kernel_rfl) (by kernel_rfl) ?_ (Stage.still (by assumption)) ?_
    rotate_left
    · (intro w; go_simp; try (with_reducible rfl))
    try simp only [Act.put, List.setIfInBounds_toArray, List.set_cons_zero, List.set_cons_succ]
    refine skipT 9 (some 14) (by kernel_rfl) (by kernel_rfl) (by kernel_rfl) (by kernel_rfl) (fun _ _ _ h => h) (by kernel_rfl) (Stage.still (by assumption)) ?_
    try simp only [Act.put, List.setIfInBounds_toArray, List.set_cons_zero, List.set_cons_succ]
    refine skipT 10 (some 15) (by kernel_rfl) (by kernel_rfl) (by kernel_rfl) (by kernel_rfl) (fun _ _ _ h => h) (by kernel_rfl) (Stage.still (by assumption)) ?_
    try simp only [Act.put, List.setIfInBounds_toArray, List.set_cons_zero, List.set_cons_succ]
    refine skipT 11 (some 16) (by kernel_rfl) (by kernel_rfl) (by kernel_rfl) (by kernel_rfl) (fun _ _ _ h => h) (by kernel_rfl) (Stage.still (by assumption)) ?_
    try simp only [Act.put, List.setIfInBounds_toArray, List.set_cons_zero, List.set_cons_succ]
    refine skipT 12 (some 17) (by kernel_rfl) (by kernel_rfl) (by kernel_rfl) (by kernel_rfl) (fun _ _ _ h => h) (by kernel_rfl) (Stage.still (by assumption)) ?_
    try simp only [Act.put, List.setIfInBounds_toArray, List.set_cons_zero, List.set_cons_succ]
    refine skipT 13 (some 18) (by kernel_rfl) (by kernel_rfl) (by kernel_rfl) (by kernel_rfl) (fun _ _ _ h => h) (by kernel_rfl) (Stage.still (by assumption)) ?_
    try simp only [Act.put, List.setIfInBounds_toArray, List.set_cons_zero, List.set_cons_succ]
    refine skipT 14 (some 19) (by kernel_rfl) (by kernel_rfl) (by kernel_rfl) (by kernel_rfl) (fun _ _ _ h => h) (by kernel_rfl) (Stage.still (by assumption)) ?_
    try simp only [Act.put, List.setIfInBounds_toArray, List.set_cons_zero, List.set_cons_succ]
    refine skipT 15 (some 20) (by kernel_rfl) (by kernel_rfl) (by kernel_rfl) (by kernel_rfl) (fun _ _ _ h => h) (by kernel_rfl) (Stage.still (by assumption)) ?_
    try simp only [Act.put, List.setIfInBounds_toArray, List.set_cons_zero, List.set_cons_succ]
    refine skipT 16 (some 21) (by kernel_rfl) (by kernel_rfl) (by kernel_rfl) (by kernel_rfl) (fun _ _ _ h => h) (by kernel_rfl) (Stage.still (by assumption)) ?_
    try simp only [Act.put, List.setIfInBounds_toArray, List.set_cons_zero, List.set_cons_succ]
    refine skipT 17 (some 22) (by kernel_rfl) (by kernel_rfl) (by kernel_rfl) (by kernel_rfl) (fun _ _ _ h => h) (by kernel_rfl) (Stage.still (by assumption)) ?_
    try simp only [Act.put, List.setIfInBounds_toArray, List.set_cons_zero, List.set_cons_succ]
    refine skipT 18 (some 23) (by kernel_rfl) (by kernel_rfl) (by kernel_rfl) (by kernel_rfl) (fun _ _ _ h => h) (by kernel_rfl) (Stage.still (by assumption)) ?_
    try simp only [Act.put, List.setIfInBounds_toArray, List.set_cons_zero, List.set_cons_succ]
    refine skipT 19 (some 24) (by kernel_rfl) (by kernel_rfl) (by kernel_rfl) (by kernel_rfl) (fun _ _ _ h => h) (by kernel_rfl) (Stage.still (by assumption)) ?_
    try simp only [Act.put, List.setIfInBounds_toArray, List.set_cons_zero, List.set_cons_succ]
    refine takeW 20 (some 25) (v := ?_) rfl (by rfl) (by kernel_rfl) (by kernel_rfl) (by kernel_rfl) (fun _ _ _ h => h) (by kernel_rfl) (by kernel_rfl) ?_ (Stage.still (by assumption)) ?_
    rotate_left
    · (intro w; go_simp; try (with_reducible rfl))
    try simp only [Act.put, List.setIfInBounds_toArray, List.set_cons_zero, List.set_cons_succ]
    refine takeW 21 (some 4) (v := ?_) rfl (by rfl) (by kernel_rfl) (by kernel_rfl) (by kernel_rfl) (fun _ _ _ h => h) (by kernel_rfl) (by kernel_rfl) ?_ (Stage.still (by assumption)) ?_
    rotate_left
    · (intro w; go_simp; try (with_reducible rfl))
    try simp only [Act.put, List.setIfInBounds_toArray, List.set_cons_zero, List.set_cons_succ]
    refine doneT (by kernel_rfl) ?_ _
    go_wp2_with fail
    go_ret
    exact ⟨rfl, HD.out.tail⟩
  · have hd1 : decide (0 ≤ ec) = false := by simp; omega
    clear h0 hc
    go_enter Try.func101, Try.ntmps101
    go_upto_region 1 with fail
    rw [← HWA.out, ← HNB.out]
    refine wp_region_stage (fun x : World => x.heap[nb]? = some (.cells #[.int .i64 ec, .int .u64 en, .int .u64 ef, .int .i64 ei] 33 (0, 0))) [] (by kernel_rfl) ?_
    refine takeW 0 (some 5) (v := ?_) rfl (by rfl) (by kernel_rfl) (by kernel_rfl) (by kernel_rfl) (fun _ _ _ h => h) (by kernel_rfl) (by kernel_rfl) ?_ (Stage.still (by assumption)) ?_
    rotate_left
    · (intro w; go_simp; try (with_reducible rfl))
    try simp only [Act.put, List.setIfInBounds_toArray, List.set_cons_zero, List.set_cons_succ]
    refine takeS 1 (some 6) (v := ?_) rfl (by rfl) (by kernel_rfl) (by kernel_rfl) (by kernel_rfl) (fun _ _ _ h => h) (by kernel_rfl) (by kernel_rfl) (by kernel_rfl) ?_ (by assumption) ?_
    rotate_left
    · (intro w hSw; have c0 : w.cell? ⟨nb, 0, none⟩ = some (.int .i64 ec) := cell_of_blk hSw 0; clear hSw; go_simp; try (with_reducible rfl))
    try simp only [Act.put, List.setIfInBounds_toArray, List.set_cons_zero, List.set_cons_succ]
    refine takeW 2 (some 7) (v := ?_) rfl (by rfl) (by kernel_rfl) (by kernel_rfl) (by kernel_rfl) (fun _ _ _ h => h) (by kernel_rfl) (by kernel_rfl) ?_ (Stage.still (by assumption)) ?_
    rotate_left
    · (intro w; go_simp; try (with_reducible rfl))
    try simp only [Act.put, List.setIfInBounds_toArray, List.set_cons_zero, List.set_cons_succ]
    refine takeW 3 (some 8) (v := ?_) rfl (by rfl) (by kernel_rfl) (by kernel_rfl) (by kernel_rfl) (fun _ _ _ h => h) (by kernel_rfl) (by kernel_rfl) ?_ (Stage.still (by assumption)) ?_
    rotate_left
    · (intro w; go_simp; try (with_reducible rfl))
    try simp only [Act.put, List.setIfInBounds_toArray, List.set_cons_zero, List.set_cons_succ]
    refine skipT 4 (some 9) (by kernel_rfl) (by kernel_rfl) (by kernel_rfl) (by kernel_rfl) (fun _ _ _ h => h) (by kernel_rfl) (Stage.still (by assumption)) ?_
    try simp only [Act.put, List.setIfInBounds_toArray, List.set_cons_zero, List.set_cons_succ]
    refine skipT 5 (some 10) (by kernel_rfl) (by kernel_rfl) (by kernel_rfl) (by kernel_rfl) (fun _ _ _ h => h) (by kernel_rfl) (Stage.still (by assumption)) ?_
    try simp only [Act.put, List.setIfInBounds_toArray, List.set_cons_zero, List.set_cons_succ]
    refine skipT 6 (some 11) (by kernel_rfl) (by kernel_rfl) (by kernel_rfl) (by kernel_rfl) (fun _ _ _ h => h) (by kernel_rfl) (Stage.still (by assumption)) ?_
    try simp only [Act.put, List.setIfInBounds_toArray, List.set_cons_zero, List.set_cons_succ]
    refine takeW 7 (some 12) (v := ?_) rfl (by rfl) (by kernel_rfl) (by kernel_rfl) (by kernel_rfl) (fun _ _ _ h => h) (by kernel_rfl) (by kernel_rfl) ?_ (Stage.still (by assumption)) ?_
    rotate_left
    · (intro w; go_simp; try (with_reducible rfl))
    try simp only [Act.put, List.setIfInBounds_toArray, List.set_cons_zero, List.set_cons_succ]
    refine takeW 8 (some 13) (v := ?_) rfl (by rfl) (by kernel_rfl) (by kernel_rfl) (by kernel_rfl) (fun _ _ _ h => h) (by kernel_rfl) (by kernel_rfl) ?_ (Stage.still (by assumption)) ?_
    rotate_left
    · (intro w; go_simp; try (with_reducible rfl))
    try simp only [Act.put, List.setIfInBounds_toArray, List.set_cons_zero, List.set_cons_succ]
    refine skipT 9 (some 14) (by kernel_rfl) (by kernel_rfl) (by kernel_rfl) (by kernel_rfl) (fun _ _ _ h => h) (by kernel_rfl) (Stage.still (by assumption)) ?_
    try simp only [Act.put, List.setIfInBounds_toArray, List.set_cons_zero, List.set_cons_succ]
    refine skipT 10 (some 15) (by kernel_rfl) (by kernel_rfl) (by kernel_rfl) (by kernel_rfl) (fun _ _ _ h => h) (by kernel_rfl) (Stage.still (by assumption)) ?_
    try simp only [Act.put, List.setIfInBounds_toArray, List.set_cons_zero, List.set_cons_succ]
    refine skipT 11 (some 16) (by kernel_rfl) (by kernel_rfl) (by kernel_rfl) (by kernel_rfl) (fun _ _ _ h => h) (by kernel_rfl) (Stage.still (by assumption)) ?_
    try simp only [Act.put, List.setIfInBounds_toArray, List.set_cons_zero, List.set_cons_succ]
    refine skipT 12 (some 17) (by kernel_rfl) (by kernel_rfl) (by kernel_rfl) (by kernel_rfl) (fun _ _ _ h => h) (by kernel_rfl) (Stage.still (by assumption)) ?_
    try simp only [Act.put, List.setIfInBounds_toArray, List.set_cons_zero, List.set_cons_succ]
    refine skipT 13 (some 18) (by kernel_rfl) (by kernel_rfl) (by kernel_rfl) (by kernel_rfl) (fun _ _ _ h => h) (by kernel_rfl) (Stage.still (by assumption)) ?_
    try simp only [Act.put, List.setIfInBounds_toArray, List.set_cons_zero, List.set_cons_succ]
    refine skipT 14 (some 19) (by kernel_rfl) (by kernel_rfl) (by kernel_rfl) (by kernel_rfl) (fun _ _ _ h => h) (by kernel_rfl) (Stage.still (by assumption)) ?_
    try simp only [Act.put, List.setIfInBounds_toArray, List.set_cons_zero, List.set_cons_succ]
    refine skipT 15 (some 20) (by kernel_rfl) (by kernel_rfl) (by kernel_rfl) (by kernel_rfl) (fun _ _ _ h => h) (by kernel_rfl) (Stage.still (by assumption)) ?_
    try simp only [Act.put, List.setIfInBounds_toArray, List.set_cons_zero, List.set_cons_succ]
    refine skipT 16 (some 21) (by kernel_rfl) (by kernel_rfl) (by kernel_rfl) (by kernel_rfl) (fun _ _ _ h => h) (by kernel_rfl) (Stage.still (by assumption)) ?_
    try simp only [Act.put, List.setIfInBounds_toArray, List.set_cons_zero, List.set_cons_succ]
    refine skipT 17 (some 22) (by kernel_rfl) (by kernel_rfl) (by kernel_rfl) (by kernel_rfl) (fun _ _ _ h => h) (by kernel_rfl) (Stage.still (by assumption)) ?_
    try simp only [Act.put, List.setIfInBounds_toArray, List.set_cons_zero, List.set_cons_succ]
    refine skipT 18 (some 23) (by kernel_rfl) (by kernel_rfl) (by kernel_rfl) (by kernel_rfl) (fun _ _ _ h => h) (by kernel_rfl) (Stage.still (by assumption)) ?_
    try simp only [Act.put, List.setIfInBounds_toArray, List.set_cons_zero, List.set_cons_succ]
    refine skipT 19 (some 24) (by kernel_rfl) (by kernel_rfl) (by kernel_rfl) (by kernel_rfl) (fun _ _ _ h => h) (by kernel_rfl) (Stage.still (by assumption)) ?_
    try simp only [Act.put, List.setIfInBounds_toArray, List.set_cons_zero, List.set_cons_succ]
    refine takeW 20 (some 25) (v := ?_) rfl (by rfl) (by kernel_rfl) (by kernel_rfl) (by kernel_rfl) (fun _ _ _ h => h) (by kernel_rfl) (by kernel_rfl) ?_ (Stage.still (by assumption)) ?_
    rotate_left
    · (intro w; go_simp; try (with_reducible rfl))
    try simp only [Act.put, List.setIfInBounds_toArray, List.set_cons_zero, List.set_cons_succ]
    refine takeW 21 (some 4) (v := ?_) rfl (by rfl) (by kernel_rfl) (by kernel_rfl) (by kernel_rfl) (fun _ _ _ h => h) (by kernel_rfl) (by kernel_rfl) ?_ (Stage.still (by assumption)) ?_
    rotate_left
    · (intro w; go_simp; try (with_reducible rfl))
    try simp only [Act.put, List.setIfInBounds_toArray, List.set_cons_zero, List.set_cons_succ]
    refine doneT (by kernel_rfl) ?_ _
    go_wp2_with fail
    go_ret
    exact ⟨rfl, HD.out.tail⟩
end
end Go.Proofs.Ytcfhkpjheemkgaa
