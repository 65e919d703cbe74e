/-
  The world of digests, signatures and ciphers (package enve).
-/
import Derived.Test.YtcfhkpjheemkgaaTerm
import Derived.Test.YtcfhkpjheemkgaaSealSeal
import Derived.Test.YtcfhkpjheemkgaaCells
import Derived.Lib.SlBytesConst
namespace Go.Proofs.Ytcfhkpjheemkgaa
set_option linter.unusedSectionVars false
set_option linter.unusedSimpArgs false
set_option linter.unusedVariables false
open Go.RowKit Go.MapKept

structure Wd where
  pt : Nat
  ps : Nat
  pv : Nat
structure WX where
  T : List (List UInt8)
  f : Int → List Int
  need : Int
  C : List Ciph
def bookT (p : Nat) (f : Int → List Int) : Thing := ⟨fun w F => Book w p F f, fun h => h.lt, fun h hc hs => h.chg hc hs⟩
def vaultT (p : Nat) (need : Int) (C : List Ciph) : Thing := ⟨fun w F => Vault w p F need C, fun h => h.lt, fun h hc hs => h.chg hc hs⟩
def whdr (p : Nat) (d : Wd) : Thing := blk p (.cells #[.pointer (some ⟨d.pt, 0, none⟩), .pointer (some ⟨d.ps, 0, none⟩), .pointer (some ⟨d.pv, 0, none⟩)] 117 (0, 0))
def worldT (p : Nat) (d : Wd) (X : WX) : Thing := ex fun _ : Unit => [whdr p d, arena d.pt X.T, bookT d.ps X.f, vaultT d.pv X.need X.C]
def worldA (p : Nat) (d : Wd) (X : WX) : Thing := ex fun _ : Unit => [whdr p d, bookT d.ps X.f, vaultT d.pv X.need X.C]
def worldB (p : Nat) (d : Wd) (X : WX) : Thing := ex fun _ : Unit => [whdr p d, arena d.pt X.T, vaultT d.pv X.need X.C]
def worldV (p : Nat) (d : Wd) (X : WX) : Thing := ex fun _ : Unit => [whdr p d, arena d.pt X.T, bookT d.ps X.f]
section
variable {w w' : World} {m : Nat → Thing} {l : List Thing} {a b c t : Thing} {p : Nat} {d : Wd} {X : WX}
theorem perm3 : [a, b, c] ++ l = a :: b :: c :: l := rfl
theorem Sys.wopen4 (h : Sys w m l) (hw : m 0 = worldT p d X) : Sys w (upd m 0 emp) (whdr p d :: arena d.pt X.T :: bookT d.ps X.f :: vaultT d.pv X.need X.C :: l) := by
  obtain ⟨_, h⟩ := (h.lift 0 hw).open; exact h
theorem Sys.whdr (h : Sys w m l) (hw : m 0 = worldT p d X) : w.heap[p]? = some (.cells #[.pointer (some ⟨d.pt, 0, none⟩), .pointer (some ⟨d.ps, 0, none⟩), .pointer (some ⟨d.pv, 0, none⟩)] 117 (0, 0)) := (h.wopen4 hw).getBlk
/-- The arena alone, the rest of the world behind its name. -/
theorem Sys.arena (h : Sys w m l) (hw : m 0 = worldT p d X) : Sys w (upd m 0 (worldA p d X)) (arena d.pt X.T :: l) := by
  have h1 := (h.wopen4 hw).perm (l' := [Ytcfhkpjheemkgaa.whdr p d, bookT d.ps X.f, vaultT d.pv X.need X.C] ++ (Ytcfhkpjheemkgaa.arena d.pt X.T :: l)) (by
    refine (List.Perm.cons _ ?_)
    exact (List.Perm.swap _ _ _).trans (List.Perm.cons _ (List.Perm.swap _ _ _)))
  exact (Sys.close (f := fun _ : Unit => [Ytcfhkpjheemkgaa.whdr p d, bookT d.ps X.f, vaultT d.pv X.need X.C]) () h1).put
theorem Sys.arenaBack {T : List (List UInt8)} (h : Sys w (upd m 0 (worldA p d X)) (Ytcfhkpjheemkgaa.arena d.pt T :: l)) : Sys w (upd m 0 (worldT p d { X with T := T })) l := by
  obtain ⟨_, h⟩ := (h.lift 0 (upd_same _ _ _)).open
  rw [upd_upd] at h
  have h1 := h.perm (l' := [Ytcfhkpjheemkgaa.whdr p d, Ytcfhkpjheemkgaa.arena d.pt T, bookT d.ps X.f, vaultT d.pv X.need X.C] ++ l) (by
    refine (List.Perm.cons _ ?_)
    exact ((List.Perm.swap _ _ _).trans (List.Perm.cons _ (List.Perm.swap _ _ _))).symm)
  exact (Sys.close (f := fun _ : Unit => [Ytcfhkpjheemkgaa.whdr p d, Ytcfhkpjheemkgaa.arena d.pt T, bookT d.ps X.f, vaultT d.pv X.need X.C]) () h1).put
theorem Sys.book (h : Sys w m l) (hw : m 0 = worldT p d X) : Sys w (upd m 0 (worldB p d X)) (bookT d.ps X.f :: l) := by
  have h1 := (h.wopen4 hw).perm (l' := [Ytcfhkpjheemkgaa.whdr p d, Ytcfhkpjheemkgaa.arena d.pt X.T, vaultT d.pv X.need X.C] ++ (bookT d.ps X.f :: l)) (by
    refine (List.Perm.cons _ (List.Perm.cons _ ?_))
    exact List.Perm.swap _ _ _)
  exact (Sys.close (f := fun _ : Unit => [Ytcfhkpjheemkgaa.whdr p d, Ytcfhkpjheemkgaa.arena d.pt X.T, vaultT d.pv X.need X.C]) () h1).put
theorem Sys.bookBack {f : Int → List Int} (h : Sys w (upd m 0 (worldB p d X)) (bookT d.ps f :: l)) : Sys w (upd m 0 (worldT p d { X with f := f })) l := by
  obtain ⟨_, h⟩ := (h.lift 0 (upd_same _ _ _)).open
  rw [upd_upd] at h
  have h1 := h.perm (l' := [Ytcfhkpjheemkgaa.whdr p d, Ytcfhkpjheemkgaa.arena d.pt X.T, bookT d.ps f, vaultT d.pv X.need X.C] ++ l) (by
    refine (List.Perm.cons _ (List.Perm.cons _ ?_))
    exact List.Perm.swap _ _ _)
  exact (Sys.close (f := fun _ : Unit => [Ytcfhkpjheemkgaa.whdr p d, Ytcfhkpjheemkgaa.arena d.pt X.T, bookT d.ps f, vaultT d.pv X.need X.C]) () h1).put
theorem Sys.vault (h : Sys w m l) (hw : m 0 = worldT p d X) : Sys w (upd m 0 (worldV p d X)) (vaultT d.pv X.need X.C :: l) := by
  exact (Sys.close (f := fun _ : Unit => [Ytcfhkpjheemkgaa.whdr p d, Ytcfhkpjheemkgaa.arena d.pt X.T, bookT d.ps X.f]) () (l := vaultT d.pv X.need X.C :: l) (h.wopen4 hw)).put
theorem Sys.vaultBack {need : Int} {C : List Ciph} (h : Sys w (upd m 0 (worldV p d X)) (vaultT d.pv need C :: l)) : Sys w (upd m 0 (worldT p d { X with need := need, C := C })) l := by
  obtain ⟨_, h⟩ := (h.lift 0 (upd_same _ _ _)).open
  rw [upd_upd] at h
  exact (Sys.close (f := fun _ : Unit => [Ytcfhkpjheemkgaa.whdr p d, Ytcfhkpjheemkgaa.arena d.pt X.T, bookT d.ps X.f, vaultT d.pv need C]) () (l := l) h).put
theorem Own.bytesAt {n : Nat} {a : Option Addr} {k c : Nat} {l : List UInt8} (h : Own 5 1 w (.slice a k c) n (bcells l)) : BytesAt w a l := by
  obtain ⟨a', cap, e, _, h1, _⟩ := h.bytes
  cases e; exact h1
theorem bytes_of_row (t : List UInt8) (cap : Nat) (fr : Nat × Nat) : ∀ (w : World) (k : Nat), w.heap[k]? = some (.cells (bytesRow (bstr t) cap) 5 fr) → BytesAt w (some ⟨k, 0, none⟩) t := fun w k h =>
  .inr ⟨k, 0, rfl, fun j hj => by
    rw [Nat.zero_add, cell_of_blk h, bytesRow_at (bstr t) cap j (by simpa [bstr] using hj)]
    simp [bstr, hj, List.getD]⟩
/-- What holds whenever the things l lie there. -/
def Cap (l : List Thing) (Q : World → Prop) : Prop := ∀ w m, Sys w m l → Q w
theorem Cap.push {Q : World → Prop} (h : Cap l Q) : Cap (t :: l) Q := fun w m hs => h w m hs.tail

attribute [local go_sem high] run_imin run_imax in
set_option maxRecDepth 100000 in
set_option maxHeartbeats 1000000 in
theorem world_new (n : Int) (h : Sys w m l) : Calls Try.prog 19 #[.int .i64 n] w fun e w' => ∃ p d, e = .returned (.pointer (some ⟨p, 0, none⟩)) ∧ Sys w' m (worldT p d ⟨[], fun _ => [], min (max n 0) 100 + 1, []⟩ :: l) := by
  have H := Lib.hid (term_new h)
  clear h
  have hr : 0 ≤ min (max n 0) 100 ∧ min (max n 0) 100 ≤ 100 := by omega
  have HX : Hid (max (min (max n 0) 100 + 1) 1 = min (max n 0) 100 + 1) := by show _ = _; omega
  obtain ⟨q, hq⟩ : ∃ q, min (max n 0) 100 = q := ⟨_, rfl⟩
  rw [hq] at hr HX ⊢
  go_enter Try.func19, Try.ntmps19
  go_wp2_with fail
  refine H.out.mono ?_
  rintro e w1 ⟨pt, rfl, h1⟩
  have H1 := Lib.hid h1
  clear h1 H
  go_wp2_with fail
  refine (sign_new w1).mono ?_
  rintro e w2 ⟨ps, F2, rfl, hb, hn2, hB2⟩
  have H2 := Lib.hid (H1.out.push (t := bookT ps fun _ => []) (Chg.of_below hB2) hb hn2)
  clear hb hn2 hB2 H1
  go_wp2_with fail
  refine (seal_new (q + 1) w2).mono ?_
  rintro e w3 ⟨pv, F3, rfl, hv, hn3, hB3⟩
  rw [HX.out] at hv
  have H3 := Lib.hid (H2.out.push (t := vaultT pv (q + 1) []) (Chg.of_below hB3) hv hn3)
  clear hv hn3 hB3 H2
  go_wp2_with fail
  go_ret
  refine ⟨w3.heap.size, ⟨pt, ps, pv⟩, rfl, Sys.close (f := fun _ : Unit => [Ytcfhkpjheemkgaa.whdr w3.heap.size ⟨pt, ps, pv⟩, Ytcfhkpjheemkgaa.arena pt [], bookT ps (fun _ => []), vaultT pv (q + 1) []]) () (l := l) ?_⟩
  refine (H3.out.alloc _ rfl).perm (List.Perm.cons _ ?_)
  exact ((List.Perm.swap _ _ _).trans (List.Perm.cons _ (List.Perm.swap _ _ _))).trans (List.Perm.swap _ _ _)
theorem world_signs (h : Sys w m l) (hw : m 0 = worldT p d X) : Calls Try.prog 37 #[.pointer (some ⟨p, 0, none⟩)] w fun e w' => e = .returned (.pointer (some ⟨d.ps, 0, none⟩)) ∧ w = w' := by
  have c : w.cell? ⟨p, 1, none⟩ = some (.pointer (some ⟨d.ps, 0, none⟩)) := cell_of_blk (h.whdr hw) 1
  clear h hw
  go_enter Try.func37, Try.ntmps37
  go_wp2_with fail
  go_ret
  exact ⟨rfl, rfl⟩
theorem world_vault (h : Sys w m l) (hw : m 0 = worldT p d X) : Calls Try.prog 24 #[.pointer (some ⟨p, 0, none⟩)] w fun e w' => e = .returned (.pointer (some ⟨d.pv, 0, none⟩)) ∧ w = w' := by
  have c : w.cell? ⟨p, 2, none⟩ = some (.pointer (some ⟨d.pv, 0, none⟩)) := cell_of_blk (h.whdr hw) 2
  clear h hw
  go_enter Try.func24, Try.ntmps24
  go_wp2_with fail
  go_ret
  exact ⟨rfl, rfl⟩
theorem world_has (who x : Int) (h : Sys w m l) (hw : m 0 = worldT p d X) : Calls Try.prog 40 #[.pointer (some ⟨d.ps, 0, none⟩), .int .i64 who, .int .i64 x] w fun e w' => e = .returned (.bool (decide (who ∈ X.f x))) ∧ w = w' := by
  obtain ⟨F, hF, _⟩ := (h.book hw).head
  exact sign_has d.ps F X.f who x w hF
theorem world_sign (who x : Int) (hwho : (Lit.int .i64 who).wf = true) (h : Sys w m l) (hw : m 0 = worldT p d X) : Calls Try.prog 38 #[.pointer (some ⟨d.ps, 0, none⟩), .int .i64 who, .int .i64 x] w fun e w' => e = .returned (.tuple #[]) ∧ Sys w' (upd m 0 (worldT p d { X with f := addAt X.f x who })) l := by
  obtain ⟨F, hF, _, _, hT⟩ := (h.book hw).head
  refine (sign_sign d.ps F X.f who x w hF hwho).mono ?_
  rintro e w' ⟨rfl, F', h1, h2, _, h3⟩
  exact ⟨rfl, (hT w' (bookT d.ps (addAt X.f x who)) ⟨F', h1, h2, h3⟩).bookBack⟩
theorem wire_new_m (h : Sys w m l) : Calls Try.prog 92 #[] w fun e w' => ∃ p, e = .returned (.pointer (some ⟨p, 0, none⟩)) ∧ Sys w' m (writer p [] :: l) := wire_new h
set_option maxRecDepth 100000 in
set_option maxHeartbeats 4000000 in
theorem world_tagged (t : List UInt8) (L : List Int) (ia : Option Addr) (ic : Nat) (hI : Cap l (fun x => IntsAt x ia L)) (h : Sys w m l) (hw : m 0 = worldT p d X) (ht : t.length ≤ 1000) (hL : L.length ≤ 20000000) (hT : X.T.length ≤ 1000000000) :
    Calls Try.prog 68 #[.pointer (some ⟨p, 0, none⟩), .string (bstr t), .slice ia L.length ic] w fun e w' => e = .returned (.int .i64 (dg X.T (tagB t L))) ∧ Sys w' (upd m 0 (worldT p d { X with T := addT X.T (tagB t L) })) l := by
  have H := Lib.hid h
  have HI := Lib.hid hI
  have HTL := Lib.hid hT
  have HL := Lib.hid hL
  have HT := Lib.hid ht
  clear h hI hT hL ht
  obtain ⟨n, HN⟩ : ∃ n, Hid (L.length = n) := ⟨_, rfl⟩
  rw [HN.out]
  go_enter Try.func68, Try.ntmps68
  go_wp2_with fail
  refine (wire_new H.out).mono ?_
  rintro e w1 ⟨q, rfl, hS⟩
  have HS := Lib.hid hS
  clear hS H
  have hcvd := bytes_of_row t (grownCap w1 (bstr t).size 0 5) ((bytesRow (bstr t) (grownCap w1 (bstr t).size 0 5)).size, (bytesRow (bstr t) (grownCap w1 (bstr t).size 0 5)).size + 1)
  have HBR := Lib.hid hcvd
  clear hcvd
  have hcv := run_bytes_of_string (P := Try.prog) w1 9 53 5 (bstr t) Try.underlying9 Try.underlying53 Try.underlying5
  go_wp2_with fail
  obtain ⟨cap, hcap⟩ : ∃ c, c = grownCap w1 (bstr t).size 0 5 := ⟨_, rfl⟩
  have hsz : (bstr t).size = t.length := rfl
  rw [← hcap] at HBR ⊢
  have HS2 := Lib.hid ((HS.out.alloc (.cells (bytesRow (bstr t) cap) 5 ((bytesRow (bstr t) cap).size, (bytesRow (bstr t) cap).size + 1)) rfl).drew.swap)
  refine (wire_text t ⟨w1.heap.size, 0, none⟩ cap (fun w' h' => HBR.out _ _ h'.getBlk) HS2.out (by simp) (by have := HT.out; omega)).mono ?_
  rintro e w2 ⟨rfl, h3⟩
  have H3 := Lib.hid h3.swap.tail
  clear h3 HS2 HS hcv hcap hsz HBR
  go_wp2_with fail
  go_loopw [17] (fun i wr => ∃ j : Nat, j ≤ n ∧ i = .int .i64 j ∧ Sys wr m (writer q (textB t ++ intsB (L.take j)) :: l)) (fun i _ => n - (intOf i).toNat)
  case atStart => exact ⟨0, by omega, rfl, by simpa [intsB] using H3.out⟩
  case round =>
    obtain ⟨j, hj, rfl, hR⟩ := hrel
    have HNL := HL.out
    rw [HN.out] at HNL
    by_cases hlt : j < n
    · have hjl : (j : Int) < (n : Int) := by omega
      have hjL : j < L.length := by rw [HN.out]; exact hlt
      obtain ⟨xb, xo, rfl, hcell⟩ : ∃ b off, ia = some ⟨b, off, none⟩ ∧ wr.cell? ⟨b, off + j, none⟩ = some (.int .i64 (L.getD j 0)) := by
        rcases HI.out wr m hR.tail with h | ⟨b, off, rfl, h⟩
        · rw [h] at hjL; simp at hjL
        · exact ⟨b, off, rfl, h j hjL⟩
      have hwj : IntKind.i64.wrap ((j : Int) + 1) = (j : Int) + 1 := by rw [IntKind.wrap_i64]; omega
      have HR := Lib.hid (wire_int (L.getD j 0) hR (by have := HL.out; have := HT.out; rw [List.length_append, intsB_length]; have h1 := List.length_take_le j L; simp [textB, intB_length]; omega))
      have HTK : Hid (textB t ++ intsB (L.take j) ++ intB (L.getD j 0) = textB t ++ intsB (L.take (j + 1))) := by
        show _ = _
        rw [List.take_succ_eq_append_getElem hjL, intsB_snoc, List.append_assoc]
        simp [List.getD, hjL]
      clear hR HNL hjL
      generalize L.getD j 0 = x at *
      go_wp2_with fail
      refine HR.out.mono ?_
      rintro e wn ⟨rfl, hn⟩
      rw [HTK.out] at hn
      have HNN := Lib.hid hn
      clear hn HR
      go_wp2_with fail
      go_roundw
      case rel => exact ⟨j + 1, by omega, by go_num, HNN.out⟩
      case measure => simp [intOf]; omega
    · obtain rfl : j = n := by omega
      have htk : L.take j = L := by rw [List.take_of_length_le]; rw [HN.out]; exact Nat.le_refl _
      rw [htk] at hR
      have HLB : Hid ((tagB t L).length ≤ 1000000000) := by show _ ≤ _; rw [tagB_length]; have := HL.out; have := HT.out; omega
      have HR : Hid (Sys wr m (writer q (tagB t L) :: l)) := hR
      clear hR htk HNL
      have hlt2 : ¬ ((j : Int) < (j : Int)) := by omega
      go_wp2_with fail
      have hS1 := HR.out.drew.whdr hw
      refine wp_region_stage (fun x : World => x.heap[p]? = some (.cells #[.pointer (some ⟨d.pt, 0, none⟩), .pointer (some ⟨d.ps, 0, none⟩), .pointer (some ⟨d.pv, 0, none⟩)] 117 (0, 0))) [] (by kernel_rfl) ?_
      refine takeW 0 (some 25) (v := ?_) rfl (by rfl) (by kernel_rfl) (by kernel_rfl) (by kernel_rfl) (fun _ _ _ h => h) (by kernel_rfl) (by kernel_rfl) ?_ (Stage.still (by assumption)) ?_
      rotate_left
      · (intro w; go_simp; try (with_reducible rfl))
      try simp only [Act.put, List.setIfInBounds_toArray, List.set_cons_zero, List.set_cons_succ]
      refine takeW 1 (some 26) (v := ?_) rfl (by rfl) (by kernel_rfl) (by kernel_rfl) (by kernel_rfl) (fun _ _ _ h => h) (by kernel_rfl) (by kernel_rfl) ?_ (Stage.still (by assumption)) ?_
      rotate_left
      · (intro w; go_simp; try (with_reducible rfl))
      try simp only [Act.put, List.setIfInBounds_toArray, List.set_cons_zero, List.set_cons_succ]
      refine takeW 2 (some 27) (v := ?_) rfl (by rfl) (by kernel_rfl) (by kernel_rfl) (by kernel_rfl) (fun _ _ _ h => h) (by kernel_rfl) (by kernel_rfl) ?_ (Stage.still (by assumption)) ?_
      rotate_left
      · (intro w; go_simp; try (with_reducible rfl))
      try simp only [Act.put, List.setIfInBounds_toArray, List.set_cons_zero, List.set_cons_succ]
      refine takeS 3 (some 28) (v := ?_) rfl (by rfl) (by kernel_rfl) (by kernel_rfl) (by kernel_rfl) (fun _ _ _ h => h) (by kernel_rfl) (by kernel_rfl) (by kernel_rfl) ?_ (by assumption) ?_
      rotate_left
      · (intro w hSw; have c : w.cell? ⟨p, 0, none⟩ = some (.pointer (some ⟨d.pt, 0, none⟩)) := cell_of_blk hSw 0; clear hSw; go_simp; try (with_reducible rfl))
      try simp only [Act.put, List.setIfInBounds_toArray, List.set_cons_zero, List.set_cons_succ]
      refine takeW 4 (some 29) (v := ?_) rfl (by rfl) (by kernel_rfl) (by kernel_rfl) (by kernel_rfl) (fun _ _ _ h => h) (by kernel_rfl) (by kernel_rfl) ?_ (Stage.still (by assumption)) ?_
      rotate_left
      · (intro w; go_simp; try (with_reducible rfl))
      try simp only [Act.put, List.setIfInBounds_toArray, List.set_cons_zero, List.set_cons_succ]
      refine oneT 5 (by kernel_rfl) rfl (fun K hK => ?_)
      go_simp
      go_at_call 97
      refine (wire_bytes (HR.out.drew) (by have := HLB.out; omega)).mono ?_
      rintro e y ⟨v, rfl, hy⟩
      obtain ⟨va, vk, vc, rfl, HVK⟩ := hy.getOwn.slice
      have HVK2 := HVK.out
      subst HVK2
      have HY := Lib.hid hy
      have hS1 := hy.whdr hw
      clear hy
      go_wp2_with fail
      refine hK.out _ _ (Stage.still ?_) (fun hSt => ?_)
      · (try dsimp only); exact hS1
      clear hK K hSt
      try simp only [Act.put, List.setIfInBounds_toArray, List.set_cons_zero, List.set_cons_succ]
      refine oneT 6 (by kernel_rfl) rfl (fun K hK => ?_)
      go_simp
      go_at_call 96
      refine (term_digest (tagB t L) va vc (fun w' h' => h'.getOwn.bytesAt) ((HY.out.arena hw).swap.swap) (by have := HTL.out; omega)).mono ?_
      rintro e z ⟨rfl, hz⟩
      have HZ := Lib.hid (hz.arenaBack.tail)
      have hS1 := HZ.out.whdr (upd_same _ _ _)
      clear hz
      go_wp2_with fail
      refine hK.out _ _ (Stage.still ?_) (fun hSt => ?_)
      · (try dsimp only); exact hS1
      clear hK K hSt
      try simp only [Act.put, List.setIfInBounds_toArray, List.set_cons_zero, List.set_cons_succ]
      refine takeW 7 (some 6) (v := ?_) rfl (by rfl) (by kernel_rfl) (by kernel_rfl) (by kernel_rfl) (fun _ _ _ h => h) (by kernel_rfl) (by kernel_rfl) ?_ (Stage.still (by assumption)) ?_
      rotate_left
      · (intro w; go_simp; try (with_reducible rfl))
      try simp only [Act.put, List.setIfInBounds_toArray, List.set_cons_zero, List.set_cons_succ]
      refine doneT (by kernel_rfl) ?_ _
      go_wp2_with fail
      go_ret
      exact ⟨rfl, HZ.out⟩
theorem bytes_const {w : World} {k : Nat} {t : List UInt8} {ty : TypeId} {fr : Nat × Nat} (h : w.heap[k]? = some (.cells (bcells t).toArray ty fr)) : BytesAt w (some ⟨k, 0, none⟩) t :=
  .inr ⟨k, 0, rfl, fun j hj => by rw [cell_of_blk h]; simp [bcells, hj, List.getD]⟩
/-- An envelope's bytes. -/
def envB (e : EnvX) : List UInt8 := textB [101, 110, 118] ++ intB e.client ++ be8 e.nonce ++ be8 e.fee ++ intB e.cipher
theorem envB_length (e : EnvX) : (envB e).length = 43 := rfl
def EnvX.wf (e : EnvX) : Prop := (0 ≤ e.nonce ∧ e.nonce < 18446744073709551616) ∧ (0 ≤ e.fee ∧ e.fee < 18446744073709551616) ∧ (Lit.int .i64 e.client).wf = true ∧ (Lit.int .i64 e.cipher).wf = true
set_option maxRecDepth 100000 in
set_option maxHeartbeats 4000000 in
theorem world_digest (x : EnvX) (hx : x.wf) (h : Sys w m l) (hw : m 0 = worldT p d X) (hT : X.T.length ≤ 1000000000) :
    Calls Try.prog 62 #[.pointer (some ⟨p, 0, none⟩), .agg x.cells.toArray] w fun e w' => e = .returned (.int .i64 (dg X.T (envB x))) ∧ Sys w' (upd m 0 (worldT p d { X with T := addT X.T (envB x) })) l := by
  obtain ⟨ec, en, ef, ei⟩ := x
  obtain ⟨⟨hn0, hn1⟩, ⟨hf0, hf1⟩, _, _⟩ := hx
  dsimp only at hn0 hn1 hf0 hf1
  obtain ⟨nb, hnb⟩ : ∃ n, n = w.heap.size := ⟨_, rfl⟩
  have H := Lib.hid (h.alloc (.cells #[.int .i64 ec, .int .u64 en, .int .u64 ef, .int .i64 ei] 33 (0, 0)) hnb)
  have HTL := Lib.hid hT
  obtain ⟨wa, hwa⟩ : ∃ wa, wa = w.alloc (.cells #[.int .i64 ec, .int .u64 en, .int .u64 ef, .int .i64 ei] 33 (0, 0)) := ⟨_, rfl⟩
  rw [← hwa] at H
  have HWA := Lib.hid hwa
  have HNB := Lib.hid hnb
  have HLB : Hid ((envB ⟨ec, en, ef, ei⟩).length ≤ 1000000000) := by show _ ≤ _; rw [envB_length]; omega
  have HQ : Hid (((0 ≤ en) ∧ en < 18446744073709551616) ∧ (0 ≤ ef) ∧ ef < 18446744073709551616) := ⟨⟨hn0, hn1⟩, hf0, hf1⟩
  clear h hT hwa hnb hn0 hn1 hf0 hf1
  change Calls Try.prog 62 #[.pointer (some ⟨p, 0, none⟩), .agg #[.int .i64 ec, .int .u64 en, .int .u64 ef, .int .i64 ei]] w _
  go_enter Try.func62, Try.ntmps62
  go_wp2_with fail
  rw [← HWA.out, ← HNB.out]
  refine (wire_new H.out).mono ?_
  rintro e w1 ⟨q, rfl, h1⟩
  have H1 := Lib.hid h1
  have kc := Lib.run_convert_bytes_const (P := Try.prog) w1 53 5 #[.int .u8 101, .int .u8 110, .int .u8 118] 3 3 Try.underlying53 Try.underlying5
  clear h1 H
  go_wp2_with fail
  have H2 := Lib.hid ((H1.out.alloc (.cells #[.int .u8 101, .int .u8 110, .int .u8 118] 5 (3, 4)) rfl).swap)
  refine (wire_text [101, 110, 118] ⟨w1.heap.size, 0, none⟩ 3 (fun w' h' => bytes_const (t := [101, 110, 118]) h'.getBlk) H2.out (by simp) (by simp)).mono ?_
  rintro e w2 ⟨rfl, h3⟩
  have c0 : w2.cell? ⟨nb, 0, none⟩ = some (.int .i64 ec) := cell_of_blk h3.swap.tail.swap.getBlk 0
  have H3 := Lib.hid h3.swap.tail
  clear h3 H2 H1 kc
  go_wp2_with fail
  refine (wire_int ec H3.out (by simp [textB, intB_length])).mono ?_
  rintro e w3 ⟨rfl, h4⟩
  have c1 : w3.cell? ⟨nb, 1, none⟩ = some (.int .u64 en) := cell_of_blk h4.swap.getBlk 1
  have H4 := Lib.hid h4
  clear h4 c0 H3
  go_wp2_with fail
  refine (wire_num en HQ.out.1.1 HQ.out.1.2 H4.out (by simp [textB, intB_length])).mono ?_
  rintro e w4 ⟨rfl, h5⟩
  have c2 : w4.cell? ⟨nb, 2, none⟩ = some (.int .u64 ef) := cell_of_blk h5.swap.getBlk 2
  have H5 := Lib.hid h5
  clear h5 c1 H4
  go_wp2_with fail
  refine (wire_num ef HQ.out.2.1 HQ.out.2.2 H5.out (by simp [textB, intB_length, be8_length])).mono ?_
  rintro e w5 ⟨rfl, h6⟩
  have c3 : w5.cell? ⟨nb, 3, none⟩ = some (.int .i64 ei) := cell_of_blk h6.swap.getBlk 3
  have H6 := Lib.hid h6
  clear h6 c2 H5
  go_wp2_with fail
  refine (wire_int ei H6.out (by simp [textB, intB_length, be8_length])).mono ?_
  rintro e w6 ⟨rfl, h7⟩
  have HR : Hid (Sys w6 m (writer q (envB ⟨ec, en, ef, ei⟩) :: l)) := by
    show Sys _ _ _
    simpa [envB] using h7.swap.tail
  clear h7 c3 H6
  go_wp2_with fail
  have hS1 := HR.out.drew.whdr hw
  refine wp_region_stage (fun x : World => x.heap[p]? = some (.cells #[.pointer (some ⟨d.pt, 0, none⟩), .pointer (some ⟨d.ps, 0, none⟩), .pointer (some ⟨d.pv, 0, none⟩)] 117 (0, 0))) [] (by kernel_rfl) ?_
  refine takeW 0 (some 27) (v := ?_) rfl (by rfl) (by kernel_rfl) (by kernel_rfl) (by kernel_rfl) (fun _ _ _ h => h) (by kernel_rfl) (by kernel_rfl) ?_ (Stage.still (by assumption)) ?_
  rotate_left
  · (intro w; go_simp; try (with_reducible rfl))
  try simp only [Act.put, List.setIfInBounds_toArray, List.set_cons_zero, List.set_cons_succ]
  refine takeW 1 (some 28) (v := ?_) rfl (by rfl) (by kernel_rfl) (by kernel_rfl) (by kernel_rfl) (fun _ _ _ h => h) (by kernel_rfl) (by kernel_rfl) ?_ (Stage.still (by assumption)) ?_
  rotate_left
  · (intro w; go_simp; try (with_reducible rfl))
  try simp only [Act.put, List.setIfInBounds_toArray, List.set_cons_zero, List.set_cons_succ]
  refine takeW 2 (some 29) (v := ?_) rfl (by rfl) (by kernel_rfl) (by kernel_rfl) (by kernel_rfl) (fun _ _ _ h => h) (by kernel_rfl) (by kernel_rfl) ?_ (Stage.still (by assumption)) ?_
  rotate_left
  · (intro w; go_simp; try (with_reducible rfl))
  try simp only [Act.put, List.setIfInBounds_toArray, List.set_cons_zero, List.set_cons_succ]
  refine takeS 3 (some 30) (v := ?_) rfl (by rfl) (by kernel_rfl) (by kernel_rfl) (by kernel_rfl) (fun _ _ _ h => h) (by kernel_rfl) (by kernel_rfl) (by kernel_rfl) ?_ (by assumption) ?_
  rotate_left
  · (intro w hSw; have c : w.cell? ⟨p, 0, none⟩ = some (.pointer (some ⟨d.pt, 0, none⟩)) := cell_of_blk hSw 0; clear hSw; go_simp; try (with_reducible rfl))
  try simp only [Act.put, List.setIfInBounds_toArray, List.set_cons_zero, List.set_cons_succ]
  refine takeW 4 (some 31) (v := ?_) rfl (by rfl) (by kernel_rfl) (by kernel_rfl) (by kernel_rfl) (fun _ _ _ h => h) (by kernel_rfl) (by kernel_rfl) ?_ (Stage.still (by assumption)) ?_
  rotate_left
  · (intro w; go_simp; try (with_reducible rfl))
  try simp only [Act.put, List.setIfInBounds_toArray, List.set_cons_zero, List.set_cons_succ]
  refine oneT 5 (by kernel_rfl) rfl (fun K hK => ?_)
  go_simp
  go_at_call 97
  refine (wire_bytes (HR.out.drew) (by have := HLB.out; omega)).mono ?_
  rintro e y ⟨v, rfl, hy⟩
  obtain ⟨va, vk, vc, rfl, HVK⟩ := hy.getOwn.slice
  have HVK2 := HVK.out
  subst HVK2
  have HY := Lib.hid hy
  have hS1 := hy.whdr hw
  clear hy
  go_wp2_with fail
  refine hK.out _ _ (Stage.still ?_) (fun hSt => ?_)
  · (try dsimp only); exact hS1
  clear hK K hSt
  try simp only [Act.put, List.setIfInBounds_toArray, List.set_cons_zero, List.set_cons_succ]
  refine oneT 6 (by kernel_rfl) rfl (fun K hK => ?_)
  go_simp
  go_at_call 96
  refine (term_digest (envB ⟨ec, en, ef, ei⟩) va vc (fun w' h' => h'.getOwn.bytesAt) ((HY.out.arena hw).swap.swap) (by have := HTL.out; omega)).mono ?_
  rintro e z ⟨rfl, hz⟩
  have HZ := Lib.hid (hz.arenaBack.tail)
  have hS1 := HZ.out.whdr (upd_same _ _ _)
  clear hz
  go_wp2_with fail
  refine hK.out _ _ (Stage.still ?_) (fun hSt => ?_)
  · (try dsimp only); exact hS1
  clear hK K hSt
  try simp only [Act.put, List.setIfInBounds_toArray, List.set_cons_zero, List.set_cons_succ]
  refine takeW 7 (some 4) (v := ?_) rfl (by rfl) (by kernel_rfl) (by kernel_rfl) (by kernel_rfl) (fun _ _ _ h => h) (by kernel_rfl) (by kernel_rfl) ?_ (Stage.still (by assumption)) ?_
  rotate_left
  · (intro w; go_simp; try (with_reducible rfl))
  try simp only [Act.put, List.setIfInBounds_toArray, List.set_cons_zero, List.set_cons_succ]
  refine doneT (by kernel_rfl) ?_ _
  go_wp2_with fail
  go_ret
  exact ⟨rfl, HZ.out⟩
end
end Go.Proofs.Ytcfhkpjheemkgaa
