/-
  NetwOwn: what is sent, and what is told, may be turned by who has it: the net keeps its own. No condition.
-/
import Derived.Test.YtjllejlgclfahaaNetAwake
import Derived.ProofKit
import Derived.OpenShut
import Derived.ChangeOld
namespace Go.Proofs.Ytjllejlgclfahaa.netwOwn
open Go.RowKit Go.MapKept

theorem by_open {T : Nat → Prop} {y : World} {cs : List Value} {m : MsgX} (h : MsgV T y cs m) (h0 : 0 < m.qby.length) : ∃ g o c, cs.toArray[7]? = some (.slice (some ⟨g, o, none⟩) m.qby.length c) ∧ T g ∧ g < y.heap.size ∧
    ∀ j, j < m.qby.length → y.cell? ⟨g, o + j, none⟩ = some (.int .i64 (m.qby.getD j 0)) ∧ y.frozen? ⟨g, o + j, none⟩ = false := by
  obtain ⟨v, h7, a, c, rfl, hs, hT, hn, _⟩ := h.qby
  rcases hs with hs | ⟨g, o, rfl, hs⟩
  · have : m.qby = [] := by simpa using hs
    rw [this] at h0; simp at h0
  · exact ⟨g, o, c, h7, (hT g o rfl).1, (hT g o rfl).2, fun j hj => hs j _ (by simp [List.getD, hj])⟩
/-- A certificate's message. -/
def cert (l : List Int) : MsgX := ⟨⟨5, 0, 0, 0, 0, 1, 0, 0, 0, 0, 0, 0, 0, 0⟩, l, [], [], [], []⟩

set_option maxRecDepth 100000 in
set_option maxHeartbeats 8000000 in
theorem walk (W : World) (a0 : Option Addr) (len0 cap0 : Nat) (z0 : List Int) (w0 : IsRow .i64 W a0 len0 cap0 z0) (a1 : Int) (w1 : (Lit.int .i64 a1).wf = true) :
    Calls Try.prog 8 #[.slice a0 len0 cap0, .int .i64 a1] W fun e w' => e = .returned (.bool true) ∧ Below W.heap.size W w' := by
  have hlen := w0.len_le
  have hm8 := i64_and255
  obtain ⟨ii, hi9, hz9, hs9, hby9⟩ := info_parts' (P := Try.prog) (e := 51) (z := some (.agg zeroMsg.toArray)) (s := 19) (b := 232) (by kernel_rfl)
  have HI9 := Lib.hid hi9
  have HS9 := Lib.hid hs9
  have HZ9 := Lib.hid hz9
  clear hi9 hs9 hz9 hby9
  obtain ⟨hia, hil⟩ := IntsAt.of_row w0
  obtain ⟨l, hl⟩ : ∃ l, l = z0.take len0 := ⟨_, rfl⟩
  rw [← hl] at hia hil
  clear hl w0
  subst hil
  go_enter Try.func8, Try.ntmps8
  go_wp2_with fail
  refine (net_new W).mono ?_
  rintro e x1 ⟨p, rfl, h1, hB1⟩
  by_cases hin : 1 ≤ l.length ∧ l.length ≤ 50
  · have hd1 : ((l.length : Int) == 0) = false := by simp; intro h; rw [h] at hin; simp at hin
    have hd2 : decide ((50 : Int) < (l.length : Int)) = false := by simp; omega
    rcases hia with h | ⟨xb, xo, rfl, hcell⟩
    · rw [h] at hin; simp at hin
    obtain ⟨k, hk, hkl⟩ : ∃ k : Nat, a1 % 256 % (l.length : Int) = (k : Int) ∧ k < l.length := by
      have h0 : 0 ≤ a1 % 256 % (l.length : Int) := Int.emod_nonneg _ (by omega)
      have h2 : a1 % 256 % (l.length : Int) < (l.length : Int) := Int.emod_lt_of_pos _ (by omega)
      exact ⟨(a1 % 256 % (l.length : Int)).toNat, by omega, by omega⟩
    obtain ⟨was, hwas⟩ : ∃ was, was = l.getD k 0 := ⟨_, rfl⟩
    have c0 : x1.cell? ⟨xb, xo + k, none⟩ = some (.int .i64 was) := by rw [hwas]; exact (Chg.of_below (S := none_) hB1).cell (hcell k hkl) (fun h => h)
    have hkl1 : (k : Int) < (l.length : Int) := by omega
    have hsrc : l.map (Value.int .i64) = [] ∨ ∃ b off, some (⟨xb, xo, none⟩ : Addr) = some ⟨b, off, none⟩ ∧ ∀ (j : Nat) (u : Value), (l.map (Value.int .i64))[j]? = some u → x1.cell? ⟨b, off + j, none⟩ = some u := .inr ⟨xb, xo, rfl, fun j u hu => by
      have hj : j < l.length := by have := (List.getElem?_eq_some_iff.1 hu).1; simpa using this
      rw [(Chg.of_below (S := none_) hB1).cell (hcell j hj) (fun h => h)]
      simp [hj] at hu
      rw [← hu]; simp [List.getD, hj]⟩
    obtain ⟨v8, x2, hap, v8', e', hown, hnew, hB2⟩ := clone_run (E := 3) (size := 1) (bytes := 8) (z := .int .i64 0) (n := l.length) (c := cap0) Try.underlying37 (by kernel_rfl) rfl (by decide) (by omega) hsrc (by simp) (by intro u hu; obtain ⟨x, _, rfl⟩ := List.mem_map.1 hu; rfl) (by omega) (by intro h; simpa using h)
    cases e'
    have hsi : SliceIn (fun j => x1.heap.size ≤ j) x2 v8 l.length (l.map (Value.int .i64)) := hown.sliceIn (by omega) hnew
    obtain ⟨_, cp, rfl, _, _, _, ha8⟩ := hown.open
    rcases ha8 with ⟨_, h, _⟩ | ⟨g, csg, rfl, hg, hcsz, htk⟩
    · omega
    have hgx : x1.heap.size ≤ g := hnew g rfl
    obtain ⟨F1, hF1⟩ : ∃ F1 : Nat → Prop, F1 = fun k => W.heap.size ≤ k ∧ k < x1.heap.size := ⟨_, rfl⟩
    rw [← hF1] at h1
    have hge1 : ∀ k, F1 k → W.heap.size ≤ k := fun k hk => by rw [hF1] at hk; exact hk.1
    have hlt1 := h1.lt
    clear hF1
    have h2 := h1.chg0 (Chg.of_below hB2)
    obtain ⟨ms, hms⟩ : ∃ ms, ms = msgCells ⟨5, 0, 0, 0, 0, 1, 0, 0, 0, 0, 0, 0, 0, 0⟩ (.slice (some ⟨g, 0, none⟩) l.length cp) (.slice none 0 0) (.slice none 0 0) (.slice none 0 0) (.slice none 0 0) := ⟨_, rfl⟩
    obtain ⟨n3, hn3⟩ : ∃ n3, n3 = x2.heap.size := ⟨_, rfl⟩
    obtain ⟨x3, hx3⟩ : ∃ x3, x3 = x2.alloc (.cells ms.toArray 51 (0, 0)) := ⟨_, rfl⟩
    have hb3 : x3.heap[n3]? = some (.cells ms.toArray 51 (0, 0)) := by rw [hx3]; exact alloc_new x2 _ _ hn3
    have hc3 : Chg none_ x2 x3 := by rw [hx3]; exact (Chg.refl none_ x2).alloc _
    have hmv : MsgV (fun j => j = n3 ∨ j = g) x3 ms (cert l) := by
      refine ⟨_, _, _, _, _, hms, ?_, SliceIn.nil _ _, SliceIn.nil _ _, SliceIn.nil _ _, [], rfl, SliceIn.nil _ _, fun e he => by cases he⟩
      obtain ⟨a9, c9, e9, s1, s2, s3⟩ := hsi.chg0 hc3
      cases e9
      exact ⟨_, _, rfl, s1, fun b off e => by cases e; exact ⟨.inr rfl, (s2 g 0 rfl).2⟩, s3⟩
    have hA : MsgsIn (fun j => j = n3 ∨ j = g) x3 (.slice (some ⟨n3, 0, none⟩) 1 1) [(cert l, ms)] := by
      refine ⟨⟨_, _, rfl, .inr ⟨n3, 0, rfl, fun j u hu => ?_⟩, fun b off e => ?_, (by intro h; cases h), by simp⟩, fun e he => ?_⟩
      · refine ⟨?_, frozen_of_blk hb3 _⟩
        rw [Nat.zero_add, cell_of_blk hb3]
        simpa [flatM] using hu
      · cases e; exact ⟨.inl rfl, blk_lt hb3⟩
      · simp at he
        subst he
        exact hmv
    have hg2 := blk_lt hg
    have hsf : ∀ k, (fun j => j = n3 ∨ j = g) k → ¬ F1 k := fun k e hk => by
      have := hlt1 k hk
      have h9 := hB2.size
      rcases e with e | e
      · omega
      · omega
    have HS := Lib.hid (net_send p F1 (fun j => j = n3 ∨ j = g) [] _ _ x3 (h2.chg0 hc3) hA hsf (by simp))
    have HX3 := Lib.hid hx3
    have HN3 := Lib.hid hn3
    have HMS := Lib.hid hms
    have hlm : ms.length = 19 := hmv.length
    have hB3 : Below W.heap.size W x3 := hB1.trans ((hB2.mono hB1.size).trans (hc3.below (by have := hB1.size; have := hB2.size; omega) (fun _ e => e.elim)))
    have hg3 := hc3.blk hg (fun h => h)
    have HG3 := Lib.hid hg3
    have HTK := Lib.hid htk
    have HCSZ := Lib.hid hcsz
    have HWAS := Lib.hid hwas
    have hgF : ¬ F1 g := hsf g (.inr rfl)
    have hgl3 : g < x3.heap.size := blk_lt hg3
    clear hA hsf hx3 hn3 hb3 hc3 h1 h2 hmv hsi hown hnew hsrc hg htk hcsz hms hg3 hcell hwas
    go_wp2_with (first
      | (at_builtin; refine wpl_append rfl _ _ _ rfl rfl rfl hap ?_)
      | (refine wpList_plain rfl fun K hK => wp_buildSlice_one 41 51 19 (.tmp 48) rfl ms (by rw [HMS.out]; rfl) ii (.agg zeroMsg.toArray) Try.underlying41 HI9.out HS9.out HZ9.out (by decide) (by decide) hlm (hK _ _ ?_)))
    rw [← HX3.out, ← HN3.out]
    refine HS.out.mono ?_
    rintro e x4 ⟨rfl, F4, h4, hg4, hc4⟩
    have hB4 : Below W.heap.size W x4 := hB3.trans (hc4.below hB3.size hge1)
    have hge4 : ∀ k, F4 k → W.heap.size ≤ k := fun k hk => by rcases hg4 k hk with h | h; exact hge1 k h; have := hB3.size; omega
    have h4' : NetV x4 p F4 [cert l] := h4
    have hb4 := hc4.blk HG3.out hgF
    have hgF4 : ¬ F4 g := fun hk => by rcases hg4 g hk with h | h; exact hgF h; omega
    have c4 : x4.cell? ⟨g, k, none⟩ = some (.int .i64 was) := by
      refine own_cell hb4 HTK.out (by omega) ?_
      rw [HWAS.out]; simp [List.getD, hkl]
    have f4 := frozen_of_blk hb4 k
    have hgW : W.heap.size ≤ g := by have := hB1.size; omega
    clear h4 hg4 hc4 HS hb4 HG3 HTK HCSZ hap
    go_wp2_with fail
    have hy5 : Chg (· = g) x4 (x4.setCell ⟨g, k, none⟩ (.int .i64 (wrap64 (was + 1)))) := (Chg.refl (· = g) x4).put k _
    generalize x4.setCell ⟨g, k, none⟩ (.int .i64 (wrap64 (was + 1))) = x5 at *
    have h5 : NetV x5 p F4 [cert l] := h4'.chg hy5 (fun j hj e => hgF4 ((show j = g from e) ▸ hj))
    have hB5 : Below W.heap.size W x5 := hB4.trans (hy5.below hB4.size (fun j e => by have e' : j = g := e; omega))
    clear h4' hy5 c4 f4 hgF4
    refine (net_at_yes p F4 _ 0 (cert l) x5 h5 rfl).mono ?_
    rintro e x6 ⟨cs6, rfl, hm6, hb6⟩
    have h6 := h5.chg0 (Chg.of_below hb6)
    have hB6 : Below W.heap.size W x6 := hB5.trans (hb6.mono hB5.size)
    have hnF6 : ∀ j, x5.heap.size ≤ j → ¬ F4 j := fun j hj hF => by have := h5.lt j hF; omega
    clear h5
    obtain ⟨na, hna⟩ : ∃ n, n = x6.heap.size := ⟨_, rfl⟩
    obtain ⟨ua, hua⟩ : ∃ u, u = x6.alloc (.cells #[.int .i64 0, .int .i64 0, .int .i64 0, .int .i64 0, .int .i64 0, .int .i64 0, .int .i64 0, .slice none 0 0, .int .i64 0, .slice none 0 0, .slice none 0 0, .int .i64 0, .int .i64 0, .slice none 0 0, .int .i64 0, .int .u64 0, .int .u64 0, .int .i64 0, .slice none 0 0] 51 (0, 0)) := ⟨_, rfl⟩
    have hba : ua.heap[na]? = some (.cells #[.int .i64 0, .int .i64 0, .int .i64 0, .int .i64 0, .int .i64 0, .int .i64 0, .int .i64 0, .slice none 0 0, .int .i64 0, .slice none 0 0, .slice none 0 0, .int .i64 0, .int .i64 0, .slice none 0 0, .int .i64 0, .int .u64 0, .int .u64 0, .int .i64 0, .slice none 0 0] 51 (0, 0)) := by rw [hua]; exact alloc_new x6 _ _ hna
    obtain ⟨va, hva⟩ : ∃ v, v = ua.setRow na cs6.toArray := ⟨_, rfl⟩
    have hwa : va.heap[na]? = some (.cells cs6.toArray 51 (0, 0)) := by rw [hva]; exact setRow_heap _ na _ cs6.toArray _ _ hba
    have honea : cs6.toArray.all (·.oneCell') = true := by rw [List.all_toArray]; exact List.all_eq_true.2 hm6.one
    have hcla : (Try.prog.info? 51).map (·.size) = some cs6.toArray.size := size19.trans (congrArg some (by rw [List.size_toArray, hm6.length]))
    have hcza : (#[.int .i64 0, .int .i64 0, .int .i64 0, .int .i64 0, .int .i64 0, .int .i64 0, .int .i64 0, .slice none 0 0, .int .i64 0, .slice none 0 0, .slice none 0 0, .int .i64 0, .int .i64 0, .slice none 0 0, .int .i64 0, .int .u64 0, .int .u64 0, .int .i64 0, .slice none 0 0] : Array Value).size = cs6.toArray.size := by show 19 = cs6.toArray.size; rw [List.size_toArray, hm6.length]
    have HCa : Hid (Chg none_ x6 va) := by
      have e : Chg none_ x6 ua := by rw [hua]; exact (Chg.refl none_ x6).alloc _
      exact e.step (by rw [hva]; exact (Chg.refl (· = na) ua).row cs6.toArray) (fun j e => .inr (by have e' : j = na := e; omega))
    have HWa := Lib.hid hwa
    have HUa := Lib.hid hua
    have HNa := Lib.hid hna
    have HVa := Lib.hid hva
    clear hwa hua hna hva
    obtain ⟨ga, oa, cca, q7a, gTa, gla, gca⟩ := by_open (hm6.chg0 HCa.out) (show 0 < l.length by omega)
    have d7a : va.cell? ⟨na, 7, none⟩ = some (.slice (some ⟨ga, oa, none⟩) l.length cca) := (cell_of_blk HWa.out 7).trans q7a
    have dka : va.cell? ⟨ga, oa + k, none⟩ = some (.int .i64 was) := by rw [HWAS.out]; exact (gca k hkl).1
    have fka := (gca k hkl).2
    have hav := h6.chg0 HCa.out
    have hBav : Below W.heap.size W va := hB6.trans (HCa.out.below hB6.size (fun _ e => e.elim))
    have hgfa : ¬ F4 ga := hnF6 ga gTa
    have hgWa : W.heap.size ≤ ga := by have := hB5.size; have g9 : x5.heap.size ≤ ga := gTa; omega
    clear q7a gca hm6
    go_wp2_with (rw [← HUa.out, ← HNa.out]; refine wpList_store_row rfl 51 _ _ rfl na cs6.toArray rfl rfl _ _ hba hcla hcza honea ?_; rw [← HVa.out])
    have hya : Chg (· = ga) va (va.setCell ⟨ga, oa + k, none⟩ (.int .i64 (wrap64 (was + 1)))) := (Chg.refl (· = ga) va).put (oa + k) _
    generalize va.setCell ⟨ga, oa + k, none⟩ (.int .i64 (wrap64 (was + 1))) = xa at *
    have ha := hav.chg hya (fun j hj e => hgfa ((show j = ga from e) ▸ hj))
    have hBa : Below W.heap.size W xa := hBav.trans (hya.below hBav.size (fun j e => by have e' : j = ga := e; omega))
    clear hav hya d7a dka fka
    refine (net_copy_yes p F4 _ 0 (cert l) xa ha rfl (by simp)).mono ?_
    rintro e x7 ⟨rfl, F7, h7, hg7, hc7⟩
    have hB7 : Below W.heap.size W x7 := hBa.trans (hc7.below hBa.size hge4)
    have hge7 : ∀ k, F7 k → W.heap.size ≤ k := fun k hk => by rcases hg7 k hk with h | h; exact hge4 k h; have := hBa.size; omega
    have h7' : NetV x7 p F7 [cert l, cert l] := h7
    clear h7 hg7 hc7 ha
    go_wp2_with fail
    refine (net_take_yes p F7 _ 1 (cert l) x7 h7' rfl (by simp)).mono ?_
    rintro e x8 ⟨cs8, rfl, hm8', h8, hc8⟩
    have hB8 : Below W.heap.size W x8 := hB7.trans (hc8.below hB7.size hge7)
    have h8' : NetV x8 p F7 [cert l] := h8
    have hnF8 : ∀ j, x7.heap.size ≤ j → ¬ F7 j := fun j hj hF => by have := h7'.lt j hF; omega
    clear h8 hc8
    obtain ⟨nb, hnb⟩ : ∃ n, n = x8.heap.size := ⟨_, rfl⟩
    obtain ⟨ub, hub⟩ : ∃ u, u = x8.alloc (.cells #[.int .i64 0, .int .i64 0, .int .i64 0, .int .i64 0, .int .i64 0, .int .i64 0, .int .i64 0, .slice none 0 0, .int .i64 0, .slice none 0 0, .slice none 0 0, .int .i64 0, .int .i64 0, .slice none 0 0, .int .i64 0, .int .u64 0, .int .u64 0, .int .i64 0, .slice none 0 0] 51 (0, 0)) := ⟨_, rfl⟩
    have hbb : ub.heap[nb]? = some (.cells #[.int .i64 0, .int .i64 0, .int .i64 0, .int .i64 0, .int .i64 0, .int .i64 0, .int .i64 0, .slice none 0 0, .int .i64 0, .slice none 0 0, .slice none 0 0, .int .i64 0, .int .i64 0, .slice none 0 0, .int .i64 0, .int .u64 0, .int .u64 0, .int .i64 0, .slice none 0 0] 51 (0, 0)) := by rw [hub]; exact alloc_new x8 _ _ hnb
    obtain ⟨vb, hvb⟩ : ∃ v, v = ub.setRow nb cs8.toArray := ⟨_, rfl⟩
    have hwb : vb.heap[nb]? = some (.cells cs8.toArray 51 (0, 0)) := by rw [hvb]; exact setRow_heap _ nb _ cs8.toArray _ _ hbb
    have honeb : cs8.toArray.all (·.oneCell') = true := by rw [List.all_toArray]; exact List.all_eq_true.2 hm8'.one
    have hclb : (Try.prog.info? 51).map (·.size) = some cs8.toArray.size := size19.trans (congrArg some (by rw [List.size_toArray, hm8'.length]))
    have hczb : (#[.int .i64 0, .int .i64 0, .int .i64 0, .int .i64 0, .int .i64 0, .int .i64 0, .int .i64 0, .slice none 0 0, .int .i64 0, .slice none 0 0, .slice none 0 0, .int .i64 0, .int .i64 0, .slice none 0 0, .int .i64 0, .int .u64 0, .int .u64 0, .int .i64 0, .slice none 0 0] : Array Value).size = cs8.toArray.size := by show 19 = cs8.toArray.size; rw [List.size_toArray, hm8'.length]
    have HCb : Hid (Chg none_ x8 vb) := by
      have e : Chg none_ x8 ub := by rw [hub]; exact (Chg.refl none_ x8).alloc _
      exact e.step (by rw [hvb]; exact (Chg.refl (· = nb) ub).row cs8.toArray) (fun j e => .inr (by have e' : j = nb := e; omega))
    have HWb := Lib.hid hwb
    have HUb := Lib.hid hub
    have HNb := Lib.hid hnb
    have HVb := Lib.hid hvb
    clear hwb hub hnb hvb
    obtain ⟨gb, ob, ccb, q7b, gTb, glb, gcb⟩ := by_open (hm8'.chg0 HCb.out) (show 0 < l.length by omega)
    have d7b : vb.cell? ⟨nb, 7, none⟩ = some (.slice (some ⟨gb, ob, none⟩) l.length ccb) := (cell_of_blk HWb.out 7).trans q7b
    have dkb : vb.cell? ⟨gb, ob + k, none⟩ = some (.int .i64 was) := by rw [HWAS.out]; exact (gcb k hkl).1
    have fkb := (gcb k hkl).2
    have hbv := h8'.chg0 HCb.out
    have hBbv : Below W.heap.size W vb := hB8.trans (HCb.out.below hB8.size (fun _ e => e.elim))
    have hgfb : ¬ F7 gb := hnF8 gb gTb
    have hgWb : W.heap.size ≤ gb := by have := hB7.size; have g9 : x7.heap.size ≤ gb := gTb; omega
    clear q7b gcb hm8'
    go_wp2_with (rw [← HUb.out, ← HNb.out]; refine wpList_store_row rfl 51 _ _ rfl nb cs8.toArray rfl rfl _ _ hbb hclb hczb honeb ?_; rw [← HVb.out])
    have hyb : Chg (· = gb) vb (vb.setCell ⟨gb, ob + k, none⟩ (.int .i64 (wrap64 (was + 1)))) := (Chg.refl (· = gb) vb).put (ob + k) _
    generalize vb.setCell ⟨gb, ob + k, none⟩ (.int .i64 (wrap64 (was + 1))) = xb' at *
    have hb9 := hbv.chg hyb (fun j hj e => hgfb ((show j = gb from e) ▸ hj))
    have hBb : Below W.heap.size W xb' := hBbv.trans (hyb.below hBbv.size (fun j e => by have e' : j = gb := e; omega))
    clear hbv hyb d7b dkb fkb
    refine (net_take_yes p F7 _ 0 (cert l) xb' hb9 rfl (by simp)).mono ?_
    rintro e x9 ⟨cs9, rfl, hm9, h9, hc9⟩
    have hB9 : Below W.heap.size W x9 := hBb.trans (hc9.below hBb.size hge7)
    have h9' : NetV x9 p F7 [] := h9
    clear h9 hc9 hb9
    obtain ⟨nc, hnc⟩ : ∃ n, n = x9.heap.size := ⟨_, rfl⟩
    obtain ⟨uc, huc⟩ : ∃ u, u = x9.alloc (.cells #[.int .i64 0, .int .i64 0, .int .i64 0, .int .i64 0, .int .i64 0, .int .i64 0, .int .i64 0, .slice none 0 0, .int .i64 0, .slice none 0 0, .slice none 0 0, .int .i64 0, .int .i64 0, .slice none 0 0, .int .i64 0, .int .u64 0, .int .u64 0, .int .i64 0, .slice none 0 0] 51 (0, 0)) := ⟨_, rfl⟩
    have hbc : uc.heap[nc]? = some (.cells #[.int .i64 0, .int .i64 0, .int .i64 0, .int .i64 0, .int .i64 0, .int .i64 0, .int .i64 0, .slice none 0 0, .int .i64 0, .slice none 0 0, .slice none 0 0, .int .i64 0, .int .i64 0, .slice none 0 0, .int .i64 0, .int .u64 0, .int .u64 0, .int .i64 0, .slice none 0 0] 51 (0, 0)) := by rw [huc]; exact alloc_new x9 _ _ hnc
    obtain ⟨vc, hvc⟩ : ∃ v, v = uc.setRow nc cs9.toArray := ⟨_, rfl⟩
    have hwc : vc.heap[nc]? = some (.cells cs9.toArray 51 (0, 0)) := by rw [hvc]; exact setRow_heap _ nc _ cs9.toArray _ _ hbc
    have honec : cs9.toArray.all (·.oneCell') = true := by rw [List.all_toArray]; exact List.all_eq_true.2 hm9.one
    have hclc : (Try.prog.info? 51).map (·.size) = some cs9.toArray.size := size19.trans (congrArg some (by rw [List.size_toArray, hm9.length]))
    have hczc : (#[.int .i64 0, .int .i64 0, .int .i64 0, .int .i64 0, .int .i64 0, .int .i64 0, .int .i64 0, .slice none 0 0, .int .i64 0, .slice none 0 0, .slice none 0 0, .int .i64 0, .int .i64 0, .slice none 0 0, .int .i64 0, .int .u64 0, .int .u64 0, .int .i64 0, .slice none 0 0] : Array Value).size = cs9.toArray.size := by show 19 = cs9.toArray.size; rw [List.size_toArray, hm9.length]
    have HCc : Hid (Chg none_ x9 vc) := by
      have e : Chg none_ x9 uc := by rw [huc]; exact (Chg.refl none_ x9).alloc _
      exact e.step (by rw [hvc]; exact (Chg.refl (· = nc) uc).row cs9.toArray) (fun j e => .inr (by have e' : j = nc := e; omega))
    have HWc := Lib.hid hwc
    have HUc := Lib.hid huc
    have HNc := Lib.hid hnc
    have HVc := Lib.hid hvc
    clear hwc huc hnc hvc
    obtain ⟨gc, oc, ccc, q7c, gTc, glc, gcc⟩ := by_open (hm9.chg0 HCc.out) (show 0 < l.length by omega)
    have d7c : vc.cell? ⟨nc, 7, none⟩ = some (.slice (some ⟨gc, oc, none⟩) l.length ccc) := (cell_of_blk HWc.out 7).trans q7c
    have dkc : vc.cell? ⟨gc, oc + k, none⟩ = some (.int .i64 was) := by rw [HWAS.out]; exact (gcc k hkl).1
    have fkc := (gcc k hkl).2
    have h9v := h9'.chg0 HCc.out
    have hBc : Below W.heap.size W vc := hB9.trans (HCc.out.below hB9.size (fun _ e => e.elim))
    clear q7c gcc hm9
    go_wp2_with (rw [← HUc.out, ← HNc.out]; refine wpList_store_row rfl 51 _ _ rfl nc cs9.toArray rfl rfl _ _ hbc hclc hczc honec ?_; rw [← HVc.out])
    refine (net_len p F7 _ vc h9v).mono ?_
    rintro e _ ⟨rfl, rfl⟩
    go_wp2_with fail
    refine (net_awake vc).mono ?_
    rintro e xd ⟨rfl, hBd⟩
    go_wp2_with fail
    go_ret
    exact ⟨rfl, hBc.trans (hBd.mono hBc.size)⟩
  · clear hia
    by_cases h0 : l.length = 0
    · have hd1 : ((l.length : Int) == 0) = true := by simp [h0]
      go_wp2_with fail
      refine (net_awake _).mono ?_
      rintro e x2 ⟨rfl, hB2⟩
      go_wp2_with fail
      go_ret
      exact ⟨rfl, hB1.trans (hB2.mono hB1.size)⟩
    · have hd1 : ((l.length : Int) == 0) = false := by simp; intro h; rw [h] at h0; simp at h0
      have hd2 : decide ((50 : Int) < (l.length : Int)) = true := by simp; omega
      go_wp2_with fail
      refine (net_awake _).mono ?_
      rintro e x2 ⟨rfl, hB2⟩
      go_wp2_with fail
      go_ret
      exact ⟨rfl, hB1.trans (hB2.mono hB1.size)⟩


/-! ### the row's step -/
open Go.ChangeShapes Go.WideShapes Go.ChangeAt
set_option linter.unusedVariables false
theorem own : ownKnob Try.prog.godebug = none := by kernel_rfl
theorem laidOut : laidOutB Try.prog = true := by kernel_rfl
set_option maxRecDepth 100000 in
theorem lifted (os : Os) (started : os.Started) (H : Type) (enc : TypeId × Value → H) :
    ReturnsInHanded {} Try.checked os 8 .any (Rows.netwOwnSpec.pre6 enc Try.prog Try.f8 Rows.netwOwnRow.domain false) (Rows.netwOwnSpec.post enc Try.prog Try.f8 false true false false) := by
  refine returnsInHanded_of_change (C := Try.checked) own started (by kernel_rfl) Try.func8
    (ChangeSpec.witness6 (enc := enc) (C := Try.checked) false ⟨#[], #[.slice none 0 0, .int .i64 0], []⟩ 8 (by kernel_rfl) (by kernel_rfl) (by kernel_rfl) (by kernel_rfl)) ?_
  intro W base args ds gs before hval0 hW hcnd _
  have hval : ∀ (j : Nat) t v, Try.f8.params[j]? = some t → args[j]? = some v → Value.okWide Try.prog W .any base t v := hval0
  have hW' := hW
  obtain ⟨p, q, hA0, hV, rfl, hfz, hnd⟩ := hW
  have hA : DataW.TrodAll enc Try.prog W 0 (fun _ => true) true Try.f8.params.toList args.toList ds p := hA0
  rw [Try.params8] at hA hval
  obtain ⟨v0, vs0, d0, ds0, p0, q0, hargs, rfl, rfl, h0, r0⟩ := trodAll_cons hA
  obtain ⟨v1, vs1, d1, ds1, p1, q1, rfl, rfl, rfl, h1, r1⟩ := trodAll_cons r0
  obtain ⟨rfl, rfl, rfl⟩ := trodAll_nil r1
  obtain rfl : args = #[v0, v1] := by cases args; simp_all
  obtain ⟨rfl, rfl⟩ := trodVars_none hV
  obtain ⟨a0, len0, cap0, rfl⟩ := okWide_slice Try.underlying37 (hval 0 37 v0 rfl rfl)
  have k0 := h0
  have lt0 : ∀ x ∈ p0, x.block < W.heap.size := by obtain ⟨m, hm⟩ := k0; exact DataW.trod_lt m _ _ _ hm
  obtain ⟨z0, w0⟩ : ∃ zs, IsRow .i64 W a0 len0 cap0 zs := by
    obtain ⟨fuel, hf⟩ := h0
    rcases open_ints Try.underlying37 Try.underlying3 (by kernel_rfl) hf with ⟨hcs, _⟩ | ⟨x, l, c, zs, hcs, _, hl, hm, hz, _, hcell, hwz⟩
    · simp [Value.cells] at hcs
      obtain ⟨rfl, rfl, rfl⟩ := hcs
      exact ⟨[], .inl ⟨rfl, rfl, rfl, rfl⟩⟩
    · simp [Value.cells] at hcs
      obtain ⟨rfl, rfl, rfl⟩ := hcs
      exact ⟨zs, .inr ⟨_, rfl, hl, hm, by simpa using hz, hcell, hwz⟩⟩
  obtain ⟨a1, rfl, rfl, rfl, w1⟩ := open_int Try.underlying3 (hval 1 3 v1 rfl rfl) h1
  clear hA0 hval0
  refine (walk W a0 len0 cap0 z0 w0 a1 w1).mono fun e W' ⟨he, bel⟩ => ?_
  subst he
  exact ⟨_, rfl, _, _, _, [], _, [], hW', trodAll_mk1 (shut_bool Try.underlying4 _), (trodAll_cons_mk (Below.trod laidOut (by kernel_rfl) (of_decide_eq_true (by kernel_rfl)) k0 bel lt0) (trodAll_cons_mk (shut_int Try.underlying3 w1) trodAll_mk0)), rfl, bel.frame _, fun h => by cases h⟩

theorem over : Rows.netwOwnRow.holds Try.pinned (OpenSpec.ofChange Rows.netwOwnSpec) :=
  OpenClaim.holds_of_wide 8 Try.f8 rfl rfl rfl rfl rfl rfl rfl ⟨rfl, rfl, rfl, rfl, rfl⟩ rfl rfl rfl rfl rfl (by kernel_rfl) Try.func8 (by kernel_rfl)
    (of_decide_eq_true (by kernel_rfl)) (by unfold Func.isWrapper; first | (rw [if_pos (by decide +kernel)]; kernel_rfl) | (rw [if_neg (by decide +kernel)]; exact ⟨rfl, rfl⟩))
    (fun os started H enc _ => lifted os started H enc)

theorem proved : Rows.NetwOwnSaid := over
#print axioms proved

end Go.Proofs.Ytjllejlgclfahaa.netwOwn
