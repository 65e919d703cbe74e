/-
  SignApart: what one signs nobody else did, and nothing else is signed by it; rows of who signed rise, each once, whatever the order. No condition.
-/
import Derived.Test.YtjllejlgclfahaaSign
import Derived.Test.YtjllejlgclfahaaMapLen
import Derived.ProofKit
import Derived.OpenShut
import Derived.ChangeOld
namespace Go.Proofs.Ytjllejlgclfahaa.signApart
open Go.RowKit

/-- One digest alone is signed. -/
def fA (d : Int) (l : List Int) : Int → List Int := fun x => if x = d then l else []
theorem fA_nil (d x : Int) : fA d [] x = [] := by unfold fA; split <;> rfl
theorem fA_add (d : Int) (l : List Int) (a x : Int) : fA d (addTo l a) x = addAt (fA d l) d a x := by
  unfold addAt fA
  by_cases h : x = d
  · rw [if_pos h, if_pos h, if_pos rfl]
  · rw [if_neg h, if_neg h, if_neg h]
theorem addTo_length (l : List Int) (a : Int) : (addTo l a).length ≤ l.length + 1 := by unfold addTo; split <;> simp

set_option maxRecDepth 100000 in
set_option maxHeartbeats 4000000 in
theorem walk_ne (a0 : Option Addr) (len0 cap0 : Nat) (z0 : List Int) (a1 a2 : Int) (w : World) (w0 : IsRow .i64 w a0 len0 cap0 z0) (he : a2 ≠ a1) :
    Calls Try.prog 10 #[.slice a0 len0 cap0, .int .i64 a1, .int .i64 a2] w fun e w' => e = .returned (.bool true) ∧ Below w.heap.size w w' := by
  have hbeq : (a2 == a1) = false := by simpa using he
  obtain ⟨o, ho⟩ : ∃ o : Int, o = a2 := ⟨_, rfl⟩
  subst ho
  have hne : o ≠ a1 := he
  have hlen := w0.len_le
  have hnb : (o == a1) = false := by simpa using hne
  have hmm := @run_makeMap Try.prog
  have hwf : ∀ k, k < len0 → (Lit.int .i64 (z0.getD k 0)).wf = true := by
    intro k hk
    rcases w0 with ⟨_, h, _⟩ | ⟨_, _, h1, _, h3, _, h5⟩
    · omega
    · have hk2 : k < z0.length := by omega
      have : z0.getD k 0 = z0[k] := by simp [List.getD, hk2]
      rw [this]; exact h5 _ (List.getElem_mem _)
  have HR := Lib.hid w0
  have HWF := Lib.hid hwf
  have HNE := Lib.hid hne
  clear w0 hwf hne
  go_enter Try.func10, Try.ntmps10
  go_wp2_with fail
  refine (sign_new w).mono ?_
  rintro e w1 ⟨p, F1, rfl, h1, hF1, hB1⟩
  go_wp2_with fail
  obtain ⟨N, hN⟩ : ∃ N, N = w1.heap.size := ⟨_, rfl⟩
  rw [← hN]
  have HNN := Lib.hid hN
  clear hN
  go_loopw [9] (fun i wr => ∃ (k : Nat) (F : Nat → Prop) (l : List Int), k ≤ len0 ∧ k ≤ 40 ∧ i = .int .i64 k ∧ Book wr p F (fA a1 l) ∧ MapOf intKey wr N (l.map fun a => (a, .int .i64 1)) ∧ ¬ F N ∧ (∀ a ∈ l, (Lit.int .i64 a).wf = true) ∧ l.length ≤ k ∧ (∀ j, F j → w.heap.size ≤ j) ∧ w.heap.size ≤ N ∧ Below w.heap.size w wr) (fun i _ => 40 - (intOf i).toNat)
  case atStart =>
    have hN := HNN.out
    exact ⟨0, F1, [], by omega, by omega, rfl, (h1.congr (fA_nil a1)).below ((Below.refl _ _).alloc (Nat.le_refl _) _), MapOf.made w1 N hN, fun h => by have := h1.lt _ h; omega, by simp, by simp, hF1, by rw [hN]; exact hB1.size, hB1.trans ((Below.refl _ _).alloc (by have := hB1.size; exact this) _)⟩
  case round =>
    obtain ⟨k, F, l, hk1, hk2, rfl, hbk, hmp, hFN, hwl, hll, hF, hwN, hB⟩ := hrel
    clear h1 hF1 hB1
    by_cases hlt : k < len0 ∧ k < 40
    · obtain ⟨hlt1, hlt2⟩ := hlt
      obtain ⟨xb, xo, rfl, hlc, hxb, hcell⟩ := HR.out.at_ (by omega)
      have hc := (hB.cell (p := ⟨xb, xo + k, none⟩) hxb).trans (hcell k hlt1)
      have hx := HWF.out k hlt1
      have hd1 : decide (k < len0) = true := by simpa using hlt1
      have hd2 : decide ((k : Int) < 40) = true := by simp; omega
      clear hcell
      generalize z0.getD k 0 = x at hc hx
      have HX := Lib.hid hx
      clear hx
      go_wp2_with fail
      refine (sign_sign p F _ x a1 wr hbk HX.out).mono ?_
      rintro e w2 ⟨rfl, F2, h2, hn2, hn2', hc2⟩
      have hB2 : Below w.heap.size w w2 := hB.trans (hc2.below hB.size hF)
      have hF2 : ∀ k, F2 k → w.heap.size ≤ k := fun k hk => by rcases hn2 k hk with h | h; exact hF k h; have := hB.size; omega
      have hNl := hmp.lt
      have hFN2 : ¬ F2 N := fun h => by rcases hn2 N h with h | h; exact hFN h; omega
      have hmp2 := hmp.chg hc2 hFN
      have hc := (hB2.cell (p := ⟨xb, xo + k, none⟩) hxb).trans ((hB.cell (p := ⟨xb, xo + k, none⟩) hxb).symm.trans hc)
      obtain ⟨w3, hu3, hM3, hC3, hs3⟩ := hmp2.update (P := Try.prog) Try.underlying62 Try.underlying3 x (.int .i64 1)
      rw [aset_ones] at hM3
      simp only [intKey] at hu3
      have h3 := h2.chg hC3 (fun k hk e => hFN2 (e ▸ hk))
      have hB3 : Below w.heap.size w w3 := hB2.trans (hC3.below1 hB2.size hwN)
      have hc3 := (hB3.cell (p := ⟨xb, xo + k, none⟩) hxb).trans ((hB2.cell (p := ⟨xb, xo + k, none⟩) hxb).symm.trans hc)
      clear hbk hB hc2 hF hn2 hn2' hmp hmp2 hFN hNl h2 hC3 hs3
      go_wp2_with fail
      refine (sign_has_no p F2 _ x o w3 h3 (by unfold addAt fA; rw [if_neg HNE.out, if_neg HNE.out]; simp)).mono ?_
      rintro e _ ⟨rfl, rfl⟩
      go_wp2_with fail
      refine (sign_has_yes p F2 _ x a1 w3 h3 (by unfold addAt fA; rw [if_pos rfl, if_pos rfl]; exact mem_addTo.2 (.inr rfl))).mono ?_
      rintro e _ ⟨rfl, rfl⟩
      go_wp2_with fail
      go_roundw
      case rel => exact ⟨k + 1, F2, addTo l x, by omega, by omega, by go_num, h3.congr (fA_add a1 l x), hM3, hFN2, fun a ha => by rcases mem_addTo.1 ha with h | rfl; exact hwl a h; exact HX.out, by have := addTo_length l x; omega, hF2, hwN, hB3⟩
      case measure => simp [intOf]; omega
    · have hd : decide (k < len0) = false ∨ (decide (k < len0) = true ∧ decide ((k : Int) < 40) = false) := by
        by_cases h : k < len0
        · right; simp [h]; omega
        · left; simpa using h
      clear hlt
      have hs : (fA a1 l a1).length * 8 ≤ 140737488355328 := by unfold fA; rw [if_pos rfl]; omega
      have hs2 : (fA a1 l o).length * 8 ≤ 140737488355328 := by unfold fA; rw [if_neg HNE.out]; simp
      rcases hd with hd | ⟨hd, hd2⟩
      all_goals
        go_wp2_with fail
        refine (sign_all p F _ a1 wr hbk hs).mono ?_
        intro e w2 h2
        rw [show fA a1 l a1 = l from if_pos rfl] at h2
        have hnd : l.Nodup := by have := hbk.nodup a1; rwa [show fA a1 l a1 = l from if_pos rfl] at this
        obtain ⟨a, cap, rfl, hi, hB2, ha⟩ := h2.open
        have hmp2 : MapOf intKey w2 N (l.map fun a => (a, .int .i64 1)) := hmp.chg (S := none_) (Chg.of_below hB2) id
        have hbk2 := hbk.below hB2
        have hlen2 := hmp2.len (P := Try.prog) (ty := 3) Try.underlying62
        rw [List.length_map] at hlen2
        have hBB : Below w.heap.size w w2 := hB.trans (hB2.mono hB.size)
        clear hbk hmp h2 hB2
        go_wp2_with fail
        refine (sign_all p F _ o w2 hbk2 hs2).mono ?_
        intro e w3 h3
        rw [show fA a1 l o = [] from if_neg HNE.out] at h3
        obtain ⟨a', cap', rfl, hi', hB3, ha'⟩ := h3.open
        have hmp3 : MapOf intKey w3 N (l.map fun a => (a, .int .i64 1)) := hmp2.chg (S := none_) (Chg.of_below hB3) id
        have hi3 := hi.below hB3
        have hB4 : Below w.heap.size w w3 := hBB.trans (hB3.mono hBB.size)
        obtain ⟨m, hm⟩ : ∃ m, m = l.length := ⟨_, rfl⟩
        have hml : m ≤ 40 := by omega
        rw [← hm]
        have HM := Lib.hid hm
        have HI := Lib.hid hi3
        have HND := Lib.hid hnd
        have HMP := Lib.hid hmp3
        have HB4 := Lib.hid hB4
        have HLEN := Lib.hid hs
        clear hbk2 hmp2 hlen2 hi hi' h3 hB3 hm hi3 hnd hmp3 hwl hB hBB hs hs2 ha ha' hFN hF hB4 hll hk2
        go_wp2_with fail
        go_loopw [77] (fun i wr => ∃ (j : Nat), j ≤ m ∧ i = .int .i64 j ∧ Chg none_ w3 wr) (fun i _ => m - (intOf i).toNat)
        case atStart => exact ⟨0, by omega, rfl, Chg.refl _ _⟩
        case round =>
          obtain ⟨j, hj, rfl, hC⟩ := hrel
          by_cases hjm : j < m
          · have hml2 := HM.out
            have hrl : (rising l).length = m := by rw [rising_length]; exact hml2.symm
            have hi := HI.out.chg0 hC
            have q : ∃ b off, a = some ⟨b, off, none⟩ ∧ ∀ i, i < m → wr.cell? ⟨b, off + i, none⟩ = some (.int .i64 ((rising l).getD i 0)) := by
              rcases hi with h | ⟨b, off, e, h⟩
              · rw [h] at hrl; simp at hrl; omega
              · exact ⟨b, off, e, fun i hi => h i (by omega)⟩
            obtain ⟨ab, ao, rfl, hq⟩ := q
            have hcj := hq j hjm
            have hmem : (rising l).getD j 0 ∈ l := by
              rw [← mem_rising]
              have hj2 : j < (rising l).length := by omega
              have : (rising l).getD j 0 = (rising l)[j] := by simp [List.getD, hj2]
              rw [this]; exact List.getElem_mem _
            have hlk : ∀ q, (Instr.lookup 62 (.map (some N)) (.int .i64 ((rising l).getD j 0)) false).run Try.prog (wr.drewN q) = .ok (.int .i64 1) (wr.drewN q) := by
              intro q
              have hmpw : MapOf intKey (wr.drewN q) N (l.map fun a => (a, .int .i64 1)) := (HMP.out.chg hC id).drewN q
              have := hmpw.lookup (P := Try.prog) Try.underlying62 Try.underlying3 (zeroInt _) ((rising l).getD j 0) false
              have e1 : alook (l.map fun a => (a, Value.int .i64 1)) ((rising l).getD j 0) = some (.int .i64 1) := alook_of_mem hmpw.nodup (List.mem_map.2 ⟨_, hmem, rfl⟩)
              rw [e1] at this
              simpa [intKey] using this
            have hCd : ∀ n, Chg none_ w3 (wr.drewN n) := fun n => hC.drewN n
            have HCD := Lib.hid hCd
            by_cases hj0 : j = 0
            · subst hj0
              have hd0 : decide ((0 : Int) < 0) = false := by decide
              simp only [Nat.add_zero] at hcj
              generalize (rising l).getD 0 0 = x at hcj hlk
              clear hq hmem hi hrl hml2 hC
              go_wp2_with fail
              go_quiet (fail)
              go_wp2_with fail
              go_roundw
              case rel => exact ⟨1, by omega, by go_num, HCD.out _⟩
              case measure => simp [intOf]; omega
            · have hcj1 := hq (j - 1) (by omega)
              have hltx : (rising l).getD (j - 1) 0 < (rising l).getD j 0 := by
                have hpw := rising_lt HND.out
                have h1 : j - 1 < (rising l).length := by omega
                have h2 : j < (rising l).length := by omega
                have := List.pairwise_iff_getElem.1 hpw (j - 1) j h1 h2 (by omega)
                simpa [List.getD, h1, h2] using this
              have hd0 : decide ((0 : Int) < (j : Int)) = true := by simp; omega
              have hd00 : 0 < j := by omega
              have hoff : ao + ((j : Int) - 1).toNat = ao + (j - 1) := by omega
              have hoff2 : ((j : Int) - 1).toNat = j - 1 := by omega
              have hp1 : 0 ≤ (j : Int) - 1 := by omega
              have hp2 : (1 : Int) ≤ j := by omega
              have hp3 : (j : Int) - 1 < m := by omega
              have hj1 : 1 ≤ j := by omega
              generalize (rising l).getD j 0 = x at hcj hlk hltx
              generalize (rising l).getD (j - 1) 0 = y at hcj1 hltx
              have hge : decide (x ≤ y) = false := by simp; omega
              clear hq hmem hi hrl hml2 hC
              go_wp2_with fail
              go_quiet (fail)
              go_wp2_with fail
              go_roundw
              case rel => exact ⟨j + 1, by omega, by go_num, HCD.out _⟩
              case measure => simp [intOf]; omega
          · go_wp2_with fail
            refine (sign_awake wr).mono ?_
            rintro e w4 ⟨rfl, hB5⟩
            go_wp2_with fail
            go_ret
            have hB4 := HB4.out
            have hBw := hB4.trans (hC.below hB4.size (fun _ h => h.elim))
            exact ⟨rfl, hBw.trans (hB5.mono hBw.size)⟩

set_option maxRecDepth 100000 in
set_option maxHeartbeats 4000000 in
theorem walk_eq (a0 : Option Addr) (len0 cap0 : Nat) (z0 : List Int) (a1 a2 : Int) (w : World) (w0 : IsRow .i64 w a0 len0 cap0 z0) (he : a1 = a2) :
    Calls Try.prog 10 #[.slice a0 len0 cap0, .int .i64 a1, .int .i64 a2] w fun e w' => e = .returned (.bool true) ∧ Below w.heap.size w w' := by
  have hbeq : (a1 == a1) = true := by simp
  subst he
  obtain ⟨o, ho⟩ : ∃ o : Int, o = wrap64 (a1 + 1) := ⟨_, rfl⟩
  have hne : o ≠ a1 := by
    rw [ho]; unfold wrap64
    omega
  have e0 := ho.symm
  clear ho
  have hlen := w0.len_le
  have hnb : (o == a1) = false := by simpa using hne
  have hmm := @run_makeMap Try.prog
  have hwf : ∀ k, k < len0 → (Lit.int .i64 (z0.getD k 0)).wf = true := by
    intro k hk
    rcases w0 with ⟨_, h, _⟩ | ⟨_, _, h1, _, h3, _, h5⟩
    · omega
    · have hk2 : k < z0.length := by omega
      have : z0.getD k 0 = z0[k] := by simp [List.getD, hk2]
      rw [this]; exact h5 _ (List.getElem_mem _)
  have HR := Lib.hid w0
  have HWF := Lib.hid hwf
  have HNE := Lib.hid hne
  clear w0 hwf hne
  go_enter Try.func10, Try.ntmps10
  go_wp2_with fail
  refine (sign_new w).mono ?_
  rintro e w1 ⟨p, F1, rfl, h1, hF1, hB1⟩
  go_wp2_with fail
  (try rw [e0])
  clear e0
  obtain ⟨N, hN⟩ : ∃ N, N = w1.heap.size := ⟨_, rfl⟩
  rw [← hN]
  have HNN := Lib.hid hN
  clear hN
  go_loopw [9] (fun i wr => ∃ (k : Nat) (F : Nat → Prop) (l : List Int), k ≤ len0 ∧ k ≤ 40 ∧ i = .int .i64 k ∧ Book wr p F (fA a1 l) ∧ MapOf intKey wr N (l.map fun a => (a, .int .i64 1)) ∧ ¬ F N ∧ (∀ a ∈ l, (Lit.int .i64 a).wf = true) ∧ l.length ≤ k ∧ (∀ j, F j → w.heap.size ≤ j) ∧ w.heap.size ≤ N ∧ Below w.heap.size w wr) (fun i _ => 40 - (intOf i).toNat)
  case atStart =>
    have hN := HNN.out
    exact ⟨0, F1, [], by omega, by omega, rfl, (h1.congr (fA_nil a1)).below ((Below.refl _ _).alloc (Nat.le_refl _) _), MapOf.made w1 N hN, fun h => by have := h1.lt _ h; omega, by simp, by simp, hF1, by rw [hN]; exact hB1.size, hB1.trans ((Below.refl _ _).alloc (by have := hB1.size; exact this) _)⟩
  case round =>
    obtain ⟨k, F, l, hk1, hk2, rfl, hbk, hmp, hFN, hwl, hll, hF, hwN, hB⟩ := hrel
    clear h1 hF1 hB1
    by_cases hlt : k < len0 ∧ k < 40
    · obtain ⟨hlt1, hlt2⟩ := hlt
      obtain ⟨xb, xo, rfl, hlc, hxb, hcell⟩ := HR.out.at_ (by omega)
      have hc := (hB.cell (p := ⟨xb, xo + k, none⟩) hxb).trans (hcell k hlt1)
      have hx := HWF.out k hlt1
      have hd1 : decide (k < len0) = true := by simpa using hlt1
      have hd2 : decide ((k : Int) < 40) = true := by simp; omega
      clear hcell
      generalize z0.getD k 0 = x at hc hx
      have HX := Lib.hid hx
      clear hx
      go_wp2_with fail
      refine (sign_sign p F _ x a1 wr hbk HX.out).mono ?_
      rintro e w2 ⟨rfl, F2, h2, hn2, hn2', hc2⟩
      have hB2 : Below w.heap.size w w2 := hB.trans (hc2.below hB.size hF)
      have hF2 : ∀ k, F2 k → w.heap.size ≤ k := fun k hk => by rcases hn2 k hk with h | h; exact hF k h; have := hB.size; omega
      have hNl := hmp.lt
      have hFN2 : ¬ F2 N := fun h => by rcases hn2 N h with h | h; exact hFN h; omega
      have hmp2 := hmp.chg hc2 hFN
      have hc := (hB2.cell (p := ⟨xb, xo + k, none⟩) hxb).trans ((hB.cell (p := ⟨xb, xo + k, none⟩) hxb).symm.trans hc)
      obtain ⟨w3, hu3, hM3, hC3, hs3⟩ := hmp2.update (P := Try.prog) Try.underlying62 Try.underlying3 x (.int .i64 1)
      rw [aset_ones] at hM3
      simp only [intKey] at hu3
      have h3 := h2.chg hC3 (fun k hk e => hFN2 (e ▸ hk))
      have hB3 : Below w.heap.size w w3 := hB2.trans (hC3.below1 hB2.size hwN)
      have hc3 := (hB3.cell (p := ⟨xb, xo + k, none⟩) hxb).trans ((hB2.cell (p := ⟨xb, xo + k, none⟩) hxb).symm.trans hc)
      clear hbk hB hc2 hF hn2 hn2' hmp hmp2 hFN hNl h2 hC3 hs3
      go_wp2_with fail
      refine (sign_has_no p F2 _ x o w3 h3 (by unfold addAt fA; rw [if_neg HNE.out, if_neg HNE.out]; simp)).mono ?_
      rintro e _ ⟨rfl, rfl⟩
      go_wp2_with fail
      refine (sign_has_yes p F2 _ x a1 w3 h3 (by unfold addAt fA; rw [if_pos rfl, if_pos rfl]; exact mem_addTo.2 (.inr rfl))).mono ?_
      rintro e _ ⟨rfl, rfl⟩
      go_wp2_with fail
      go_roundw
      case rel => exact ⟨k + 1, F2, addTo l x, by omega, by omega, by go_num, h3.congr (fA_add a1 l x), hM3, hFN2, fun a ha => by rcases mem_addTo.1 ha with h | rfl; exact hwl a h; exact HX.out, by have := addTo_length l x; omega, hF2, hwN, hB3⟩
      case measure => simp [intOf]; omega
    · have hd : decide (k < len0) = false ∨ (decide (k < len0) = true ∧ decide ((k : Int) < 40) = false) := by
        by_cases h : k < len0
        · right; simp [h]; omega
        · left; simpa using h
      clear hlt
      have hs : (fA a1 l a1).length * 8 ≤ 140737488355328 := by unfold fA; rw [if_pos rfl]; omega
      have hs2 : (fA a1 l o).length * 8 ≤ 140737488355328 := by unfold fA; rw [if_neg HNE.out]; simp
      rcases hd with hd | ⟨hd, hd2⟩
      all_goals
        go_wp2_with fail
        refine (sign_all p F _ a1 wr hbk hs).mono ?_
        intro e w2 h2
        rw [show fA a1 l a1 = l from if_pos rfl] at h2
        have hnd : l.Nodup := by have := hbk.nodup a1; rwa [show fA a1 l a1 = l from if_pos rfl] at this
        obtain ⟨a, cap, rfl, hi, hB2, ha⟩ := h2.open
        have hmp2 : MapOf intKey w2 N (l.map fun a => (a, .int .i64 1)) := hmp.chg (S := none_) (Chg.of_below hB2) id
        have hbk2 := hbk.below hB2
        have hlen2 := hmp2.len (P := Try.prog) (ty := 3) Try.underlying62
        rw [List.length_map] at hlen2
        have hBB : Below w.heap.size w w2 := hB.trans (hB2.mono hB.size)
        clear hbk hmp h2 hB2
        go_wp2_with fail
        refine (sign_all p F _ o w2 hbk2 hs2).mono ?_
        intro e w3 h3
        rw [show fA a1 l o = [] from if_neg HNE.out] at h3
        obtain ⟨a', cap', rfl, hi', hB3, ha'⟩ := h3.open
        have hmp3 : MapOf intKey w3 N (l.map fun a => (a, .int .i64 1)) := hmp2.chg (S := none_) (Chg.of_below hB3) id
        have hi3 := hi.below hB3
        have hB4 : Below w.heap.size w w3 := hBB.trans (hB3.mono hBB.size)
        obtain ⟨m, hm⟩ : ∃ m, m = l.length := ⟨_, rfl⟩
        have hml : m ≤ 40 := by omega
        rw [← hm]
        have HM := Lib.hid hm
        have HI := Lib.hid hi3
        have HND := Lib.hid hnd
        have HMP := Lib.hid hmp3
        have HB4 := Lib.hid hB4
        have HLEN := Lib.hid hs
        clear hbk2 hmp2 hlen2 hi hi' h3 hB3 hm hi3 hnd hmp3 hwl hB hBB hs hs2 ha ha' hFN hF hB4 hll hk2
        go_wp2_with fail
        go_loopw [77] (fun i wr => ∃ (j : Nat), j ≤ m ∧ i = .int .i64 j ∧ Chg none_ w3 wr) (fun i _ => m - (intOf i).toNat)
        case atStart => exact ⟨0, by omega, rfl, Chg.refl _ _⟩
        case round =>
          obtain ⟨j, hj, rfl, hC⟩ := hrel
          by_cases hjm : j < m
          · have hml2 := HM.out
            have hrl : (rising l).length = m := by rw [rising_length]; exact hml2.symm
            have hi := HI.out.chg0 hC
            have q : ∃ b off, a = some ⟨b, off, none⟩ ∧ ∀ i, i < m → wr.cell? ⟨b, off + i, none⟩ = some (.int .i64 ((rising l).getD i 0)) := by
              rcases hi with h | ⟨b, off, e, h⟩
              · rw [h] at hrl; simp at hrl; omega
              · exact ⟨b, off, e, fun i hi => h i (by omega)⟩
            obtain ⟨ab, ao, rfl, hq⟩ := q
            have hcj := hq j hjm
            have hmem : (rising l).getD j 0 ∈ l := by
              rw [← mem_rising]
              have hj2 : j < (rising l).length := by omega
              have : (rising l).getD j 0 = (rising l)[j] := by simp [List.getD, hj2]
              rw [this]; exact List.getElem_mem _
            have hlk : ∀ q, (Instr.lookup 62 (.map (some N)) (.int .i64 ((rising l).getD j 0)) false).run Try.prog (wr.drewN q) = .ok (.int .i64 1) (wr.drewN q) := by
              intro q
              have hmpw : MapOf intKey (wr.drewN q) N (l.map fun a => (a, .int .i64 1)) := (HMP.out.chg hC id).drewN q
              have := hmpw.lookup (P := Try.prog) Try.underlying62 Try.underlying3 (zeroInt _) ((rising l).getD j 0) false
              have e1 : alook (l.map fun a => (a, Value.int .i64 1)) ((rising l).getD j 0) = some (.int .i64 1) := alook_of_mem hmpw.nodup (List.mem_map.2 ⟨_, hmem, rfl⟩)
              rw [e1] at this
              simpa [intKey] using this
            have hCd : ∀ n, Chg none_ w3 (wr.drewN n) := fun n => hC.drewN n
            have HCD := Lib.hid hCd
            by_cases hj0 : j = 0
            · subst hj0
              have hd0 : decide ((0 : Int) < 0) = false := by decide
              simp only [Nat.add_zero] at hcj
              generalize (rising l).getD 0 0 = x at hcj hlk
              clear hq hmem hi hrl hml2 hC
              go_wp2_with fail
              go_quiet (fail)
              go_wp2_with fail
              go_roundw
              case rel => exact ⟨1, by omega, by go_num, HCD.out _⟩
              case measure => simp [intOf]; omega
            · have hcj1 := hq (j - 1) (by omega)
              have hltx : (rising l).getD (j - 1) 0 < (rising l).getD j 0 := by
                have hpw := rising_lt HND.out
                have h1 : j - 1 < (rising l).length := by omega
                have h2 : j < (rising l).length := by omega
                have := List.pairwise_iff_getElem.1 hpw (j - 1) j h1 h2 (by omega)
                simpa [List.getD, h1, h2] using this
              have hd0 : decide ((0 : Int) < (j : Int)) = true := by simp; omega
              have hd00 : 0 < j := by omega
              have hoff : ao + ((j : Int) - 1).toNat = ao + (j - 1) := by omega
              have hoff2 : ((j : Int) - 1).toNat = j - 1 := by omega
              have hp1 : 0 ≤ (j : Int) - 1 := by omega
              have hp2 : (1 : Int) ≤ j := by omega
              have hp3 : (j : Int) - 1 < m := by omega
              have hj1 : 1 ≤ j := by omega
              generalize (rising l).getD j 0 = x at hcj hlk hltx
              generalize (rising l).getD (j - 1) 0 = y at hcj1 hltx
              have hge : decide (x ≤ y) = false := by simp; omega
              clear hq hmem hi hrl hml2 hC
              go_wp2_with fail
              go_quiet (fail)
              go_wp2_with fail
              go_roundw
              case rel => exact ⟨j + 1, by omega, by go_num, HCD.out _⟩
              case measure => simp [intOf]; omega
          · go_wp2_with fail
            refine (sign_awake wr).mono ?_
            rintro e w4 ⟨rfl, hB5⟩
            go_wp2_with fail
            go_ret
            have hB4 := HB4.out
            have hBw := hB4.trans (hC.below hB4.size (fun _ h => h.elim))
            exact ⟨rfl, hBw.trans (hB5.mono hBw.size)⟩

theorem walk (a0 : Option Addr) (len0 cap0 : Nat) (z0 : List Int) (a1 : Int) (_ : (Lit.int .i64 a1).wf = true) (a2 : Int) (_ : (Lit.int .i64 a2).wf = true) (w : World) (w0 : IsRow .i64 w a0 len0 cap0 z0) :
    Calls Try.prog 10 #[.slice a0 len0 cap0, .int .i64 a1, .int .i64 a2] w fun e w' => e = .returned (.bool true) ∧ Below w.heap.size w w' := by
  by_cases he : a1 = a2
  · exact walk_eq a0 len0 cap0 z0 a1 a2 w w0 he
  · exact walk_ne a0 len0 cap0 z0 a1 a2 w w0 (fun e => he e.symm)

/-! ### the row's step -/
open Go.ChangeShapes Go.WideShapes Go.ChangeAt
set_option linter.unusedVariables false
theorem own : ownKnob Try.prog.godebug = none := by kernel_rfl
theorem laidOut : laidOutB Try.prog = true := by kernel_rfl
set_option maxRecDepth 100000 in
theorem lifted (os : Os) (started : os.Started) (H : Type) (enc : TypeId × Value → H) :
    ReturnsInHanded {} Try.checked os 10 .any (Rows.signApartSpec.pre6 enc Try.prog Try.f10 Rows.signApartRow.domain false) (Rows.signApartSpec.post enc Try.prog Try.f10 false true false false) := by
  refine returnsInHanded_of_change (C := Try.checked) own started (by kernel_rfl) Try.func10
    (ChangeSpec.witness6 (enc := enc) (C := Try.checked) false ⟨#[], #[.slice none 0 0, .int .i64 0, .int .i64 0], []⟩ 8 (by kernel_rfl) (by kernel_rfl) (by kernel_rfl) (by kernel_rfl)) ?_
  intro W base args ds gs before hval0 hW hcnd _
  have hval : ∀ (j : Nat) t v, Try.f10.params[j]? = some t → args[j]? = some v → Value.okWide Try.prog W .any base t v := hval0
  have hW' := hW
  obtain ⟨p, q, hA0, hV, rfl, hfz, hnd⟩ := hW
  have hA : DataW.TrodAll enc Try.prog W 0 (fun _ => true) true Try.f10.params.toList args.toList ds p := hA0
  rw [Try.params10] at hA hval
  obtain ⟨v0, vs0, d0, ds0, p0, q0, hargs, rfl, rfl, h0, r0⟩ := trodAll_cons hA
  obtain ⟨v1, vs1, d1, ds1, p1, q1, rfl, rfl, rfl, h1, r1⟩ := trodAll_cons r0
  obtain ⟨v2, vs2, d2, ds2, p2, q2, rfl, rfl, rfl, h2, r2⟩ := trodAll_cons r1
  obtain ⟨rfl, rfl, rfl⟩ := trodAll_nil r2
  obtain rfl : args = #[v0, v1, v2] := by cases args; simp_all
  obtain ⟨rfl, rfl⟩ := trodVars_none hV
  obtain ⟨a0, len0, cap0, rfl⟩ := okWide_slice Try.underlying37 (hval 0 37 v0 rfl rfl)
  have k0 := h0
  have lt0 : ∀ x ∈ p0, x.block < W.heap.size := by obtain ⟨m, hm⟩ := k0; exact DataW.trod_lt m _ _ _ hm
  obtain ⟨z0, w0⟩ : ∃ zs, IsRow .i64 W a0 len0 cap0 zs := by
    obtain ⟨fuel, hf⟩ := h0
    rcases open_ints Try.underlying37 Try.underlying3 (by kernel_rfl) hf with ⟨hcs, _⟩ | ⟨x, l, c, zs, hcs, _, hl, hm, hz, _, hcell, hwz⟩
    · simp [Value.cells] at hcs
      obtain ⟨rfl, rfl, rfl⟩ := hcs
      exact ⟨[], .inl ⟨rfl, rfl, rfl, rfl⟩⟩
    · simp [Value.cells] at hcs
      obtain ⟨rfl, rfl, rfl⟩ := hcs
      exact ⟨zs, .inr ⟨_, rfl, hl, hm, by simpa using hz, hcell, hwz⟩⟩
  obtain ⟨a1, rfl, rfl, rfl, w1⟩ := open_int Try.underlying3 (hval 1 3 v1 rfl rfl) h1
  obtain ⟨a2, rfl, rfl, rfl, w2⟩ := open_int Try.underlying3 (hval 2 3 v2 rfl rfl) h2
  clear hA0 hval0
  refine (walk a0 len0 cap0 z0 a1 w1 a2 w2 W w0).mono fun e W' ⟨he, bel⟩ => ?_
  subst he
  exact ⟨_, rfl, _, _, _, [], _, [], hW', trodAll_mk1 (shut_bool Try.underlying4 _), (trodAll_cons_mk (Below.trod laidOut (by kernel_rfl) (of_decide_eq_true (by kernel_rfl)) k0 bel lt0) (trodAll_cons_mk (shut_int Try.underlying3 w1) (trodAll_cons_mk (shut_int Try.underlying3 w2) trodAll_mk0))), rfl, bel.frame _, fun h => by cases h⟩

theorem over : Rows.signApartRow.holds Try.pinned (OpenSpec.ofChange Rows.signApartSpec) :=
  OpenClaim.holds_of_wide 10 Try.f10 rfl rfl rfl rfl rfl rfl rfl ⟨rfl, rfl, rfl, rfl, rfl⟩ rfl rfl rfl rfl rfl (by kernel_rfl) Try.func10 (by kernel_rfl)
    (of_decide_eq_true (by kernel_rfl)) (by unfold Func.isWrapper; first | (rw [if_pos (by decide +kernel)]; kernel_rfl) | (rw [if_neg (by decide +kernel)]; exact ⟨rfl, rfl⟩))
    (fun os started H enc _ => lifted os started H enc)

theorem proved : Rows.SignApartSaid := over
#print axioms proved
end Go.Proofs.Ytjllejlgclfahaa.signApart
