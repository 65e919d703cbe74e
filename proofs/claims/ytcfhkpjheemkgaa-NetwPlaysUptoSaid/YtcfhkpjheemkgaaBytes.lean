/-
  A slice of bytes read as a list; slices.Clone of bytes; the reference's Same.
-/
import Derived.Test.YtcfhkpjheemkgaaAppend
import Derived.Laws.BytesArg
import Derived.Laws.IdiomStrings
namespace Go.Proofs.Ytcfhkpjheemkgaa
set_option linter.unusedSectionVars false
set_option linter.unusedSimpArgs false
set_option linter.unusedVariables false
open Go.RowKit Go.MapKept

def bcells (l : List UInt8) : List Value := l.map fun b => .int .u8 (b.toNat : Int)
/-- The bytes from address a on. -/
def BytesAt (w : World) (a : Option Addr) (l : List UInt8) : Prop :=
  l = [] ∨ ∃ b off, a = some ⟨b, off, none⟩ ∧ ∀ i, i < l.length → w.cell? ⟨b, off + i, none⟩ = some (.int .u8 ((l.getD i 0).toNat : Int))
theorem BytesAt.chg {w w' : World} {S : Nat → Prop} {a : Option Addr} {l : List UInt8} (h : BytesAt w a l) (hc : Chg S w w') (hs : ∀ b off, a = some ⟨b, off, none⟩ → ¬ S b) : BytesAt w' a l := by
  rcases h with h | ⟨b, off, e, h⟩
  · exact .inl h
  · exact .inr ⟨b, off, e, fun i hi => hc.cell (h i hi) (hs b off e)⟩
theorem BytesAt.chg0 {w w' : World} {a : Option Addr} {l : List UInt8} (h : BytesAt w a l) (hc : Chg none_ w w') : BytesAt w' a l := h.chg hc fun _ _ _ h => h
theorem BytesAt.below {w w' : World} {a : Option Addr} {l : List UInt8} (h : BytesAt w a l) (hb : Below w.heap.size w w') : BytesAt w' a l := h.chg0 (Chg.of_below hb)
theorem BytesAt.of_row {w : World} {a : Option Addr} {len cap : Nat} {zs : List Int} (h : IsRow .u8 w a len cap zs) : ∃ l : List UInt8, l.length = len ∧ BytesAt w a l ∧ (a = none → l = []) ∧ (∀ b off, a = some ⟨b, off, none⟩ → 0 < len → b < w.heap.size) := by
  refine ⟨(zs.take len).map fun n => UInt8.ofNat n.toNat, ?_, ?_, ?_, ?_⟩
  · rcases h with ⟨_, h1, _, h2⟩ | ⟨_, _, h1, _, h3, _⟩
    · subst h2; simp [h1]
    · simp; omega
  · by_cases h0 : len = 0
    · left; subst h0; simp
    · obtain ⟨b, off, e, _, _, hc⟩ := h.at_ (by omega)
      have hwf := h.wf_
      have hz : len ≤ zs.length := by
        rcases h with ⟨_, h1, _⟩ | ⟨_, _, h1, _, h3, _⟩ <;> omega
      refine .inr ⟨b, off, e, fun i hi => ?_⟩
      have hi' : i < len := by simpa [Nat.min_eq_left hz] using hi
      rw [hc i hi']
      have hw := hwf i hi'
      have hx : 0 ≤ zs.getD i 0 ∧ zs.getD i 0 ≤ 255 := by simpa [Lit.wf, IntKind.min, IntKind.max, IntKind.signed, IntKind.bits] using hw
      have e1 : ((zs.take len).map fun n => UInt8.ofNat n.toNat).getD i 0 = UInt8.ofNat (zs.getD i 0).toNat := by
        simp [List.getD, hi', show i < zs.length by omega]
      rw [e1, UInt8.toNat_ofNat']
      congr 2
      omega
  · rintro rfl
    rcases h with ⟨_, h1, _, h2⟩ | ⟨_, h, _⟩
    · subst h2; simp
    · cases h
  · rintro b off rfl hl
    obtain ⟨b', off', e, _, h2, _⟩ := h.at_ hl
    cases e; exact h2
theorem Own.bytes {w : World} {v : Value} {n : Nat} {l : List UInt8} (h : Own 5 1 w v n (bcells l)) : ∃ a cap, v = .slice a l.length cap ∧ n = l.length ∧ BytesAt w a l ∧ (a = none → l = []) ∧ ∀ b off, a = some ⟨b, off, none⟩ → v.ownBlock = some b := by
  obtain ⟨a, cap, rfl, hc, hm, hl, ha⟩ := h.open
  have hn : n = l.length := by simpa [bcells] using hl.symm
  subst hn
  refine ⟨a, cap, rfl, rfl, ?_, ?_, fun b off e => by subst e; rfl⟩
  · rcases ha with ⟨_, h0, _⟩ | ⟨g, cs, rfl, hg, _, ht⟩
    · exact .inl (List.length_eq_zero_iff.1 h0)
    · refine .inr ⟨g, 0, rfl, fun i hi => ?_⟩
      rw [Nat.zero_add]
      exact own_cell hg ht (by omega) (by simp [bcells, hi])
  · rintro rfl
    rcases ha with ⟨_, h0, _⟩ | ⟨g, cs, e, _⟩
    · exact List.length_eq_zero_iff.1 h0
    · cases e
/-- string(b). -/
theorem bytes_string {w : World} {a : Option Addr} {l : List UInt8} (h : BytesAt w a l) (cap : Nat) : (convert 53 9 (.slice a l.length cap)).run Try.prog w = .ok (.string ⟨l.toArray⟩) w := by
  cases a with
  | none =>
    rcases h with rfl | ⟨b, off, e, _⟩
    · exact run_convert_bytes_nil w _ _ Try.underlying53 Try.underlying5 _ _ _ Try.underlying9
    · cases e
  | some ad =>
    refine run_convert_bytes_back w _ _ _ ad cap l Try.underlying53 Try.underlying5 Try.underlying9 fun j hj => ?_
    rcases h with rfl | ⟨b, off, e, hc⟩
    · simp at hj
    · cases e
      have e1 : (⟨b, off, none⟩ : Addr).add j = ⟨b, off + j, none⟩ := by unfold Addr.add; split <;> simp_all
      rw [e1, hc j hj]
      simp [List.getD, hj]
theorem str_eq (l1 l2 : List UInt8) : ((⟨l1.toArray⟩ : ByteArray).toList == (⟨l2.toArray⟩ : ByteArray).toList) = decide (l1 = l2) := by
  rw [ByteArray.toList_mk, ByteArray.toList_mk, Bool.eq_iff_iff, beq_iff_eq, decide_eq_true_iff]

set_option maxHeartbeats 800000 in
theorem same_any (a1 a2 : Option Addr) (l1 l2 : List UInt8) (c1 c2 : Nat) (w : World) (h1 : BytesAt w a1 l1) (h2 : BytesAt w a2 l2) :
    Calls Try.prog 51 #[.slice a1 l1.length c1, .slice a2 l2.length c2] w fun e w' => e = .returned (.bool (decide (l1 = l2))) ∧ w = w' := by
  have e1 := bytes_string h1 c1
  have e2 := bytes_string h2 c2
  have HE : Hid (((⟨l1.toArray⟩ : ByteArray).toList == (⟨l2.toArray⟩ : ByteArray).toList) = decide (l1 = l2)) := str_eq l1 l2
  clear h1 h2
  generalize (⟨l1.toArray⟩ : ByteArray) = s1 at *
  generalize (⟨l2.toArray⟩ : ByteArray) = s2 at *
  generalize l1.length = n1 at *
  generalize l2.length = n2 at *
  generalize decide (l1 = l2) = d at *
  go_enter Try.func51, Try.ntmps51
  go_wp2_with fail
  go_ret
  exact ⟨by rw [← HE.out]; rfl, rfl⟩

def Cloned (l : List UInt8) (w : World) (e : Ending) (w' : World) : Prop :=
  ∃ v, e = .returned v ∧ Own 5 1 w' v l.length (bcells l) ∧ (∀ k, v.ownBlock = some k → w.heap.size ≤ k) ∧ Below w.heap.size w w'

set_option maxHeartbeats 800000 in
theorem clone_any (a : Option Addr) (l : List UInt8) (c : Nat) (w : World) (h : BytesAt w a l) (hn : a = none → l = []) (hb : l.length ≤ 1000000000) :
    Calls Try.prog 66 #[.slice a l.length c] w (Cloned l w) := by
  cases a with
  | none =>
    obtain rfl := hn rfl
    have heq := Lib.run_eql_slice_nil (P := Try.prog) w 53 5 none 0 c 0 0 Try.underlying53
    clear h hn
    go_enter Try.func66, Try.ntmps66
    go_wp2_with fail
    go_ret
    exact ⟨_, rfl, Own.nil _ _ _, (by intro k hk; cases hk), Below.refl _ _⟩
  | some ad =>
    have heq := Lib.run_eql_slice_nil (P := Try.prog) w 53 5 (some ad) l.length c 0 0 Try.underlying53
    obtain ⟨i, hi, hz, hs, hby⟩ := info_parts' (P := Try.prog) (e := 5) (z := some (.int .u8 0)) (s := 1) (b := 1) (by kernel_rfl)
    have hown0 : (w.alloc (.cells #[] 5)).ownsRow 0 5 1 (.slice (some ⟨w.heap.size, 0, none⟩) 0 0) 0 [] := World.ownsRow_made w #[] 0 (Nat.zero_le _) (by unfold maxLen; omega) rfl
    have hbel : Below w.heap.size w (w.alloc (.cells #[] 5)) := (Below.refl _ _).alloc (Nat.le_refl _) _
    obtain ⟨v', w', ha, ho, hg, _, hk⟩ := run_append_own_at (P := Try.prog) (w.alloc (.cells #[] 5)) 0 53 53 5 i (.int .u8 0) 1 1 Try.underlying53 hi hz hs hby rfl (by decide) _ 0 [] hown0 ad l.length c (bcells l) (by simp [bcells])
      (fun j u hu => by
        rcases h.below hbel with rfl | ⟨b, off, e, hc⟩
        · simp [bcells] at hu
        · cases e
          have hjl : j < l.length := by
            have := (List.getElem?_eq_some_iff.1 hu).1
            simpa [bcells] using this
          have e1 : (⟨b, off, none⟩ : Addr).add j = ⟨b, off + j, none⟩ := by unfold Addr.add; split <;> simp_all
          rw [e1, hc j hjl]
          simp [bcells, hjl] at hu
          simp [List.getD, hjl, hu])
      (by intro u hu; obtain ⟨x, _, rfl⟩ := List.mem_map.1 hu; rfl) (by unfold maxLen; omega) (by omega) (Nat.zero_le _)
    have hfin : Cloned l w (.returned v') w' := by
      refine ⟨v', rfl, by simpa [Own] using ho, fun k hkk => ?_, ?_⟩
      · rcases hk with h | h
        · rw [h] at hkk; cases hkk; exact Nat.le_refl _
        · rw [h] at hkk; cases hkk; simp
      · exact hbel.grown hg (by simp) (fun k e => by cases e; exact Nat.le_refl _)
    have HF := Lib.hid hfin
    clear h hn ho hg hk hown0 hbel hfin hi hz hs hby hb
    generalize l.length = n at *
    go_enter Try.func66, Try.ntmps66
    go_wp2_with (at_builtin; refine wpl_append rfl _ _ _ rfl rfl rfl ha ?_)
    go_ret
    exact HF.out
end Go.Proofs.Ytcfhkpjheemkgaa
