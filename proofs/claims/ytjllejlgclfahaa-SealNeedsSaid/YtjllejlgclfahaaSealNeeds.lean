/-
  SealNeeds: a text opens with just as many who shared it as are needed. No condition.
-/
import Derived.Test.YtjllejlgclfahaaSealAwake
import Derived.ProofKit
import Derived.OpenShut
import Derived.ChangeOld
namespace Go.Proofs.Ytjllejlgclfahaa.sealNeeds
open Go.RowKit Go.MapKept

theorem addTo_len (l : List Int) (a : Int) : (addTo l a).length ≤ l.length + 1 := by unfold addTo; split <;> simp

/-- What the loop keeps: the vault, and who was seen. -/
def Kept (w wr : World) (p sb : Nat) (nd label : Int) (l : List UInt8) (L : List Int) : Prop :=
  ∃ F, Vault wr p F nd [⟨label, l, L⟩] ∧ (∀ j, F j → w.heap.size ≤ j) ∧ ¬ F sb ∧ w.heap.size ≤ sb ∧ MapOf intKey wr sb (ones L) ∧ Below w.heap.size w wr
theorem Kept.chg0 {w x y : World} {p sb : Nat} {nd label : Int} {l : List UInt8} {L : List Int} (h : Kept w x p sb nd label l L) (hc : Chg none_ x y) : Kept w y p sb nd label l L := by
  obtain ⟨F, h1, h2, h3, h4, h5, h6⟩ := h
  exact ⟨F, h1.chg hc (fun _ _ h => h), h2, h3, h4, h5.chg hc (fun h => h), h6.trans (hc.below h6.size (fun _ h => h.elim))⟩
theorem Kept.mine {w x : World} {p sb : Nat} {nd label : Int} {l : List UInt8} {L : List Int} (h : Kept w x p sb nd label l L) : Mine w x p nd [⟨label, l, L⟩] := by
  obtain ⟨F, h1, h2, h3, h4, h5, h6⟩ := h
  exact ⟨F, h1, h2, h6⟩
theorem Kept.below {w x : World} {p sb : Nat} {nd label : Int} {l : List UInt8} {L : List Int} (h : Kept w x p sb nd label l L) : Below w.heap.size w x := h.mine.below
/-- Share, then seen. -/
theorem kept_share {w x : World} {p sb : Nat} {nd label : Int} {l : List UInt8} {L : List Int} (h : Kept w x p sb nd label l L) (who : Int) (hwho : (Lit.int .i64 who).wf = true) :
    Calls Try.prog 48 #[.pointer (some ⟨p, 0, none⟩), .int .i64 who, .int .i64 1] x fun e y => e = .returned (.bool true) ∧ Below w.heap.size w y ∧
      ∃ z, (Instr.mapUpdate 62 (.map (some sb)) (.int .i64 who) (.int .i64 1)).run Try.prog y = .ok () z ∧ Kept w z p sb nd label l (addTo L who) := by
  obtain ⟨F, h1, h2, h3, h4, h5, h6⟩ := h
  refine (seal_share_yes p F nd _ who 1 0 ⟨label, l, L⟩ x h1 rfl rfl hwho).mono ?_
  rintro e y ⟨rfl, hv, hc⟩
  have hB : Below w.heap.size w y := h6.trans (hc.below h6.size h2)
  obtain ⟨z, hu, hM, hC, hs⟩ := (h5.chg hc h3).update (P := Try.prog) Try.underlying62 Try.underlying3 who (.int .i64 1)
  refine ⟨rfl, hB, z, hu, F, hv.chg hC (fun k hk e => h3 (e ▸ hk)), h2, h3, h4, ?_, hB.trans (hC.below1 hB.size h4)⟩
  have := aset_ones L who
  unfold ones
  rw [← this]; exact hM
theorem bytes_below {w x : World} {a : Option Addr} {l : List UInt8} (h : BytesAt w a l) (hb : Below w.heap.size w x) : BytesAt x a l := h.below hb

set_option maxRecDepth 100000 in
set_option maxHeartbeats 4000000 in
theorem walk (W : World) (a0 : Int) (_ : (Lit.int .i64 a0).wf = true) (a1 : Option Addr) (len1 cap1 : Nat) (z1 : List Int) (w1 : IsRow .i64 W a1 len1 cap1 z1) (a2 : Option Addr) (len2 cap2 : Nat) (z2 : List Int) (w2 : IsRow .u8 W a2 len2 cap2 z2) (a3 : Int) (w3 : (Lit.int .i64 a3).wf = true) :
    Calls Try.prog 13 #[.int .i64 a0, .slice a1 len1 cap1, .slice a2 len2 cap2, .int .i64 a3] W fun e w' => e = .returned (.bool true) ∧ Below W.heap.size W w' := by
  obtain ⟨l, rfl, hby, hnil, _⟩ := BytesAt.of_row w2
  have hm7 := i64_and7
  have hm15 := i64_and15
  clear w2
  by_cases hlen : l.length ≤ 200
  · have hd : decide (200 < (l.length : Int)) = false := by simp; omega
    obtain ⟨t, ht⟩ : ∃ t : Int, t = a0 % 8 := ⟨_, rfl⟩
    have ht0 : 0 ≤ t ∧ t < 8 := by omega
    obtain ⟨nd, hnd⟩ : ∃ nd : Int, nd = max t 1 := ⟨_, rfl⟩
    have hnd0 : 1 ≤ nd ∧ nd ≤ 7 := by omega
    have e1 := ht.symm
    have e2 := hnd.symm
    have e3 : imax t 1 = nd := by rw [imax_eq]; exact e2
    obtain ⟨n, hn⟩ : ∃ n, n = len1 := ⟨_, rfl⟩
    have hle := w1.len_le
    have hw := w1.wf_
    have hcell : ∀ x, Below W.heap.size W x → ∀ k, k < n → ∃ b off, a1 = some ⟨b, off, none⟩ ∧ x.cell? ⟨b, off + k, none⟩ = some (.int .i64 (z1.getD k 0)) := by
      intro x hx k hk
      obtain ⟨b, off, e, _, hb, hc⟩ := w1.at_ (by omega)
      exact ⟨b, off, e, (Chg.of_below (S := none_) hx).cell (hc k (by omega)) (fun h => h)⟩
    subst hn
    have HCELL := Lib.hid hcell
    have HBY := Lib.hid hby
    have HNIL := Lib.hid hnil
    have HW3 := Lib.hid w3
    have hwb := fun k hk => hw k hk
    have HW := Lib.hid hwb
    have hmm := @run_makeMap Try.prog
    have hl2 : l.length ≤ 1000000000 := by omega
    clear ht hnd hcell w1 hby hnil w3 hw hwb
    go_enter Try.func13, Try.ntmps13
    go_wp2_with fail
    refine (seal_new t W).mono ?_
    rintro e x1 ⟨p, F1, rfl, h1, hF1, hB1⟩
    rw [e2] at h1
    go_wp2_with fail
    refine (seal_seal p F1 nd [] a3 a2 l cap2 x1 h1 (by decide) (bytes_below HBY.out hB1) HNIL.out hl2).mono ?_
    rintro e x2 ⟨rfl, ⟨F2, h2, hF2⟩, hc2⟩
    have hB2 : Below W.heap.size W x2 := hB1.trans (hc2.below hB1.size hF1)
    have hF2' : ∀ k, F2 k → W.heap.size ≤ k := fun k hk => by rcases hF2 k hk with h | h; exact hF1 k h; have := hB1.size; omega
    replace h2 : Vault x2 p F2 nd [⟨a3, l, []⟩] := h2
    have hk0 : Kept W (x2.alloc (.map #[] 0)) p x2.heap.size nd a3 l [] := ⟨F2, h2.chg (S := none_) ((Chg.refl _ _).alloc _) (fun _ _ h => h), hF2', fun h => by have := h2.lt _ h; omega, hB2.size, MapOf.made _ _ rfl, hB2.alloc hB2.size _⟩
    generalize hsb : x2.heap.size = sb at hk0
    clear h1 h2 hF1 hF2 hF2' hB1 hB2 hc2
    go_wp2_with fail
    clear hsb
    generalize x2.alloc (.map #[] 0) = x3 at *
    go_loopw [12] (fun i wr => ∃ (k : Nat) (L : List Int), k ≤ n ∧ k ≤ 30 ∧ L.length ≤ k ∧ i = .int .i64 k ∧ Kept W wr p sb nd a3 l L) (fun i _ => 30 - (intOf i).toNat)
    case atStart => exact ⟨0, [], by omega, by omega, by simp, rfl, hk0⟩
    case round =>
      obtain ⟨k, L, hk, hk30, hL, rfl, hK⟩ := hrel
      clear hk0
      by_cases hlt : k < n ∧ k < 30
      · obtain ⟨hkn, hk3⟩ := hlt
        have hd2 : decide ((k : Int) < 30) = true := by simp; omega
        have hd3 : decide ((k : Int) < (n : Int)) = true := by simp; omega
        obtain ⟨b, off, rfl, hc0⟩ := HCELL.out wr hK.below k hkn
        have hcx : ∀ x, Below W.heap.size W x → x.cell? ⟨b, off + k, none⟩ = some (.int .i64 (z1.getD k 0)) := fun x hx => by
          obtain ⟨b', off', e, h⟩ := HCELL.out x hx k hkn
          cases e; exact h
        have hwx := HW.out k hkn
        clear hc0
        generalize z1.getD k 0 = x at *
        have hwt : (Lit.int .i64 (x % 16)).wf = true := WalkArith.wf_i64 (by omega)
        have HCX := Lib.hid hcx
        clear hcx hwx
        go_wp2_with fail
        refine (mine_open p nd _ a3 1 0 ⟨a3, l, L⟩ W wr hK.mine rfl rfl hl2).mono ?_
        intro e w4 ho
        by_cases hop : nd ≤ (L.length : Int)
        · rw [show openC nd ⟨a3, l, L⟩ a3 = some l from if_pos ⟨hop, rfl⟩] at ho
          obtain ⟨a4, cp4, rfl, hx4, hb4, hc4⟩ := ho.yes
          have hK4 := hK.chg0 hc4
          have hln4 := (show MapOf intKey w4 sb (ones L) from by obtain ⟨_, _, _, _, _, h, _⟩ := hK4; exact h).len (P := Try.prog) (ty := 3) Try.underlying62
          rw [show (ones L).length = L.length by simp [ones]] at hln4
          have hge : decide (nd ≤ (L.length : Int)) = true := by simpa using hop
          clear hop hK hc4 hb4 ho
          obtain ⟨a4', cp4', e4, _, hb4, _⟩ := hx4.bytes
          cases e4
          go_wp2_with fail
          refine (same_any a4 a2 l l cp4 cap2 w4 hb4 (bytes_below HBY.out hK4.below)).mono ?_
          rintro e _ ⟨rfl, rfl⟩
          rw [decide_eq_true (rfl : l = l)]
          clear hx4 hb4
          go_wp2_with fail
          refine (mine_shares p nd _ 1 0 ⟨a3, l, L⟩ W w4 hK4.mine rfl rfl (show L.length * 8 ≤ _ by omega)).mono ?_
          intro e w5 ho5
          obtain ⟨a5, cp5, rfl, _, hB5, _⟩ := BookAll.open (l := L) ho5
          have hK5 := hK4.chg0 (Chg.of_below hB5)
          have hln5 := (show MapOf intKey w5 sb (ones L) from by obtain ⟨_, _, _, _, _, h, _⟩ := hK5; exact h).len (P := Try.prog) (ty := 3) Try.underlying62
          rw [show (ones L).length = L.length by simp [ones]] at hln5
          have hc5 := HCX.out w5 hK5.below
          clear hK4 ho5 hB5 hln4
          go_wp2_with fail
          refine (kept_share hK5 (x % 16) hwt).mono ?_
          rintro e w6 ⟨rfl, hB6, w7, hu, hK7⟩
          have hc6 := HCX.out w6 hB6
          clear hK5 hc5 hln5 hB6
          go_wp2_with fail
          go_roundw
          case rel => exact ⟨k + 1, _, by omega, by omega, Nat.le_trans (addTo_len _ _) (by omega), by go_num, hK7⟩
          case measure => simp [intOf]; omega
        · rw [show openC nd ⟨a3, l, L⟩ a3 = none from if_neg (fun h => hop h.1)] at ho
          obtain ⟨rfl, hc4⟩ := ho.no
          have hK4 := hK.chg0 hc4
          have hln4 := (show MapOf intKey w4 sb (ones L) from by obtain ⟨_, _, _, _, _, h, _⟩ := hK4; exact h).len (P := Try.prog) (ty := 3) Try.underlying62
          rw [show (ones L).length = L.length by simp [ones]] at hln4
          have hge : decide (nd ≤ (L.length : Int)) = false := by simpa using hop
          clear hop hK hc4 ho
          go_wp2_with fail
          refine (mine_shares p nd _ 1 0 ⟨a3, l, L⟩ W w4 hK4.mine rfl rfl (show L.length * 8 ≤ _ by omega)).mono ?_
          intro e w5 ho5
          obtain ⟨a5, cp5, rfl, _, hB5, _⟩ := BookAll.open (l := L) ho5
          have hK5 := hK4.chg0 (Chg.of_below hB5)
          have hln5 := (show MapOf intKey w5 sb (ones L) from by obtain ⟨_, _, _, _, _, h, _⟩ := hK5; exact h).len (P := Try.prog) (ty := 3) Try.underlying62
          rw [show (ones L).length = L.length by simp [ones]] at hln5
          have hc5 := HCX.out w5 hK5.below
          clear hK4 ho5 hB5 hln4
          go_wp2_with fail
          refine (kept_share hK5 (x % 16) hwt).mono ?_
          rintro e w6 ⟨rfl, hB6, w7, hu, hK7⟩
          have hc6 := HCX.out w6 hB6
          clear hK5 hc5 hln5 hB6
          go_wp2_with fail
          go_roundw
          case rel => exact ⟨k + 1, _, by omega, by omega, Nat.le_trans (addTo_len _ _) (by omega), by go_num, hK7⟩
          case measure => simp [intOf]; omega
      · have hend : ∀ (lb : Int), lb ≠ a3 → Calls Try.prog 45 #[.pointer (some ⟨p, 0, none⟩), .int .i64 lb, .int .i64 1] wr (Opened none wr) := fun lb hlb => by
          have := mine_open p nd _ lb 1 0 ⟨a3, l, L⟩ W wr hK.mine rfl rfl hl2
          rwa [show openC nd ⟨a3, l, L⟩ lb = none from if_neg (fun h => hlb h.2.symm)] at this
        have hne : wrap64 (a3 + 1) ≠ a3 := by
          intro h
          unfold wrap64 at h
          omega
        have HEND := Lib.hid (hend _ hne)
        clear hend hne
        by_cases hkn : k < n
        · have hd2 : decide ((k : Int) < 30) = false := by simp; omega
          have hd3 : decide ((k : Int) < (n : Int)) = true := by simp; omega
          go_wp2_with fail
          refine HEND.out.mono ?_
          intro e w4 ho
          obtain ⟨rfl, hc4⟩ := ho.no
          have hK4 := hK.chg0 hc4
          clear hK ho hc4
          go_wp2_with fail
          refine (seal_awake w4).mono ?_
          rintro e w5 ⟨rfl, hB5⟩
          go_wp2_with fail
          go_ret
          exact ⟨rfl, hK4.below.trans (hB5.mono hK4.below.size)⟩
        · have hd3 : decide ((k : Int) < (n : Int)) = false := by simp; omega
          go_wp2_with fail
          refine HEND.out.mono ?_
          intro e w4 ho
          obtain ⟨rfl, hc4⟩ := ho.no
          have hK4 := hK.chg0 hc4
          clear hK ho hc4
          go_wp2_with fail
          refine (seal_awake w4).mono ?_
          rintro e w5 ⟨rfl, hB5⟩
          go_wp2_with fail
          go_ret
          exact ⟨rfl, hK4.below.trans (hB5.mono hK4.below.size)⟩
  · have hd : decide (200 < (l.length : Int)) = true := by simp; omega
    clear w1 hby hnil
    generalize l.length = len2 at *
    go_enter Try.func13, Try.ntmps13
    go_wp2_with fail
    refine (seal_awake W).mono ?_
    rintro e w3 ⟨rfl, hB3⟩
    go_wp2_with fail
    go_ret
    exact ⟨rfl, hB3⟩

/-! ### the row's step -/
open Go.ChangeShapes Go.WideShapes Go.ChangeAt
set_option linter.unusedVariables false
theorem own : ownKnob Try.prog.godebug = none := by kernel_rfl
theorem laidOut : laidOutB Try.prog = true := by kernel_rfl
set_option maxRecDepth 100000 in
theorem lifted (os : Os) (started : os.Started) (H : Type) (enc : TypeId × Value → H) :
    ReturnsInHanded {} Try.checked os 13 .any (Rows.sealNeedsSpec.pre6 enc Try.prog Try.f13 Rows.sealNeedsRow.domain false) (Rows.sealNeedsSpec.post enc Try.prog Try.f13 false true false false) := by
  refine returnsInHanded_of_change (C := Try.checked) own started (by kernel_rfl) Try.func13
    (ChangeSpec.witness6 (enc := enc) (C := Try.checked) false ⟨#[], #[.int .i64 0, .slice none 0 0, .slice none 0 0, .int .i64 0], []⟩ 8 (by kernel_rfl) (by kernel_rfl) (by kernel_rfl) (by kernel_rfl)) ?_
  intro W base args ds gs before hval0 hW hcnd _
  have hval : ∀ (j : Nat) t v, Try.f13.params[j]? = some t → args[j]? = some v → Value.okWide Try.prog W .any base t v := hval0
  have hW' := hW
  obtain ⟨p, q, hA0, hV, rfl, hfz, hnd⟩ := hW
  have hA : DataW.TrodAll enc Try.prog W 0 (fun _ => true) true Try.f13.params.toList args.toList ds p := hA0
  rw [Try.params13] at hA hval
  obtain ⟨v0, vs0, d0, ds0, p0, q0, hargs, rfl, rfl, h0, r0⟩ := trodAll_cons hA
  obtain ⟨v1, vs1, d1, ds1, p1, q1, rfl, rfl, rfl, h1, r1⟩ := trodAll_cons r0
  obtain ⟨v2, vs2, d2, ds2, p2, q2, rfl, rfl, rfl, h2, r2⟩ := trodAll_cons r1
  obtain ⟨v3, vs3, d3, ds3, p3, q3, rfl, rfl, rfl, h3, r3⟩ := trodAll_cons r2
  obtain ⟨rfl, rfl, rfl⟩ := trodAll_nil r3
  obtain rfl : args = #[v0, v1, v2, v3] := by cases args; simp_all
  obtain ⟨rfl, rfl⟩ := trodVars_none hV
  obtain ⟨a0, rfl, rfl, rfl, w0⟩ := open_int Try.underlying3 (hval 0 3 v0 rfl rfl) h0
  obtain ⟨a1, len1, cap1, rfl⟩ := okWide_slice Try.underlying37 (hval 1 37 v1 rfl rfl)
  have k1 := h1
  have lt1 : ∀ x ∈ p1, x.block < W.heap.size := by obtain ⟨m, hm⟩ := k1; exact DataW.trod_lt m _ _ _ hm
  obtain ⟨z1, w1⟩ : ∃ zs, IsRow .i64 W a1 len1 cap1 zs := by
    obtain ⟨fuel, hf⟩ := h1
    rcases open_ints Try.underlying37 Try.underlying3 (by kernel_rfl) hf with ⟨hcs, _⟩ | ⟨x, l, c, zs, hcs, _, hl, hm, hz, _, hcell, hwz⟩
    · simp [Value.cells] at hcs
      obtain ⟨rfl, rfl, rfl⟩ := hcs
      exact ⟨[], .inl ⟨rfl, rfl, rfl, rfl⟩⟩
    · simp [Value.cells] at hcs
      obtain ⟨rfl, rfl, rfl⟩ := hcs
      exact ⟨zs, .inr ⟨_, rfl, hl, hm, by simpa using hz, hcell, hwz⟩⟩
  obtain ⟨a2, len2, cap2, rfl⟩ := okWide_slice Try.underlying72 (hval 2 72 v2 rfl rfl)
  have k2 := h2
  have lt2 : ∀ x ∈ p2, x.block < W.heap.size := by obtain ⟨m, hm⟩ := k2; exact DataW.trod_lt m _ _ _ hm
  obtain ⟨z2, w2⟩ : ∃ zs, IsRow .u8 W a2 len2 cap2 zs := by
    obtain ⟨fuel, hf⟩ := h2
    rcases open_ints Try.underlying72 Try.underlying5 (by kernel_rfl) hf with ⟨hcs, _⟩ | ⟨x, l, c, zs, hcs, _, hl, hm, hz, _, hcell, hwz⟩
    · simp [Value.cells] at hcs
      obtain ⟨rfl, rfl, rfl⟩ := hcs
      exact ⟨[], .inl ⟨rfl, rfl, rfl, rfl⟩⟩
    · simp [Value.cells] at hcs
      obtain ⟨rfl, rfl, rfl⟩ := hcs
      exact ⟨zs, .inr ⟨_, rfl, hl, hm, by simpa using hz, hcell, hwz⟩⟩
  obtain ⟨a3, rfl, rfl, rfl, w3⟩ := open_int Try.underlying3 (hval 3 3 v3 rfl rfl) h3
  clear hA0 hval0
  refine (walk W a0 w0 a1 len1 cap1 z1 w1 a2 len2 cap2 z2 w2 a3 w3).mono fun e W' ⟨he, bel⟩ => ?_
  subst he
  exact ⟨_, rfl, _, _, _, [], _, [], hW', trodAll_mk1 (shut_bool Try.underlying4 _), (trodAll_cons_mk (shut_int Try.underlying3 w0) (trodAll_cons_mk (Below.trod laidOut (by kernel_rfl) (of_decide_eq_true (by kernel_rfl)) k1 bel lt1) (trodAll_cons_mk (Below.trod laidOut (by kernel_rfl) (of_decide_eq_true (by kernel_rfl)) k2 bel lt2) (trodAll_cons_mk (shut_int Try.underlying3 w3) trodAll_mk0)))), rfl, bel.frame _, fun h => by cases h⟩

theorem over : Rows.sealNeedsRow.holds Try.pinned (OpenSpec.ofChange Rows.sealNeedsSpec) :=
  OpenClaim.holds_of_wide 13 Try.f13 rfl rfl rfl rfl rfl rfl rfl ⟨rfl, rfl, rfl, rfl, rfl⟩ rfl rfl rfl rfl rfl (by kernel_rfl) Try.func13 (by kernel_rfl)
    (of_decide_eq_true (by kernel_rfl)) (by unfold Func.isWrapper; first | (rw [if_pos (by decide +kernel)]; kernel_rfl) | (rw [if_neg (by decide +kernel)]; exact ⟨rfl, rfl⟩))
    (fun os started H enc _ => lifted os started H enc)

theorem proved : Rows.SealNeedsSaid := over
#print axioms proved

end Go.Proofs.Ytjllejlgclfahaa.sealNeeds
