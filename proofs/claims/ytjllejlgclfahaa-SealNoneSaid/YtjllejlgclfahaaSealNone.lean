/-
  SealNone: ciphers that are none are not shared, and do not open; texts of unlike ciphers do not mix. No condition.
-/
import Derived.Test.YtjllejlgclfahaaSealAwake
import Derived.Test.YtjllejlgclfahaaTexts
import Derived.Deep.RegionHeld3
namespace Go.Proofs.Ytjllejlgclfahaa.sealNone
open Go.RowKit Go.MapKept

/-- The ciphers behind k rounds. -/
def cs (lab : Nat → Int) (T : List (List UInt8)) (k : Nat) : List Ciph := (List.range k).map fun i => ⟨lab i, T.getD i [], [lab i]⟩
theorem cs_length (lab : Nat → Int) (T : List (List UInt8)) (k : Nat) : (cs lab T k).length = k := by simp [cs]
theorem cs_at (lab : Nat → Int) (T : List (List UInt8)) {k j : Nat} (h : j < k) : (cs lab T k)[j]? = some ⟨lab j, T.getD j [], [lab j]⟩ := by simp [cs, h]
theorem cs_last (lab : Nat → Int) (T : List (List UInt8)) (k : Nat) (c : Ciph) : (cs lab T k ++ [c])[k]? = some c := by
  rw [List.getElem?_append_right (by rw [cs_length]; exact Nat.le_refl _), cs_length]; simp
theorem cs_succ (lab : Nat → Int) (T : List (List UInt8)) (k : Nat) : (cs lab T k ++ [(⟨lab k, T.getD k [], []⟩ : Ciph)]).set k (⟨lab k, T.getD k [], addTo [] (lab k)⟩ : Ciph) = cs lab T (k + 1) := by
  rw [List.set_append_right _ _ (by rw [cs_length]; exact Nat.le_refl _), cs_length]
  simp [cs, List.range_succ, addTo]

set_option maxRecDepth 100000 in
set_option maxHeartbeats 3000000 in
theorem walk (W : World) (a0 : Option Addr) (len0 cap0 : Nat) (T : List (List UInt8)) (hT : T.length = len0) (w0 : TextsAt W a0 T) (a1 : Option Addr) (len1 cap1 : Nat) (z1 : List Int) (w1 : IsRow .i64 W a1 len1 cap1 z1) (a2 : Int) (_ : (Lit.int .i64 a2).wf = true) :
    Calls Try.prog 16 #[.slice a0 len0 cap0, .slice a1 len1 cap1, .int .i64 a2] W fun e w' => e = .returned (.bool true) ∧ Below W.heap.size W w' := by
  subst hT
  have hle := w1.len_le
  have hmin : ∀ (w : World) (ts : Array TypeId) (t : TypeId) (x y z : Int), (Builtin.min_ ts t #[.int .i64 x, .int .i64 y, .int .i64 z]).run Try.prog w = .ok (.int .i64 (min (min x y) z)) w := by
    intro w ts t x y z
    have h2 : ∀ x y : Int, (if y < x then y else x) = min x y := fun x y => by omega
    simp [Builtin.min_, Builtin.min2, h2]
  obtain ⟨n, hn⟩ : ∃ n : Nat, (n : Int) = min (min (T.length : Int) len1) 12 := ⟨(min (min (T.length : Int) len1) 12).toNat, by omega⟩
  have hn1 : n ≤ T.length ∧ n ≤ len1 ∧ n ≤ 12 := by omega
  have e1 := hn.symm
  have hw := w1.wf_
  obtain ⟨lab, hlab⟩ : ∃ lab : Nat → Int, lab = fun k => z1.getD k 0 := ⟨_, rfl⟩
  have hl : ∀ x, Chg none_ W x → ∀ k, k < n → ∃ b off, a1 = some ⟨b, off, none⟩ ∧ x.cell? ⟨b, off + k, none⟩ = some (.int .i64 (lab k)) := by
    intro x hx k hk
    obtain ⟨b, off, e, _, hb, hc⟩ := w1.at_ (by omega)
    exact ⟨b, off, e, by rw [hlab]; exact hx.cell (hc k (by omega)) (fun h => h)⟩
  have ht : ∀ x, Chg none_ W x → ∀ k, k < n → ∃ b off c ab, a0 = some ⟨b, off, none⟩ ∧ x.cell? ⟨b, off + k, none⟩ = some (.slice ab (T.getD k []).length c) ∧ BytesAt x ab (T.getD k []) ∧ (ab = none → T.getD k [] = []) := by
    intro x hx k hk
    obtain ⟨b, off, v, e, hv, ab, c, rfl, hb, hnn⟩ := w0 k (by omega)
    exact ⟨b, off, c, ab, e, hx.cell hv (fun h => h), hb.chg0 hx, hnn⟩
  have hwf : ∀ k, k < n → (Lit.int .i64 (lab k)).wf = true := fun k hk => by rw [hlab]; exact hw k (by omega)
  have HL := Lib.hid hl
  have HT := Lib.hid ht
  have HW := Lib.hid hwf
  have HN := Lib.hid hn
  clear hl ht hwf hw hlab w0 w1 hn
  go_enter Try.func16, Try.ntmps16
  go_wp2_with fail
  refine (mine_new 1 W W (Below.refl _ _)).mono ?_
  rintro e x1 ⟨p, rfl, h1⟩
  rw [show max (1 : Int) 1 = 1 from rfl] at h1
  go_wp2_with fail
  go_loopw [9] (fun i wr => ∃ k : Nat, k ≤ n ∧ i = .int .i64 k ∧ Mine W wr p 1 (cs lab T k) ∧ ∀ j, j < k → (T.getD j []).length ≤ 200) (fun i _ => n - (intOf i).toNat)
  case atStart => exact ⟨0, by omega, rfl, by simpa [cs] using h1, fun j hj => by omega⟩
  case round =>
    obtain ⟨k, hk, rfl, hM, hS⟩ := hrel
    clear h1
    have HS := Lib.hid hS
    clear hS
    by_cases hlt : k < n
    · have hC : Chg none_ W wr := Chg.of_below hM.below
      obtain ⟨b, off, c, ab, rfl, hc0, hby, hnil⟩ := HT.out wr hC k hlt
      obtain ⟨b1, off1, rfl, hc1⟩ := HL.out wr hC k hlt
      have hwk := HW.out k hlt
      have HB := Lib.hid hby
      have HNIL := Lib.hid hnil
      have hk0 : k < T.length := by omega
      have hk1 : k < len1 := by omega
      have hk01 : (k : Int) < (T.length : Int) := by omega
      have hk11 : (k : Int) < (len1 : Int) := by omega
      have hwr : IntKind.i64.wrap ((k : Int) + 1) = (k : Int) + 1 := by rw [IntKind.wrap_i64]; omega
      clear hby hnil
      by_cases hs : (T.getD k []).length ≤ 200
      · have hd : decide (200 < ((T.getD k []).length : Int)) = false := by simp only [decide_eq_false_iff_not]; omega
        have hl1 : ∀ x, Chg none_ W x → x.cell? ⟨b1, off1 + k, none⟩ = some (.int .i64 (lab k)) := fun x hx => by
          obtain ⟨b', off', e, h⟩ := HL.out x hx k hlt
          cases e; exact h
        have HL1 := Lib.hid hl1
        have ht1 : ∀ x, Chg none_ W x → x.cell? ⟨b, off + k, none⟩ = some (.slice ab (T.getD k []).length c) := fun x hx => by
          have := (Chg.of_below (S := none_) hM.below)
          obtain ⟨b', off', c', ab', e, h, _⟩ := HT.out x hx k hlt
          obtain ⟨b2, off2, c2, ab2, e2, h2, _⟩ := HT.out W (Chg.refl _ _) k hlt
          cases e; cases e2
          have h3 := this.cell h2 (fun h => h)
          have h4 := hx.cell h2 (fun h => h)
          rw [hc0] at h3
          rw [h4]; exact h3.symm ▸ rfl
        have HT1 := Lib.hid ht1
        have HSU := Lib.hid (cs_succ lab T k)
        have HLA := Lib.hid (fun q => cs_last lab T k q)
        have hcl := cs_length lab T k
        generalize hcs : cs lab T k = C at *
        have HSK : Hid (∀ j, j < k + 1 → (T.getD j []).length ≤ 200) := by
          show ∀ j, j < k + 1 → (T.getD j []).length ≤ 200
          intro j hj
          by_cases e : j = k
          · subst e; exact hs
          · exact HS.out j (by omega)
        have hlen9 : (T.getD k []).length ≤ 1000000000 := by omega
        clear hl1 ht1 hC HS hcs
        generalize T.getD k [] = tx at *
        go_wp2_with fail
        go_region_held3 (fun x : World => x.cell? ⟨b, off + k, none⟩ = some (.slice ab tx.length c) ∧ x.cell? ⟨b1, off1 + k, none⟩ = some (.int .i64 (lab k))) (go_keep) (first
          | (go_at_call 44; refine (mine_seal p 1 C (lab k) ab tx c W _ (hM.chg0 (Chg.refl _ _).drew) (by omega) (HB.out.chg0 (Chg.refl _ _).drew) HNIL.out hlen9).mono ?_; rintro e w2 ⟨rfl, hM2⟩; rw [hcl]; have hc2 := HL1.out w2 (Chg.of_below hM2.below); have ht2 := HT1.out w2 (Chg.of_below hM2.below))
          | (go_at_call 48; refine (mine_share p 1 _ (lab k) (k + 1) k ⟨lab k, tx, []⟩ W _ hM2 rfl (HLA.out _) hwk).mono ?_; rintro e w3 ⟨rfl, hM3⟩; have hc3 := HL1.out w3 (Chg.of_below hM3.below); have ht3 := HT1.out w3 (Chg.of_below hM3.below)))
        rename_i hHeld
        rw [HSU.out] at hM3
        clear hHeld hM hM2 hc0 hc1 hc2 hc3 ht2 ht3 HT1 HL1
        go_wp2_with fail
        go_roundw
        case rel => exact ⟨k + 1, by omega, by go_num, hM3, HSK.out⟩
        case measure => simp [intOf]; omega
      · have hd : decide (200 < ((T.getD k []).length : Int)) = true := by simp only [decide_eq_true_eq]; omega
        generalize T.getD k [] = tx at *
        go_wp2_with fail
        refine (seal_awake wr).mono ?_
        rintro e w3 ⟨rfl, hB3⟩
        go_wp2_with fail
        go_ret
        exact ⟨rfl, hM.below.trans (hB3.mono hM.below.size)⟩
    · have hkn : k = n := by omega
      subst hkn
      have hcl := cs_length lab T k
      have HCA := Lib.hid (fun j (hj : j < k) => cs_at lab T hj)
      generalize cs lab T k = C at *
      go_wp2_with fail
      go_loopw [10] (fun i wr => ∃ j : Nat, j ≤ k ∧ i = .int .i64 j ∧ Mine W wr p 1 C) (fun i _ => k - (intOf i).toNat)
      case atStart => exact ⟨0, by omega, rfl, hM⟩
      case round =>
        obtain ⟨j, hj, rfl, hM⟩ := hrel
        by_cases hlt2 : j < k
        · obtain ⟨b, off, c, ab, rfl, hc0, hby, hnil⟩ := HT.out _ (Chg.of_below hM.below) j hlt2
          obtain ⟨b1, off1, rfl, hc1⟩ := HL.out _ (Chg.of_below hM.below) j hlt2
          have hca := HCA.out j hlt2
          have hs2 := HS.out j hlt2
          have hl9 : (T.getD j []).length ≤ 1000000000 := by omega
          have hk0 : j < T.length := by omega
          have hk1 : j < len1 := by omega
          obtain ⟨tx, htx⟩ : ∃ tx, tx = T.getD j [] := ⟨_, rfl⟩
          rw [← htx] at hc0 hca hl9
          clear hby hnil hs2
          have HTX := Lib.hid htx
          clear htx
          go_wp2_with fail
          refine (mine_open p 1 C (lab j) (j + 1) j _ W _ hM rfl hca hl9).mono ?_
          intro e w4 ho
          rw [show openC 1 ⟨lab j, tx, [lab j]⟩ (lab j) = some tx from if_pos ⟨by simp, rfl⟩] at ho
          obtain ⟨a4, cp4, rfl, hx4, _, hc4⟩ := ho.yes
          have hM4 := hM.chg0 hc4
          obtain ⟨b', off', c', ab', e', hc5, hby5, _⟩ := HT.out _ (Chg.of_below hM4.below) j hlt2
          cases e'
          rw [← HTX.out] at hc5 hby5
          obtain ⟨b', off', e', hc6⟩ := HL.out _ (Chg.of_below hM4.below) j hlt2
          cases e'
          obtain ⟨_, _, e4, _, hb4, _⟩ := hx4.bytes
          cases e4
          clear ho hx4 hc4 hM hc0 hc1
          go_wp2_with fail
          refine (same_any a4 ab' _ _ cp4 c' w4 hb4 hby5).mono ?_
          rintro e _ ⟨rfl, rfl⟩
          rw [decide_eq_true (rfl : tx = tx)]
          go_wp2_with fail
          refine (mine_shared p 1 C (lab j) (j + 1) j _ W w4 hM4 rfl hca).mono ?_
          rintro e _ ⟨rfl, rfl⟩
          rw [decide_eq_true (show lab j ∈ [lab j] by simp)]
          go_wp2_with fail
          go_roundw
          case rel => exact ⟨j + 1, by omega, by go_num, hM4⟩
          case measure => simp [intOf]; omega
        · clear HT HL
          by_cases hr : 1 ≤ a2 ∧ a2 ≤ (k : Int)
          · have hr1 : decide (1 ≤ a2) = true := by simpa using hr.1
            have hr2 : decide (a2 ≤ (k : Int)) = true := by simpa using hr.2
            clear hr
            go_wp2_with fail
            refine (seal_awake _).mono ?_
            rintro e w3 ⟨rfl, hB3⟩
            go_wp2_with fail
            go_ret
            exact ⟨rfl, hM.below.trans (hB3.mono hM.below.size)⟩
          · have hr0 : ¬ (1 ≤ a2 ∧ a2 ≤ (C.length : Int)) := by rw [hcl]; exact hr
            obtain ⟨v1, hv1⟩ : ∃ v1, decide (1 ≤ a2) = v1 := ⟨_, rfl⟩
            obtain ⟨v2, hv2⟩ : ∃ v2, decide (a2 ≤ (k : Int)) = v2 := ⟨_, rfl⟩
            have hv : v1 = false ∨ (v1 = true ∧ v2 = false) := by
              by_cases h1 : 1 ≤ a2
              · right; refine ⟨by rw [← hv1]; simpa using h1, ?_⟩
                rw [← hv2]; simp only [decide_eq_false_iff_not]; exact fun h2 => hr ⟨h1, h2⟩
              · left; rw [← hv1]; simpa using h1
            have HR := Lib.hid hr0
            clear hr hr0
            rcases hv with rfl | ⟨rfl, rfl⟩
            all_goals
              go_wp2_with fail
              refine (mine_open_no p 1 C 0 a2 W _ hM HR.out).mono ?_
              intro e w4 ho
              obtain ⟨rfl, hc4⟩ := ho.no
              have hM4 := hM.chg0 hc4
              clear ho hc4 hM
              go_wp2_with fail
              refine (mine_share_no p 1 C 0 a2 W w4 hM4 HR.out).mono ?_
              rintro e _ ⟨rfl, rfl⟩
              go_wp2_with fail
              refine (mine_shared_no p 1 C 0 a2 W w4 hM4 HR.out).mono ?_
              rintro e _ ⟨rfl, rfl⟩
              go_wp2_with fail
              refine (mine_shares_no p 1 C a2 W w4 hM4 HR.out).mono ?_
              intro e w5 ho5
              obtain ⟨a5, cp5, rfl, _, hB5, _⟩ := BookAll.open (l := []) ho5
              have hM5 := hM4.chg0 (Chg.of_below hB5)
              clear ho5 hB5 hM4
              go_wp2_with fail
              refine (mine_len p 1 C W w5 hM5).mono ?_
              rintro e _ ⟨rfl, rfl⟩
              rw [hcl]
              go_wp2_with fail
              refine (seal_awake w5).mono ?_
              rintro e w6 ⟨rfl, hB6⟩
              go_wp2_with fail
              go_ret
              exact ⟨rfl, hM5.below.trans (hB6.mono hM5.below.size)⟩

/-! ### the row's step -/
open Go.ChangeShapes Go.WideShapes Go.ChangeAt
set_option linter.unusedVariables false
theorem own : ownKnob Try.prog.godebug = none := by kernel_rfl
theorem laidOut : laidOutB Try.prog = true := by kernel_rfl
set_option maxRecDepth 100000 in
theorem lifted (os : Os) (started : os.Started) (H : Type) (enc : TypeId × Value → H) :
    ReturnsInHanded {} Try.checked os 16 .any (Rows.sealNoneSpec.pre6 enc Try.prog Try.f16 Rows.sealNoneRow.domain false) (Rows.sealNoneSpec.post enc Try.prog Try.f16 false true false false) := by
  refine returnsInHanded_of_change (C := Try.checked) own started (by kernel_rfl) Try.func16
    (ChangeSpec.witness6 (enc := enc) (C := Try.checked) false ⟨#[], #[.slice none 0 0, .slice none 0 0, .int .i64 0], []⟩ 8 (by kernel_rfl) (by kernel_rfl) (by kernel_rfl) (by kernel_rfl)) ?_
  intro W base args ds gs before hval0 hW hcnd _
  have hval : ∀ (j : Nat) t v, Try.f16.params[j]? = some t → args[j]? = some v → Value.okWide Try.prog W .any base t v := hval0
  have hW' := hW
  obtain ⟨p, q, hA0, hV, rfl, hfz, hnd⟩ := hW
  have hA : DataW.TrodAll enc Try.prog W 0 (fun _ => true) true Try.f16.params.toList args.toList ds p := hA0
  rw [Try.params16] at hA hval
  obtain ⟨v0, vs0, d0, ds0, p0, q0, hargs, rfl, rfl, h0, r0⟩ := trodAll_cons hA
  obtain ⟨v1, vs1, d1, ds1, p1, q1, rfl, rfl, rfl, h1, r1⟩ := trodAll_cons r0
  obtain ⟨v2, vs2, d2, ds2, p2, q2, rfl, rfl, rfl, h2, r2⟩ := trodAll_cons r1
  obtain ⟨rfl, rfl, rfl⟩ := trodAll_nil r2
  obtain rfl : args = #[v0, v1, v2] := by cases args; simp_all
  obtain ⟨rfl, rfl⟩ := trodVars_none hV
  obtain ⟨a0, len0, cap0, rfl⟩ := okWide_slice Try.underlying82 (hval 0 82 v0 rfl rfl)
  have k0 := h0
  have lt0 : ∀ x ∈ p0, x.block < W.heap.size := by obtain ⟨m, hm⟩ := k0; exact DataW.trod_lt m _ _ _ hm
  obtain ⟨T0, l0, w0⟩ := open_texts h0
  obtain ⟨a1, len1, cap1, rfl⟩ := okWide_slice Try.underlying37 (hval 1 37 v1 rfl rfl)
  have k1 := h1
  have lt1 : ∀ x ∈ p1, x.block < W.heap.size := by obtain ⟨m, hm⟩ := k1; exact DataW.trod_lt m _ _ _ hm
  obtain ⟨z1, w1⟩ : ∃ zs, IsRow .i64 W a1 len1 cap1 zs := by
    obtain ⟨fuel, hf⟩ := h1
    rcases open_ints Try.underlying37 Try.underlying3 (by kernel_rfl) hf with ⟨hcs, _⟩ | ⟨x, l, c, zs, hcs, _, hl, hm, hz, _, hcell, hwz⟩
    · simp [Value.cells] at hcs
      obtain ⟨rfl, rfl, rfl⟩ := hcs
      exact ⟨[], .inl ⟨rfl, rfl, rfl, rfl⟩⟩
    · simp [Value.cells] at hcs
      obtain ⟨rfl, rfl, rfl⟩ := hcs
      exact ⟨zs, .inr ⟨_, rfl, hl, hm, by simpa using hz, hcell, hwz⟩⟩
  obtain ⟨a2, rfl, rfl, rfl, w2⟩ := open_int Try.underlying3 (hval 2 3 v2 rfl rfl) h2
  clear hA0 hval0
  refine (walk W a0 len0 cap0 T0 l0 w0 a1 len1 cap1 z1 w1 a2 w2).mono fun e W' ⟨he, bel⟩ => ?_
  subst he
  exact ⟨_, rfl, _, _, _, [], _, [], hW', trodAll_mk1 (shut_bool Try.underlying4 _), (trodAll_cons_mk (Below.trod laidOut (by kernel_rfl) (of_decide_eq_true (by kernel_rfl)) k0 bel lt0) (trodAll_cons_mk (Below.trod laidOut (by kernel_rfl) (of_decide_eq_true (by kernel_rfl)) k1 bel lt1) (trodAll_cons_mk (shut_int Try.underlying3 w2) trodAll_mk0))), rfl, bel.frame _, fun h => by cases h⟩

theorem over : Rows.sealNoneRow.holds Try.pinned (OpenSpec.ofChange Rows.sealNoneSpec) :=
  OpenClaim.holds_of_wide 16 Try.f16 rfl rfl rfl rfl rfl rfl rfl ⟨rfl, rfl, rfl, rfl, rfl⟩ rfl rfl rfl rfl rfl (by kernel_rfl) Try.func16 (by kernel_rfl)
    (of_decide_eq_true (by kernel_rfl)) (by unfold Func.isWrapper; first | (rw [if_pos (by decide +kernel)]; kernel_rfl) | (rw [if_neg (by decide +kernel)]; exact ⟨rfl, rfl⟩))
    (fun os started H enc _ => lifted os started H enc)

theorem proved : Rows.SealNoneSaid := over
#print axioms proved

end Go.Proofs.Ytjllejlgclfahaa.sealNone
