/-
  SealOwn: a text that was sealed is kept as it was, whoever turns what was handed in, or told. No condition.
-/
import Derived.Test.YtjllejlgclfahaaSealAwake
import Derived.ProofKit
import Derived.OpenShut
import Derived.ChangeOld
namespace Go.Proofs.Ytjllejlgclfahaa.sealOwn
open Go.RowKit Go.MapKept

/-- append([]byte{}, plain...): a copy in new memory. -/
theorem append_copy {w : World} {ad : Addr} {l : List UInt8} {c : Nat} (h : BytesAt w (some ad) l) (hb : l.length ≤ 1000000000) :
    ∃ v' w', (Builtin.append_ #[72, 72] 72 #[.slice (some ⟨w.heap.size, 0, none⟩) 0 0, .slice (some ad) l.length c]).run Try.prog (w.alloc (.cells #[] 5)) = .ok v' w' ∧ Own 5 1 w' v' l.length (bcells l) ∧ (∀ k, v'.ownBlock = some k → w.heap.size ≤ k) ∧ Below w.heap.size w w' := by
  obtain ⟨i, hi, hz, hs, hby⟩ := info_parts' (P := Try.prog) (e := 5) (z := some (.int .u8 0)) (s := 1) (b := 1) (by kernel_rfl)
  have hown0 : (w.alloc (.cells #[] 5)).ownsRow 0 5 1 (.slice (some ⟨w.heap.size, 0, none⟩) 0 0) 0 [] := World.ownsRow_made w #[] 0 (Nat.zero_le _) (by unfold maxLen; omega) rfl
  have hbel : Below w.heap.size w (w.alloc (.cells #[] 5)) := (Below.refl _ _).alloc (Nat.le_refl _) _
  obtain ⟨v', w', ha, ho, hg, _, hk⟩ := run_append_own_at (P := Try.prog) (w.alloc (.cells #[] 5)) 0 72 72 5 i (.int .u8 0) 1 1 Try.underlying72 hi hz hs hby rfl (by decide) _ 0 [] hown0 ad l.length c (bcells l) (by simp [bcells])
    (fun j u hu => by
      rcases h.below hbel with rfl | ⟨b, off, e, hc⟩
      · simp [bcells] at hu
      · cases e
        have hjl : j < l.length := by
          have := (List.getElem?_eq_some_iff.1 hu).1
          simpa [bcells] using this
        have e1 : (⟨b, off, none⟩ : Addr).add j = ⟨b, off + j, none⟩ := by unfold Addr.add; split <;> simp_all
        rw [e1, hc j hjl]
        simp [bcells, hjl] at hu
        simp [List.getD, hjl, hu])
    (by intro u hu; obtain ⟨x, _, rfl⟩ := List.mem_map.1 hu; rfl) (by unfold maxLen; omega) (by omega) (Nat.zero_le _)
  refine ⟨v', w', ha, by simpa [Own] using ho, fun k hkk => ?_, ?_⟩
  · rcases hk with h | h
    · rw [h] at hkk; cases hkk; exact Nat.le_refl _
    · rw [h] at hkk; cases hkk; simp
  · exact hbel.grown hg (by simp) (fun k e => by cases e; exact Nat.le_refl _)
/-- A cell of an owned row of bytes: what is there, and that it may be written. -/
theorem own_byte {w : World} {v : Value} {n : Nat} {l : List UInt8} (h : Own 5 1 w v n (bcells l)) (hn : 0 < n) : ∃ g cap, v = .slice (some ⟨g, 0, none⟩) n cap ∧ v.ownBlock = some g ∧ ∀ j, j < n → ∃ y, w.cell? ⟨g, j, none⟩ = some (.int .u8 y) ∧ w.frozen? ⟨g, j, none⟩ = false := by
  obtain ⟨a, cap, rfl, hc, hm, hl, ha⟩ := h.open
  rcases ha with ⟨_, h0, _⟩ | ⟨g, cs, rfl, hg, _, ht⟩
  · omega
  · refine ⟨g, cap, rfl, rfl, fun j hj => ⟨((l.getD j 0).toNat : Int), ?_, frozen_of_blk hg j⟩⟩
    refine own_cell hg ht (by omega) ?_
    have : j < l.length := by simp [bcells] at hl; omega
    simp [bcells, List.getD, this]

set_option maxRecDepth 100000 in
set_option maxHeartbeats 4000000 in
theorem walk (W : World) (a0 : Option Addr) (len0 cap0 : Nat) (z0 : List Int) (w0 : IsRow .u8 W a0 len0 cap0 z0) (a1 : Int) (_ : (Lit.int .i64 a1).wf = true) :
    Calls Try.prog 14 #[.slice a0 len0 cap0, .int .i64 a1] W fun e w' => e = .returned (.bool true) ∧ Below W.heap.size W w' := by
  obtain ⟨l, rfl, hby, hnil, _⟩ := BytesAt.of_row w0
  have hm := i64_and255
  clear w0
  by_cases h0 : l.length = 0
  · have hd0 : ((l.length : Int) == 0) = true := by simp [h0]
    clear hby hnil
    generalize l.length = n at *
    subst h0
    go_enter Try.func14, Try.ntmps14
    go_wp2_with fail
    refine (seal_awake W).mono ?_
    rintro e w3 ⟨rfl, hB3⟩
    go_wp2_with fail
    go_ret
    exact ⟨rfl, hB3⟩
  · by_cases hlen : l.length ≤ 200
    · have hd : decide (200 < (l.length : Int)) = false := by simp; omega
      have hd0 : ((l.length : Int) == 0) = false := by simp; exact fun h => h0 (by rw [h]; rfl)
      obtain ⟨ad, rfl⟩ : ∃ ad, a0 = some ad := by
        cases a0 with
        | none => exact absurd (by rw [hnil rfl]; rfl) h0
        | some ad => exact ⟨ad, rfl⟩
      have hl2 : l.length ≤ 1000000000 := by omega
      obtain ⟨q, hq⟩ : ∃ q : Int, q = a1 % 256 := ⟨_, rfl⟩
      have hq0 : 0 ≤ q ∧ q < 256 := by omega
      have hlp : 0 < l.length := by omega
      obtain ⟨m, hm2⟩ : ∃ m : Nat, (m : Int) = q % l.length := ⟨(q % l.length).toNat, by have := Int.emod_nonneg q (show (l.length : Int) ≠ 0 by omega); omega⟩
      have hmn : m < l.length := by have := Int.emod_lt_of_pos q (show (0 : Int) < l.length by omega); omega
      have e1 := hq.symm
      have e2 : Int.tmod q l.length = m := by rw [Int.tmod_eq_emod_of_nonneg hq0.1]; exact hm2.symm
      have HBY := Lib.hid hby
      clear hq hm2 hnil hby h0
      go_enter Try.func14, Try.ntmps14
      go_wp2_with fail
      refine (seal_new 1 W).mono ?_
      rintro e x1 ⟨p, F1, rfl, h1, hF1, hB1⟩
      rw [show max (1 : Int) 1 = 1 from rfl] at h1
      have hstr0 := bytes_string (HBY.out.below hB1) cap0
      obtain ⟨vb, x2, hra, hob, hbb, hB2⟩ := append_copy (c := cap0) (HBY.out.below hB1) hl2
      obtain ⟨gb, cb, rfl, hgb, hcb⟩ := own_byte hob hlp
      have hs1 := hB1.size
      have hs2 := hB2.size
      have hgb1 : x1.heap.size ≤ gb := hbb gb hgb
      have hgb2 : gb < x2.heap.size := hob.lt hgb
      have h2 := h1.below hB2
      have hF1b : ¬ F1 gb := fun h => by have := h1.lt _ h; omega
      clear h1 hcb
      go_wp2_with (at_builtin; refine wpl_append rfl _ _ _ rfl rfl rfl hra ?_)
      clear hra hstr0
      obtain ⟨ab', cb', eb, _, hba, _⟩ := hob.bytes
      cases eb
      refine (seal_seal p F1 1 [] 0 (some ⟨gb, 0, none⟩) l cb x2 h2 (by decide) hba (by intro h; cases h) hl2).mono ?_
      rintro e x3 ⟨rfl, ⟨F3, h3, hF3⟩, hc3⟩
      replace h3 : Vault x3 p F3 1 [⟨0, l, []⟩] := h3
      have hF3b : ¬ F3 gb := fun h => by rcases hF3 _ h with h | h; exact hF1b h; omega
      have hF3w : ∀ k, F3 k → W.heap.size ≤ k := fun k hk => by rcases hF3 k hk with h | h; exact hF1 k h; omega
      have hB3 : Below W.heap.size W x3 := (hB1.trans (hB2.mono hs1)).trans (hc3.below (by omega) hF1)
      have hob3 := hob.chg hc3 (fun k hk h => by rw [hgb] at hk; cases hk; exact hF1b h)
      clear h2 hc3 hob hba hB1 hB2
      go_wp2_with fail
      refine (seal_share_yes p F3 1 _ 3 1 0 ⟨0, l, []⟩ x3 h3 rfl rfl (by decide)).mono ?_
      rintro e x4 ⟨rfl, h4, hc4⟩
      replace h4 : Vault x4 p F3 1 [⟨0, l, [3]⟩] := h4
      have hB4 : Below W.heap.size W x4 := hB3.trans (hc4.below hB3.size hF3w)
      have hob4 := hob3.chg hc4 (fun k hk h => by rw [hgb] at hk; cases hk; exact hF3b h)
      obtain ⟨gb', cb', eb, _, hcb⟩ := own_byte hob4 hlp
      cases eb
      obtain ⟨y, hy, hyf⟩ := hcb m hmn
      have h5 : ∀ u, Vault (x4.setCell ⟨gb, m, none⟩ u) p F3 1 [⟨0, l, [3]⟩] := fun u => h4.chg ((Chg.refl (· = gb) x4).put m u) (fun k hk e => hF3b (e ▸ hk))
      have hB5 : ∀ u, Below W.heap.size W (x4.setCell ⟨gb, m, none⟩ u) := fun u => hB4.setCell (by show W.heap.size ≤ gb; omega) u
      clear h3 hc4 hob3 hob4 hcb h4 hB3 hB4
      go_wp2_with fail
      refine (seal_open_yes p F3 1 _ 0 1 0 ⟨0, l, [3]⟩ _ (h5 _) rfl rfl hl2).mono ?_
      intro e x6 ho
      rw [show openC 1 ⟨0, l, [3]⟩ 0 = some l from if_pos ⟨by simp, rfl⟩] at ho
      obtain ⟨a6, cp6, rfl, hx6, hb6, hc6⟩ := ho.yes
      have h6 := (h5 _).chg hc6 (fun _ _ h => h)
      have hB6 := (hB5 _).trans (hc6.below (hB5 _).size (fun _ h => h.elim))
      have hstr6 := hx6.string
      obtain ⟨gx, cx, ex, hgx, hcx⟩ := own_byte hx6 hlp
      cases ex
      obtain ⟨y6, hy6, hyf6⟩ := hcx m hmn
      have hgx1 := hb6 gx hgx
      have hgxW : W.heap.size ≤ gx := Nat.le_trans (hB5 _).size hgx1
      have hF3x : ¬ F3 gx := fun h => by have := (h5 (.int .u8 0)).lt _ h; simp [World.setCell] at this hgx1; omega
      have h7 : ∀ u, Vault (x6.setCell ⟨gx, m, none⟩ u) p F3 1 [⟨0, l, [3]⟩] := fun u => h6.chg ((Chg.refl (· = gx) x6).put m u) (fun k hk e => hF3x (e ▸ hk))
      have hB7 : ∀ u, Below W.heap.size W (x6.setCell ⟨gx, m, none⟩ u) := fun u => hB6.setCell (by show W.heap.size ≤ gx; exact hgxW) u
      clear hB6 h6 hcx hb6 hc6 ho hx6 h5 hB5 hy hyf hF3 hF1 hF3w hgb1 hgb2
      go_wp2_with fail
      refine (seal_open_yes p F3 1 _ 0 1 0 ⟨0, l, [3]⟩ _ (h7 _) rfl rfl hl2).mono ?_
      intro e x8 ho
      rw [show openC 1 ⟨0, l, [3]⟩ 0 = some l from if_pos ⟨by simp, rfl⟩] at ho
      obtain ⟨a8, cp8, rfl, hx8, hb8, hc8⟩ := ho.yes
      have hB8 := (hB7 _).trans (hc8.below (hB7 _).size (fun _ h => h.elim))
      have hstr8 := hx8.string
      clear h7 hB7 hy6 hyf6 hx8 hb8 hc8 ho hstr6
      go_wp2_with fail
      refine (seal_awake x8).mono ?_
      rintro e x9 ⟨rfl, hB9⟩
      go_wp2_with fail
      go_ret
      exact ⟨rfl, hB8.trans (hB9.mono hB8.size)⟩
    · have hd : decide (200 < (l.length : Int)) = true := by simp; omega
      have hd0 : ((l.length : Int) == 0) = false := by simp; exact fun h => h0 (by rw [h]; rfl)
      clear hby hnil
      generalize l.length = n at *
      clear h0
      go_enter Try.func14, Try.ntmps14
      go_wp2_with fail
      refine (seal_awake W).mono ?_
      rintro e w3 ⟨rfl, hB3⟩
      go_wp2_with fail
      go_ret
      exact ⟨rfl, hB3⟩

/-! ### the row's step -/
open Go.ChangeShapes Go.WideShapes Go.ChangeAt
set_option linter.unusedVariables false
theorem own : ownKnob Try.prog.godebug = none := by kernel_rfl
theorem laidOut : laidOutB Try.prog = true := by kernel_rfl
set_option maxRecDepth 100000 in
theorem lifted (os : Os) (started : os.Started) (H : Type) (enc : TypeId × Value → H) :
    ReturnsInHanded {} Try.checked os 14 .any (Rows.sealOwnSpec.pre6 enc Try.prog Try.f14 Rows.sealOwnRow.domain false) (Rows.sealOwnSpec.post enc Try.prog Try.f14 false true false false) := by
  refine returnsInHanded_of_change (C := Try.checked) own started (by kernel_rfl) Try.func14
    (ChangeSpec.witness6 (enc := enc) (C := Try.checked) false ⟨#[], #[.slice none 0 0, .int .i64 0], []⟩ 8 (by kernel_rfl) (by kernel_rfl) (by kernel_rfl) (by kernel_rfl)) ?_
  intro W base args ds gs before hval0 hW hcnd _
  have hval : ∀ (j : Nat) t v, Try.f14.params[j]? = some t → args[j]? = some v → Value.okWide Try.prog W .any base t v := hval0
  have hW' := hW
  obtain ⟨p, q, hA0, hV, rfl, hfz, hnd⟩ := hW
  have hA : DataW.TrodAll enc Try.prog W 0 (fun _ => true) true Try.f14.params.toList args.toList ds p := hA0
  rw [Try.params14] at hA hval
  obtain ⟨v0, vs0, d0, ds0, p0, q0, hargs, rfl, rfl, h0, r0⟩ := trodAll_cons hA
  obtain ⟨v1, vs1, d1, ds1, p1, q1, rfl, rfl, rfl, h1, r1⟩ := trodAll_cons r0
  obtain ⟨rfl, rfl, rfl⟩ := trodAll_nil r1
  obtain rfl : args = #[v0, v1] := by cases args; simp_all
  obtain ⟨rfl, rfl⟩ := trodVars_none hV
  obtain ⟨a0, len0, cap0, rfl⟩ := okWide_slice Try.underlying72 (hval 0 72 v0 rfl rfl)
  have k0 := h0
  have lt0 : ∀ x ∈ p0, x.block < W.heap.size := by obtain ⟨m, hm⟩ := k0; exact DataW.trod_lt m _ _ _ hm
  obtain ⟨z0, w0⟩ : ∃ zs, IsRow .u8 W a0 len0 cap0 zs := by
    obtain ⟨fuel, hf⟩ := h0
    rcases open_ints Try.underlying72 Try.underlying5 (by kernel_rfl) hf with ⟨hcs, _⟩ | ⟨x, l, c, zs, hcs, _, hl, hm, hz, _, hcell, hwz⟩
    · simp [Value.cells] at hcs
      obtain ⟨rfl, rfl, rfl⟩ := hcs
      exact ⟨[], .inl ⟨rfl, rfl, rfl, rfl⟩⟩
    · simp [Value.cells] at hcs
      obtain ⟨rfl, rfl, rfl⟩ := hcs
      exact ⟨zs, .inr ⟨_, rfl, hl, hm, by simpa using hz, hcell, hwz⟩⟩
  obtain ⟨a1, rfl, rfl, rfl, w1⟩ := open_int Try.underlying3 (hval 1 3 v1 rfl rfl) h1
  clear hA0 hval0
  refine (walk W a0 len0 cap0 z0 w0 a1 w1).mono fun e W' ⟨he, bel⟩ => ?_
  subst he
  exact ⟨_, rfl, _, _, _, [], _, [], hW', trodAll_mk1 (shut_bool Try.underlying4 _), (trodAll_cons_mk (Below.trod laidOut (by kernel_rfl) (of_decide_eq_true (by kernel_rfl)) k0 bel lt0) (trodAll_cons_mk (shut_int Try.underlying3 w1) trodAll_mk0)), rfl, bel.frame _, fun h => by cases h⟩

theorem over : Rows.sealOwnRow.holds Try.pinned (OpenSpec.ofChange Rows.sealOwnSpec) :=
  OpenClaim.holds_of_wide 14 Try.f14 rfl rfl rfl rfl rfl rfl rfl ⟨rfl, rfl, rfl, rfl, rfl⟩ rfl rfl rfl rfl rfl (by kernel_rfl) Try.func14 (by kernel_rfl)
    (of_decide_eq_true (by kernel_rfl)) (by unfold Func.isWrapper; first | (rw [if_pos (by decide +kernel)]; kernel_rfl) | (rw [if_neg (by decide +kernel)]; exact ⟨rfl, rfl⟩))
    (fun os started H enc _ => lifted os started H enc)

theorem proved : Rows.SealOwnSaid := over
#print axioms proved

end Go.Proofs.Ytjllejlgclfahaa.sealOwn
