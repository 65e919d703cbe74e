/-
  All that is sent is seen, in order; a text is seen when enough have shared it: tolseylaw27.AdveSees.
-/
import Derived.Test.YtcfhkpjheemkgaaTextArgs
import Derived.Test.YtcfhkpjheemkgaaSeqT
import Derived.Deep.DeepCutAuto
namespace Go.Proofs.Ytcfhkpjheemkgaa.adveSees
set_option linter.unusedSectionVars false
set_option linter.unnecessarySimpa false
set_option linter.unusedSimpArgs false
set_option linter.unusedVariables false
open Go.RowKit Go.MapKept

theorem bads3 : badsOf cfgA [3] = [3] := by decide
/-- What was seen so far is small. -/
structure SeenOk (S : List SeenT) (n : Nat) : Prop where
  len : S.length ≤ n
  each : ∀ x ∈ S, x.1.length ≤ 1000000000 ∧ x.2.2.length ≤ 1000000000
theorem SeenOk.hear {S : List SeenT} {n : Nat} (h : SeenOk S n) {t : List UInt8} (ht : t.length ≤ 1000000000) : SeenOk (S ++ [(t, 0, [])]) (n + 1) :=
  ⟨by have := h.len; simp; omega, fun x hx => by
    rcases List.mem_append.1 hx with hx | hx
    · exact h.each x hx
    · rw [List.mem_singleton] at hx; subst hx; exact ⟨ht, Nat.zero_le _⟩⟩
theorem SeenOk.open {S : List SeenT} {n k : Nat} (h : SeenOk S n) (need : Int) {C : List Ciph} (hC : ∀ x ∈ C, x.plain.length ≤ 1000) (OL : List Int) : SeenOk (openN need C (S, OL) k).1 (n + k) :=
  ⟨by have := openN_len need C (S, OL) k; have := h.len; dsimp only at *; omega, fun x hx => by
    rcases openN_mem need C (S, OL) k x hx with hx | ⟨e, y, hy, e2⟩
    · exact h.each x hx
    · rw [e, e2]; exact ⟨Nat.zero_le _, Nat.le_trans (hC y hy) (by decide)⟩⟩
theorem SeenOk.mono {S : List SeenT} {n k : Nat} (h : SeenOk S n) (hk : n ≤ k) : SeenOk S k := ⟨Nat.le_trans h.len hk, h.each⟩
/-- The world's ciphers: the first n texts. -/
structure COk (LT : List TextP) (n i : Nat) (X : WX) : Prop where
  need : X.need = 2
  len : X.C.length = n
  le : n ≤ LT.length
  n6 : n ≤ 6
  pl : X.C.map Ciph.plain = (LT.take n).map TextP.t
  sh : ∀ x ∈ X.C, x.shares.length ≤ i
  small : ∀ k (h : k < n), (LT[k]'(by omega)).t.length ≤ 200
  tl : X.T.length ≤ n
theorem COk.plain {LT : List TextP} {n i : Nat} {X : WX} (h : COk LT n i X) (k : Nat) (hk : k < n) : (X.C[k]'(by rw [h.len]; exact hk)).plain = (LT[k]'(by have := h.le; omega)).t := by
  have h1 := congrArg (fun L => L[k]?) h.pl
  rw [List.getElem?_map, List.getElem?_map, List.getElem?_take, if_pos hk, List.getElem?_eq_getElem (by rw [h.len]; exact hk), List.getElem?_eq_getElem (by have := h.le; omega)] at h1
  exact Option.some.inj h1
theorem COk.short {LT : List TextP} {n i : Nat} {X : WX} (h : COk LT n i X) : ∀ x ∈ X.C, x.plain.length ≤ 1000 := by
  intro x hx
  obtain ⟨k, hk, rfl⟩ := List.mem_iff_getElem.1 hx
  rw [h.plain k (by rw [← h.len]; exact hk)]
  exact Nat.le_trans (h.small k (by rw [← h.len]; exact hk)) (by decide)
theorem COk.share {LT : List TextP} {n i : Nat} {X : WX} (h : COk LT n i X) (who c : Int) : COk LT n (i + 1) { X with C := shareC X.C who c } :=
  ⟨h.need, by show (shareC X.C who c).length = n; rw [shareC_len]; exact h.len, h.le, h.n6, by show (shareC X.C who c).map _ = _; rw [shareC_map]; exact h.pl, shareC_shares h.sh, h.small, h.tl⟩
/-- What is wanted: as seen; its texts lie where they came in. -/
structure WantOk (W : World) (S : List SeenT) (WX : List SeenX) : Prop where
  x : WX.map SeenX.x = S
  t : ∀ s ∈ WX, ∃ a c, s.tv = .slice a s.t.length c ∧ BytesAt W a s.t
theorem WantOk.snoc {W : World} {S : List SeenT} {WX : List SeenX} (h : WantOk W S WX) (s : SeenX) {a : Option Addr} {c : Nat} (e : s.tv = .slice a s.t.length c) (hb : BytesAt W a s.t) : WantOk W (S ++ [s.x]) (WX ++ [s]) :=
  ⟨by rw [List.map_append, h.x]; rfl, fun q hq => by
    rcases List.mem_append.1 hq with hq | hq
    · exact h.t q hq
    · rw [List.mem_singleton] at hq; subst hq; exact ⟨a, c, e, hb⟩⟩
theorem WantOk.len {W : World} {S : List SeenT} {WX : List SeenX} (h : WantOk W S WX) : WX.length = S.length := by rw [← h.x, List.length_map]
theorem Sys.wantPush {w : World} {m : Nat → Thing} {l : List Thing} {v : Value} {n : Nat} {WX : List SeenX} (s : SeenX) (h : Sys w m (own 60 3 v n (flatS WX ++ seenCells s) :: rowB s.mv s.m :: rowsM WX :: l)) : Sys w m (own 60 3 v n (flatS (WX ++ [s])) :: rowsM (WX ++ [s]) :: l) := by
  rw [flatS_snoc]
  exact (Sys.addM s ((h.front 1 rfl).front 2 rfl)).swap
set_option maxRecDepth 100000 in
set_option maxHeartbeats 16000000 in
theorem walk (W : World) (a0 : Option Addr) (len0 cap0 : Nat) (LM : List MsgP) (hLM : LM.length = len0) (hrow : RawSl W (.slice a0 len0 cap0) LM.length (LM.flatMap MsgP.cells)) (hraw : ∀ P ∈ LM, P.Raw W) (hsum : (LM.map MsgP.size).sum ≤ 1048576)
    (a1 : Option Addr) (len1 cap1 : Nat) (LT : List TextP) (hLT : LT.length = len1) (hrowT : RawSl W (.slice a1 len1 cap1) LT.length (LT.flatMap TextP.cells)) (hrawT : ∀ P ∈ LT, P.Raw W) (_ : (LT.map fun P => P.t.length).sum ≤ 1048576)
    (a2 : Option Addr) (len2 cap2 : Nat) (z2 : List Int) (w2 : IsRow .i64 W a2 len2 cap2 z2) :
    Calls Try.prog 9 #[.slice a0 len0 cap0, .slice a1 len1 cap1, .slice a2 len2 cap2] W fun e w' => e = .returned (.bool true) ∧ Below W.heap.size W w' := by
  obtain ⟨hi2, hlen2⟩ := IntsAt.of_row w2
  obtain ⟨is, his⟩ : ∃ ls, ls = z2.take len2 := ⟨_, rfl⟩
  rw [← his] at hi2 hlen2
  have HI2 := Lib.hid hi2
  have HLEN2 := Lib.hid hlen2
  have hsz1 := sizes_each hsum
  have HAT : Hid (∀ P ∈ LM, P.At W ∧ P.wf ∧ P.size ≤ 2000000 ∧ P.Raw W) := fun P hP => ⟨(hraw P hP).at_ (by have := hsz1 P hP; omega), (hraw P hP).wf, by have := hsz1 P hP; omega, hraw P hP⟩
  have HROW := Lib.hid hrow
  have HLM := Lib.hid hLM
  have HROWT := Lib.hid hrowT
  have HLT := Lib.hid hLT
  have HRAWT := Lib.hid hrawT
  have hm3 := i64_and3
  clear hi2 hlen2 his w2 hsz1 hrow hraw hsum hLM hLT hrowT hrawT
  go_enter Try.func9, Try.ntmps9
  go_wp2_with fail
  refine (world_new 1 (Sys.start W)).mono ?_
  rintro e x1 ⟨p, d, rfl, h1⟩
  obtain ⟨X0, hX0⟩ : ∃ X : WX, X = ⟨[], fun _ => [], min (max 1 0) 100 + 1, []⟩ := ⟨_, rfl⟩
  rw [← hX0] at h1
  have H1 := Lib.hid (h1.putN 0 rfl)
  have HC0 : Hid (COk LT 0 0 X0) := by rw [hX0]; exact ⟨rfl, rfl, Nat.zero_le _, Nat.zero_le _, rfl, (fun _ h => by cases h), (fun k h => by omega), Nat.le_refl _⟩
  obtain ⟨ni, x2, EN2, EX2, ES2, H2⟩ := Sys.box H1.out (.cells #[.int .i64 3] 3 (0, 0))
  clear h1 hX0
  go_upto_region 4 with fail
  go_wp2_with fail
  rw [EX2.out, EN2.out]
  have hc := adve_new (kw := 1) (p := p) cfgA ⟨by decide, by decide, by decide⟩ [3] (some ⟨ni, 0, none⟩) 1 1 rfl (by decide) (fun y m' hs => ints_const (t := [3]) (hs.nth 0 rfl)) H2.out rfl
  refine hc.mono ?_
  clear hc
  rintro e w3 ⟨pa, rfl, h3⟩
  rw [bads3] at h3
  have H3 : Hid (Sys w3 (two (worldT p d X0) (watchT pa p [3] [] (oneM []))) [base W]) := h3.tail
  clear h3
  go_wp2_with fail
  go_loopw [9, 10] (fun nv iv wr => ∃ (i : Nat) (X : WX), i ≤ len1 ∧ i ≤ 6 ∧ iv = .int .i64 (i : Int) ∧ nv = .int .i64 (i : Int) ∧ Hid (COk LT i 0 X) ∧ Sys wr (two (worldT p d X) (watchT pa p [3] [] (oneM []))) [base W]) (fun _ iv _ => 6 - (intOf iv).toNat)
  case atStart => exact ⟨0, X0, by omega, by omega, rfl, rfl, HC0.out, H3.out⟩
  case round =>
    obtain ⟨i, X, hi, hi6, rfl, rfl, HCX, hR⟩ := hrel
    have HR := Lib.hid hR
    clear hR
    by_cases hgo : i < len1 ∧ i < 6
    · obtain ⟨hlt, h6⟩ := hgo
      have hil : (i : Int) < (len1 : Int) := by omega
      have hi3 : (i : Int) < 6 := by omega
      have hiw : IntKind.i64.wrap ((i : Int) + 1) = (i : Int) + 1 := by rw [IntKind.wrap_i64]; omega
      have hil2 : i < LT.length := by rw [HLT.out]; exact hlt
      obtain ⟨tb, tof, rfl, q0⟩ := HROWT.out.text (memBaseD (W := W) HR.out (by simp)) hil2
      have hrt := HRAWT.out LT[i] (List.getElem_mem hil2)
      obtain ⟨PT, hPT⟩ : ∃ P, P = LT[i] := ⟨_, rfl⟩
      rw [← hPT] at q0 hrt
      obtain ⟨pv, pt⟩ := PT
      replace hrt : RawSl W pv pt.length (bcells pt) := hrt
      obtain ⟨ta, tc, rfl, -⟩ := id hrt
      have hby : BytesAt wr ta pt ∧ pt.length = pt.length ∧ (ta = none → pt = []) := RawSl.bytesAt hrt (memBaseD (W := W) HR.out (by simp))
      replace q0 : wr.cell? ⟨tb, tof + i, none⟩ = some (.slice ta pt.length tc) := q0
      obtain ⟨nt, hnt⟩ : ∃ n, n = pt.length := ⟨_, rfl⟩
      rw [← hnt] at q0
      have HLT1 := Lib.hid hlt
      have H61 := Lib.hid h6
      have HBY := Lib.hid hby
      have HNT := Lib.hid hnt
      have HPT := Lib.hid hPT
      clear hlt h6 hi hi6 hby hrt hnt hPT
      by_cases hbig : nt ≤ 200
      · have hb1 : ¬ ((nt : Int) > 200) := by omega
        have hb2 : ¬ ((200 : Int) < (nt : Int)) := by omega
        have HBIG := Lib.hid hbig
        clear hbig
        go_wp2_with fail
        clear q0
        have hmk := world_make ((i : Int) % 4) 0 1 ta pt tc (by omega) (by decide) HR.out rfl (by have := HCX.out.len; have := HCX.out.n6; omega) (by have := HCX.out.tl; have := HCX.out.n6; omega) HBY.out.1 HBY.out.2.2 (by have := HBIG.out; have := HNT.out; omega)
        rw [← HNT.out] at hmk
        refine hmk.mono ?_
        clear hmk
        rintro e x5 ⟨he, h⟩
        rw [two0] at h
        obtain ⟨EX, hEX⟩ : ∃ E : EnvX, E = ⟨(i : Int) % 4, 0, 1, (X.C.length : Int) + 1⟩ := ⟨_, rfl⟩
        rw [← hEX] at h
        have HCX2 : Hid (COk LT (i + 1) 0 (X.made EX pt)) := ⟨HCX.out.need, by show (X.C ++ _).length = _; rw [List.length_append, HCX.out.len]; rfl, by rw [HLT.out]; exact HLT1.out, H61.out, by
            show (X.C ++ _).map _ = _
            rw [List.map_append, HCX.out.pl, List.take_succ_eq_append_getElem hil2, List.map_append, ← HPT.out]; rfl, fun x hx => by
            rcases List.mem_append.1 hx with hx | hx
            · exact HCX.out.sh x hx
            · rw [List.mem_singleton] at hx; subst hx; exact Nat.le_refl _, fun k hk => by
            by_cases e : k = i
            · subst e; rw [← HPT.out]; show pt.length ≤ 200; rw [← HNT.out]; exact HBIG.out
            · exact HCX.out.small k (by omega), by
            have := (X.ext_digest (envB EX)).len.2
            have := HCX.out.tl
            show (addT X.T (envB EX)).length ≤ _
            have := (addT_length X.T (envB EX)).2
            omega⟩
        obtain rfl := he
        have H5 := Lib.hid h
        clear h hEX
        go_wp2_with fail
        go_roundw
        case rel => exact ⟨i + 1, _, by have := HLT1.out; omega, by have := H61.out; omega, by go_num, by go_num, HCX2, H5.out⟩
        case measure => simp [intOf]; have := H61.out; omega
      · have hb1 : (nt : Int) > 200 := by omega
        have hb2 : (200 : Int) < (nt : Int) := by omega
        go_wp2_with fail
        refine (adve_awake _).mono ?_
        rintro e y2 ⟨rfl, hB⟩
        have HBE := Lib.hid ((memBaseD (W := W) HR.out (by simp)).trans (hB.mono (memBaseD (W := W) HR.out (by simp)).size))
        clear hB
        go_wp2_with fail
        go_ret
        exact ⟨rfl, HBE.out⟩
    · go_upto_region 9 with fail
      go_cut [35] from 28 to 34 (fun tv wx => tv = .bool false ∧ Sys wx (two (worldT p d X) (watchT pa p [3] [] (oneM []))) [base W])
      case first =>
        by_cases hlt : i < len1
        · have hil : (i : Int) < (len1 : Int) := by omega
          have hi3 : ¬ ((i : Int) < 6) := by omega
          go_wp2_with fail
          go_meet
          case rel => exact ⟨rfl, HR.out⟩
        · have hil : ¬ ((i : Int) < (len1 : Int)) := by omega
          go_wp2_with fail
          go_meet
          case rel => exact ⟨rfl, HR.out⟩
      case rest =>
        obtain ⟨rfl, hRc⟩ := hcut
        have HRC := Lib.hid hRc
        clear hRc HR hgo hi hi6 HC0 H2 H3 H1 EN2 EX2 ES2
        obtain ⟨n, hn⟩ : ∃ n, n = i := ⟨_, rfl⟩
        rw [← hn] at HCX ⊢
        clear hn
        have hmm := @run_makeMap Try.prog
        have h2 := HRC.out.push (t := mapT intKey wc.heap.size []) ((Chg.refl _ _).alloc (.map #[] 0)) (F := (· = wc.heap.size)) ⟨MapOf.made _ _ rfl, rfl⟩ (fun k e => by have e : k = _ := e; omega)
        obtain ⟨ob, hob⟩ : ∃ n, n = wc.heap.size := ⟨_, rfl⟩
        obtain ⟨x4, hx4⟩ : ∃ y, y = wc.alloc (.map #[] 0) := ⟨_, rfl⟩
        have hmk := hmm 102 wc
        rw [← hx4, ← hob] at h2 hmk
        have h3 := (h2.nilM).push (F := fun _ => False) (t := own 60 3 (.slice none 0 0) 0 []) (Chg.refl _ _) ⟨Own.nil _ _ _, by funext k; simp [Value.ownBlock]⟩ (fun _ h => h.elim)
        have H4 : Hid (Sys x4 (two (worldT p d X) (watchT pa p [3] [] (oneM []))) (own 60 3 (.slice none 0 0) 0 (flatS []) :: rowsM [] :: mapT intKey ob (boolM []) :: [base W])) := h3
        clear h2 h3 hx4 hob hmm HRC
        go_wp2_with fail
        clear hmk
        go_loopw [11, 13] (fun wv iv wr => ∃ (i : Nat) (X : WX) (S : List SeenT) (OL : List Int) (WX_ : List SeenX) (wa : Option Addr) (wn wc : Nat), i ≤ len2 ∧ i ≤ 30 ∧ iv = .int .i64 (i : Int) ∧ wv = .slice wa wn wc ∧ Hid (wn = S.length) ∧ Hid (COk LT n i X) ∧ Hid (SeenOk S (7 * i)) ∧ Hid (WantOk W S WX_) ∧ Sys wr (two (worldT p d X) (watchT pa p [3] S (oneM OL))) (own 60 3 (.slice wa wn wc) wn (flatS WX_) :: rowsM WX_ :: mapT intKey ob (boolM OL) :: [base W])) (fun _ iv _ => 30 - (intOf iv).toNat)
        case atStart => exact ⟨0, X, [], [], [], none, 0, 0, by omega, by omega, rfl, rfl, rfl, HCX.out, ⟨Nat.le_refl _, fun _ h => by cases h⟩, ⟨rfl, fun _ h => by cases h⟩, H4.out⟩
        case round =>
          clear HCX H4
          obtain ⟨i, X, S, OL, WX_, wa, wn, wc, hi, hi30, rfl, rfl, HWN, HCX, HSO, HWO, hR⟩ := hrel
          have HR := Lib.hid hR
          clear hR
          by_cases hgo : i < len2 ∧ i < 30
          · obtain ⟨hlt, h30⟩ := hgo
            have hil : (i : Int) < (len2 : Int) := by omega
            have hi3 : (i : Int) < 30 := by omega
            have hiw : IntKind.i64.wrap ((i : Int) + 1) = (i : Int) + 1 := by rw [IntKind.wrap_i64]; omega
            have HLT2 := Lib.hid hlt
            have H30 := Lib.hid h30
            clear hlt h30 hi hi30
            obtain ⟨x, hx⟩ : ∃ x, x = is.getD i 0 := ⟨_, rfl⟩
            obtain ⟨ib, io, rfl⟩ : ∃ b off, a2 = some ⟨b, off, none⟩ := IntsAt.some_ HI2.out (by rw [HLEN2.out]; exact HLT2.out)
            have HCI : Hid (∀ y, Below W.heap.size W y → y.cell? ⟨ib, io + i, none⟩ = some (.int .i64 x)) := fun y hB => by
              rcases HI2.out.below hB with h0 | ⟨b, off, e, hc⟩
              · have h1 := HLEN2.out; have h2 := HLT2.out; rw [h0] at h1; simp at h1; omega
              · cases e; rw [hx]; exact hc i (by rw [HLEN2.out]; exact HLT2.out)
            clear hx
            go_upto_if 69 with fail
            go_cut [11, 14, 15] from 56 to 194 (fun wv _ _ wx => ∃ (S2 : List SeenT) (WX2 : List SeenX) (wa2 : Option Addr) (wn2 wc2 : Nat), wv = .slice wa2 wn2 wc2 ∧ Hid (wn2 = S2.length) ∧ Hid (SeenOk S2 (7 * i + 1)) ∧ Hid (WantOk W S2 WX2) ∧ Sys wx (two (worldT p d X) (watchT pa p [3] S2 (oneM OL))) (own 60 3 (.slice wa2 wn2 wc2) wn2 (flatS WX2) :: rowsM WX2 :: mapT intKey ob (boolM OL) :: [base W]))
            case first =>
              by_cases hl : i < len0
              · have hl0 : (i : Int) < (len0 : Int) := by omega
                have hil2 : i < LM.length := by rw [HLM.out]; exact hl
                obtain ⟨mb, mo, rfl, -⟩ := HROW.out.msg (y := W) (Below.refl _ _) hil2
                obtain ⟨PM, hPM⟩ : ∃ P, P = LM[i] := ⟨_, rfl⟩
                obtain ⟨hat, hwf, hps, hrw⟩ := HAT.out LM[i] (List.getElem_mem hil2)
                have HMC : Hid (∀ y, Below W.heap.size W y → ∀ (j : Nat) (v : Value), PM.cells[j]? = some v → y.cell? ⟨mb, mo + i * 19 + j, none⟩ = some v) := fun y hB => by
                  obtain ⟨b, off, e, h⟩ := HROW.out.msg hB hil2
                  cases e; rw [hPM]; exact h
                rw [← hPM] at hat hwf hps hrw
                have HPA := Lib.hid hat
                have HPW := Lib.hid hwf
                have HPS := Lib.hid hps
                have HPR := Lib.hid hrw
                have HCL := Lib.hid (MsgP.code_len hat hps)
                have hbnd : i + 1 ≤ cap0 := by
                  obtain ⟨_, _, e, -, -, -, -, hc⟩ := HROW.out
                  cases e
                  have := HLM.out
                  omega
                obtain ⟨cs, hcs⟩ : ∃ cs, cs = PM.cells := ⟨_, rfl⟩
                have hsl : (Try.prog.info? 36).map (·.size) = some cs.length := by rw [hcs]; exact size19
                have HC : Hid (∀ (w : World) (m : Nat → Thing) (l' : List Thing) (hP : Cap l' PM.At) (h : Sys w m l'), Calls Try.prog 35 #[.agg cs.toArray] w fun z w' => ∃ v, z = .returned (.tuple #[v, .bool PM.code.isSome]) ∧ Sys w' m (own 5 1 v (PM.code.getD []).length (bcells (PM.code.getD [])) :: l')) := by rw [hcs]; exact fun w m l' hP h => mess_code PM hP HPW.out (MsgP.blkB_small HPS.out) h
                have HF : Hid (∀ (w : World) (m : Nat → Thing) (l' : List Thing) (hP : Cap l' PM.Raw) (h : Sys w m l'), Calls Try.prog 14 #[.agg cs.toArray] w fun z w' => z = .returned (.bool PM.few) ∧ Sys w' m l') := by rw [hcs]; exact fun w m l' hP h => mess_few PM hP (MsgP.small HPS.out) h
                have HMC1 : Hid (∀ y, Below W.heap.size W y → ∀ (j : Nat) (v : Value), cs[j]? = some v → y.cell? ⟨mb, mo + i * 19 + j, none⟩ = some v) := by rw [hcs]; exact HMC.out
                clear hPM hat hwf hps hrw hcs
                have hc1 := HMC1.out wr (memBaseD (W := W) HR.out (by simp))
                go_wp2_with (refine wpList_load_at rfl 36 _ rfl mb (mo + i * 19) rfl cs _ hc1 Try.underlying36 rfl hsl ?_)
                clear hc1
                refine (HC.out wr _ _ (fun y m' hs => HPA.out.below (memBaseD (W := W) hs (by simp))) HR.out).mono ?_
                rintro z w5 ⟨v, rfl, h⟩
                obtain ⟨va, vn, vc, rfl, hvn⟩ := h.getOwn.slice
                obtain ⟨bs, hbs⟩ : ∃ b, b = PM.code.getD [] := ⟨_, rfl⟩
                rw [← hbs] at h hvn HCL
                have H5 := Lib.hid h
                have HBS := Lib.hid hbs
                have HVN := Lib.hid hvn.out
                clear h hbs hvn
                have hc2 := HMC1.out w5 (memBaseD (W := W) H5.out (by simp))
                obtain ⟨ok, hok⟩ : ∃ b, b = PM.code.isSome := ⟨_, rfl⟩
                rw [← hok]
                clear hok
                cases ok
                · go_wp2_with fail
                  go_meet
                  case rel => exact ⟨S, WX_, wa, wn, wc, rfl, HWN, HSO.out.mono (by omega), HWO.out, H5.out.tail⟩
                · go_wp2_with (refine wpList_load_atG rfl 36 _ rfl mb (mo + i * 19) rfl cs _ hc2 Try.underlying36 rfl hsl ?_)
                  clear hc2
                  refine (HF.out w5 _ _ (fun y m' hs => HPR.out.below (memBaseD (W := W) hs (by simp))) H5.out).mono ?_
                  rintro z w6 ⟨rfl, h⟩
                  have H6 := Lib.hid h
                  clear h
                  obtain ⟨fw, hfw⟩ : ∃ b, b = PM.few := ⟨_, rfl⟩
                  rw [← hfw]
                  clear hfw
                  cases fw
                  · go_wp2_with fail
                    go_meet
                    case rel => exact ⟨S, WX_, wa, wn, wc, rfl, HWN, HSO.out.mono (by omega), HWO.out, H6.out.tail⟩
                  · go_wp2_with fail
                    have hh := watch_hear_any (kw := 1) PM (fun y m' hs => HPA.out.below (memBaseD (W := W) hs (by simp))) HPW.out (MsgP.blkB_small HPS.out) mb (mo + i * 19) (cap0 - i) (fun y m' hs => HMC.out y (memBaseD (W := W) hs (by simp))) (by have := HSO.out.len; have := H30.out; omega) H6.out rfl
                    refine hh.mono ?_
                    clear hh
                    rintro z w7 ⟨rfl, h⟩
                    rw [two1, ← HBS.out] at h
                    have hwb : wn ≤ 1000000000 := by have := HSO.out.len; have := H30.out; have := HWN.out; omega
                    obtain ⟨nk, y1, EN7, EX7, ES7, H7⟩ := h.box (.cells #[.slice va vn vc, .int .i64 0, .slice none 0 0] 60 (0, 0))
                    have h4 := H7.out.front 2 rfl
                    obtain ⟨v', y2, hap, h5⟩ := h4.appSeen (h4.nth 1 rfl) rfl rfl rfl hwb 57
                    obtain ⟨a', n', cp', rfl, hn'⟩ := h5.getOwn.slice
                    obtain rfl : n' = wn + 1 := hn'.out
                    have H8 := Lib.hid (Sys.wantPush (SeenX.mk (.slice va vn vc) bs 0 (.slice none 0 0) []) (h5.dropAt 1 rfl))
                    have HW9 : Hid (WantOk W (S ++ [(bs, (0 : Int), ([] : List UInt8))]) (WX_ ++ [(SeenX.mk (.slice va vn vc) bs 0 (.slice none 0 0) [])])) := Lib.hid (HWO.out.snoc (SeenX.mk (.slice va vn vc) bs 0 (.slice none 0 0) []) (a := none) (c := 0) rfl (.inl rfl))
                    clear h h4 h5 hn'
                    go_wp2_with (first | (rw [EX7.out, EN7.out]; (at_builtin; refine wpl_append rfl _ _ _ rfl rfl rfl hap ?_)) | (at_builtin; refine wpl_append rfl _ _ _ rfl rfl rfl hap ?_))
                    go_meet
                    case rel => exact ⟨S ++ [(bs, 0, [])], WX_ ++ [(SeenX.mk (.slice va vn vc) bs 0 (.slice none 0 0) [])], a', wn + 1, cp', rfl, (by show wn + 1 = _; rw [HWN.out]; simp), (HSO.out.hear HCL.out).mono (by omega), HW9, H8.out⟩
              · have hl0 : ¬ ((i : Int) < (len0 : Int)) := by omega
                go_wp2_with fail
                go_meet
                case rel => exact ⟨S, WX_, wa, wn, wc, rfl, HWN, HSO.out.mono (by omega), HWO.out, HR.out⟩
            case rest =>
              obtain ⟨S2, WX2, wa2, wn2, wc2, rfl, HWN2, HSO2, HWO2, hR2⟩ := hcut
              have H10 := Lib.hid hR2
              clear hR2 HR HWN HSO HWO
              have q0 := HCI.out _ (memBaseD (W := W) H10.out (by simp))
              have hm7 := i64_and7
              go_upto_region 25 with fail
              refine wp_region_seq (fun y : World => y.cell? ⟨ib, io + i, none⟩ = some (.int .i64 x)) anyW [] [(0, 0, some 98), (2, 0, some 100), (3, 0, some 101), (4, 0, some 102), (5, 1, some 103), (6, 0, some 104), (7, 0, some 105), (8, 0, some 106), (9, 0, some 107), (10, 1, some 108), (11, 0, some 109), (12, 0, some 110), (1, 2, some 99), (13, 2, some 111)] (by kernel_rfl) (by kernel_rfl) (fun _ _ _ d _ h => by cases d <;> exact h) q0 anyW.i ?_
              repeat (first | (refine seqW (v := ?_) rfl rfl (by kernel_rfl) ?_ ?_; rotate_left; (focus ((intro x; go_simp); try (with_reducible rfl))); try simp only [Act.put, List.setIfInBounds_toArray, List.set_cons_zero, List.set_cons_succ]) | (refine seqS (v := ?_) rfl rfl (by kernel_rfl) ?_ ?_; rotate_left; (focus (intro x hS; first | (have q0 := hS; go_simp; try (with_reducible rfl)))); try simp only [Act.put, List.setIfInBounds_toArray, List.set_cons_zero, List.set_cons_succ]) | (refine seqX rfl rfl (by kernel_rfl) ?_; try simp only [Act.put, List.setIfInBounds_toArray, List.set_cons_zero, List.set_cons_succ]))
              refine seqL rfl rfl (fun K hK => ?_)
              go_simp
              go_at_call 24
              refine (world_vault H10.out.drew rfl).mono ?_
              rintro z y1 ⟨rfl, rfl⟩
              go_wp2_with fail
              refine hK.out _ _ anyW.i ?_ (fun _ hSt => ?_)
              · exact q0
              clear hSt hK K
              try simp only [Act.put, List.setIfInBounds_toArray, List.set_cons_zero, List.set_cons_succ]
              refine seqL rfl rfl (fun K hK => ?_)
              go_simp
              go_at_call 25
              refine (world_share (x % 4) (x / 4 % 8) (wf_mk (by omega) (by omega)) H10.out.drew rfl).mono ?_
              rintro z w2 ⟨rfl, h⟩
              rw [two0] at h
              obtain ⟨X3, hX3⟩ : ∃ Y, Y = { X with C := shareC X.C (x % 4) (x / 4 % 8) } := ⟨_, rfl⟩
              have hCX3 : COk LT n (i + 1) X3 := by rw [hX3]; exact HCX.out.share _ _
              rw [← hX3] at h
              have H11 := Lib.hid h
              have HCX3 := Lib.hid hCX3
              clear h hX3 hCX3
              go_wp2_with fail
              refine hK.out _ _ anyW.i ?_ (fun _ hSt => ?_)
              · exact HCI.out _ (memBaseD (W := W) H11.out (by simp))
              clear hSt hK K
              try simp only [Act.put, List.setIfInBounds_toArray, List.set_cons_zero, List.set_cons_succ]
              refine seqE ?_
              clear hm7 q0
              go_wp2_with fail
              have ho := watch_open (kw := 1) (by decide) (fun y hy => Nat.le_trans (HCX3.out.short y hy) (by decide)) (by have := HCX3.out.len; have := HCX3.out.n6; have := HSO2.out.len; have := H30.out; omega) H11.out rfl rfl
              refine ho.mono ?_
              clear ho
              rintro z w3 ⟨rfl, h⟩
              rw [two1, HCX3.out.len] at h
              obtain ⟨S3, hS3⟩ : ∃ s, s = (openN X3.need X3.C (S2, OL) n).1 := ⟨_, rfl⟩
              obtain ⟨OL3, hOL3⟩ : ∃ s, s = (openN X3.need X3.C (S2, OL) n).2 := ⟨_, rfl⟩
              rw [← hS3, ← hOL3] at h
              have hso3 : SeenOk S3 (7 * (i + 1)) := by
                rw [hS3]
                exact (HSO2.out.open X3.need HCX3.out.short OL).mono (by have := HCX3.out.n6; omega)
              have H12 := Lib.hid h
              have HS3 := Lib.hid hS3
              have HOL3 := Lib.hid hOL3
              have HSO3 := Lib.hid hso3
              clear h hS3 hOL3 hso3
              go_wp2_with fail
              go_loopw [11, 16] (fun wv cv wr => ∃ (k : Nat) (WXk : List SeenX) (wak : Option Addr) (wnk wck : Nat), k ≤ n ∧ cv = .int .i64 ((k : Int) + 1) ∧ wv = .slice wak wnk wck ∧ Hid (wnk = (openN X3.need X3.C (S2, OL) k).1.length) ∧ Hid (WantOk W (openN X3.need X3.C (S2, OL) k).1 WXk) ∧ Sys wr (two (worldT p d X3) (watchT pa p [3] S3 (oneM OL3))) (own 60 3 (.slice wak wnk wck) wnk (flatS WXk) :: rowsM WXk :: mapT intKey ob (boolM (openN X3.need X3.C (S2, OL) k).2) :: [base W])) (fun _ cv _ => n + 1 - (intOf cv).toNat)
              case atStart => exact ⟨0, WX2, wa2, wn2, wc2, by omega, rfl, rfl, HWN2, HWO2.out, H12.out⟩
              case round =>
                clear H12 H10 HWN2 HWO2 H11
                obtain ⟨k, WXk, wak, wnk, wck, hk, rfl, rfl, HWNk, HWOk, hRk⟩ := hrel
                have HRk := Lib.hid hRk
                clear hRk
                by_cases hkn : k < n
                · have hil3 : (k : Int) + 1 ≤ (n : Int) := by omega
                  have hn6 := HCX3.out.n6
                  have hkw : IntKind.i64.wrap ((k : Int) + 1 + 1) = (k : Int) + 1 + 1 := by rw [IntKind.wrap_i64]; omega
                  have hkm : IntKind.i64.wrap ((k : Int) + 1 - 1) = (k : Int) := by rw [IntKind.wrap_i64]; omega
                  have hkm2 : (k : Int) + 1 - 1 = (k : Int) := by omega
                  have hkm3 : IntKind.i64.wrap (k : Int) = (k : Int) := by rw [IntKind.wrap_i64]; omega
                  have hck : k < X3.C.length := by rw [HCX3.out.len]; exact hkn
                  obtain ⟨st, hst⟩ : ∃ st, st = openN X3.need X3.C (S2, OL) k := ⟨_, rfl⟩
                  have HNX : Hid (openN X3.need X3.C (S2, OL) (k + 1) = openStep X3.need X3.C st ((k : Int) + 1)) := by show _ = _; rw [openN_succ, hst]
                  have hstl := openN_len X3.need X3.C (S2, OL) k
                  rw [← hst] at HWNk HWOk HRk hstl
                  have hwb : wnk ≤ 1000000000 := by have := HSO2.out.len; have := H30.out; have := HWNk.out; dsimp only at hstl; omega
                  obtain ⟨q, hq⟩ : ∃ q, q = shN X3.C ((k : Int) + 1) := ⟨_, rfl⟩
                  have hpk := HCX3.out.plain k hkn
                  have hkT : k < LT.length := Nat.lt_of_lt_of_le hkn HCX3.out.le
                  obtain ⟨pt0, hpt0⟩ : ∃ t, t = LT[k].t := ⟨_, rfl⟩
                  have hpl : plainC X3.need X3.C ((k : Int) + 1) = if (2 : Int) ≤ (q : Int) then some pt0 else none := by rw [plainC_shN _ _ _ hck, HCX3.out.need, hq, hpt0, hpk]
                  have HKT := Lib.hid hkT
                  have HPT0 : Hid (∀ h : k < LT.length, pt0 = LT[k].t) := fun _ => hpt0
                  have HPL := Lib.hid hpl
                  have HKN := Lib.hid hkn
                  have HWB := Lib.hid hwb
                  have HQ := Lib.hid hq
                  clear hst hstl hpl hkn hwb hk hn6 hq hpk hkT hpt0 hck
                  go_wp2_with fail
                  refine (world_vault HRk.out rfl).mono ?_
                  rintro z y1 ⟨rfl, rfl⟩
                  go_wp2_with fail
                  have hsh := world_shares ((k : Int) + 1) (fun y hy => by have := HCX3.out.sh y hy; have := H30.out; omega) HRk.out rfl
                  rw [← HQ.out] at hsh
                  refine hsh.mono ?_
                  clear hsh
                  rintro z w5 ⟨sa, sc, rfl, h⟩
                  have e1 := ((h.front 2 rfl).getMap).lookup (P := Try.prog) Try.underlying102 Try.underlying3 (zeroBool w5) ((k : Int) + 1) false
                  rw [alook_bool] at e1
                  by_cases hq2 : 2 ≤ q
                  · have hg1 : (q : Int) ≥ 2 := by omega
                    have hg2 : (2 : Int) ≤ (q : Int) := by omega
                    have hps : plainC X3.need X3.C ((k : Int) + 1) = some pt0 := by rw [HPL.out, if_pos hg2]
                    by_cases hin : ((k : Int) + 1) ∈ st.2
                    · have HSAME : Hid (openStep X3.need X3.C st ((k : Int) + 1) = st) := by show _ = _; unfold openStep; rw [hps]; exact if_pos hin
                      rw [if_pos hin] at e1
                      simp only [intKey, Option.getD, if_neg (Bool.false_ne_true)] at e1
                      have H2 := Lib.hid h
                      clear h hps hin
                      go_wp2_with fail
                      go_roundw
                      case rel => exact ⟨k + 1, WXk, wak, wnk, wck, by have := HKN.out; omega, by go_num, rfl, by rw [HNX.out, HSAME.out]; exact HWNk, by rw [HNX.out, HSAME.out]; exact HWOk, by rw [HNX.out, HSAME.out]; exact H2.out⟩
                      case measure => simp [intOf]; have := HKN.out; omega
                    · have hkT : k < LT.length := HKT.out
                      have HSAME : Hid (openStep X3.need X3.C st ((k : Int) + 1) = (st.1 ++ [([], (k : Int) + 1, pt0)], st.2 ++ [(k : Int) + 1])) := by
                        show _ = _
                        unfold openStep
                        rw [hps]; exact if_neg hin
                      rw [if_neg hin] at e1
                      simp only [intKey, Option.getD, if_neg (Bool.false_ne_true)] at e1
                      have h2b := h.front 2 rfl
                      obtain ⟨w6, hu, hmu, hcu, -⟩ := h2b.getMap.update (P := Try.prog) Try.underlying102 Try.underlying3 ((k : Int) + 1) (.bool true)
                      simp only [intKey] at hu
                      rw [aset_bool _ _ hin] at hmu
                      have h3 := h2b.mapTo hmu hcu
                      obtain ⟨tb, tof, rfl, q1⟩ := HROWT.out.text (memBaseD (W := W) h3 (by simp)) hkT
                      have hrt := HRAWT.out LT[k] (List.getElem_mem hkT)
                      obtain ⟨PT, hPT⟩ : ∃ P, P = LT[k] := ⟨_, rfl⟩
                      have hpt0 := HPT0.out hkT
                      rw [← hPT] at q1 hrt hpt0
                      obtain ⟨pv, pt⟩ := PT
                      obtain rfl : pt0 = pt := hpt0
                      replace hrt : RawSl W pv pt0.length (bcells pt0) := hrt
                      obtain ⟨ta, tc, rfl, -⟩ := id hrt
                      have hby := RawSl.bytesAt hrt (Below.refl _ _)
                      obtain ⟨nt, hnt⟩ : ∃ n, n = pt0.length := ⟨_, rfl⟩
                      replace q1 : w6.cell? ⟨tb, tof + k, none⟩ = some (.slice ta pt0.length tc) := q1
                      rw [← hnt] at q1
                      have hklen : k < len1 := by rw [← HLT.out]; exact hkT
                      obtain ⟨nk, y1, EN7, EX7, ES7, H7⟩ := h3.box (.cells #[.slice none 0 0, .int .i64 ((k : Int) + 1), .slice ta nt tc] 60 (0, 0))
                      have h4 := H7.out.front 2 rfl
                      obtain ⟨v', y2, hap, h5⟩ := h4.appSeen (h4.nth 1 rfl) rfl rfl rfl HWB.out 57
                      obtain ⟨a', n', cp', rfl, hn'⟩ := h5.getOwn.slice
                      obtain rfl : n' = wnk + 1 := hn'.out
                      have h6 := ((h5.dropAt 1 rfl).front 2 rfl).nilB
                      rw [hnt] at h6
                      have H8 := Lib.hid (Sys.wantPush (SeenX.mk (.slice none 0 0) [] ((k : Int) + 1) (.slice ta pt0.length tc) pt0) (h6.front 2 rfl))
                      have HBY := Lib.hid hby.1
                      have HW9 : Hid (WantOk W (st.1 ++ [(([] : List UInt8), (k : Int) + 1, pt0)]) (WXk ++ [(SeenX.mk (.slice none 0 0) [] ((k : Int) + 1) (.slice ta pt0.length tc) pt0)])) := Lib.hid (HWOk.out.snoc (SeenX.mk (.slice none 0 0) [] ((k : Int) + 1) (.slice ta pt0.length tc) pt0) rfl HBY.out)
                      clear h h2b h3 h4 h5 h6 hn' hmu hcu hin hps hrt hPT hby hnt
                      go_wp2_with (first | (rw [EX7.out, EN7.out]; (at_builtin; refine wpl_append rfl _ _ _ rfl rfl rfl hap ?_)) | (at_builtin; refine wpl_append rfl _ _ _ rfl rfl rfl hap ?_))
                      go_roundw
                      case rel => exact ⟨k + 1, WXk ++ [(SeenX.mk (.slice none 0 0) [] ((k : Int) + 1) (.slice ta pt0.length tc) pt0)], a', wnk + 1, cp', by have := HKN.out; omega, by go_num, rfl, (by show wnk + 1 = _; rw [HNX.out, HSAME.out, HWNk.out]; simp), (by rw [HNX.out, HSAME.out]; exact HW9), (by rw [HNX.out, HSAME.out]; exact H8.out)⟩
                      case measure => simp [intOf]; have := HKN.out; omega
                  · have hg1 : ¬ ((q : Int) ≥ 2) := by omega
                    have hg2 : ¬ ((2 : Int) ≤ (q : Int)) := by omega
                    have HSAME : Hid (openStep X3.need X3.C st ((k : Int) + 1) = st) := by show _ = _; unfold openStep; rw [HPL.out, if_neg hg2]
                    have H2 := Lib.hid h
                    clear h e1
                    go_wp2_with fail
                    go_roundw
                    case rel => exact ⟨k + 1, WXk, wak, wnk, wck, by have := HKN.out; omega, by go_num, rfl, by rw [HNX.out, HSAME.out]; exact HWNk, by rw [HNX.out, HSAME.out]; exact HWOk, by rw [HNX.out, HSAME.out]; exact H2.out⟩
                    case measure => simp [intOf]; have := HKN.out; omega
                · obtain rfl : n = k := by omega
                  rw [← HS3.out] at HWNk HWOk
                  rw [← HOL3.out] at HRk
                  clear hk hkn
                  go_wp2_with fail
                  have hse := watch_seen (kw := 1) (by have := HSO3.out.len; have := H30.out; omega) HSO3.out.each HRk.out rfl
                  refine hse.mono ?_
                  clear hse
                  rintro z w5 ⟨ax, cx, RX, rfl, hRX, h⟩
                  rw [← HWNk.out] at h ⊢
                  have H14 := Lib.hid h
                  have HRX := Lib.hid hRX
                  clear h hRX
                  have hn240 : wnk ≤ 240 := by have := HSO3.out.len; have := H30.out; have := HWNk.out; omega
                  have HN240 := Lib.hid hn240
                  clear hn240
                  go_wp2_with fail
                  go_loopw [152] (fun kv wk => ∃ k : Nat, k ≤ wnk ∧ kv = .int .i64 (k : Int) ∧ Sys wk (two (worldT p d X3) (watchT pa p [3] S3 (oneM OL3))) (own 60 3 (.slice ax wnk cx) wnk (flatS RX) :: rowsT RX :: own 60 3 (.slice wak wnk wck) wnk (flatS WXk) :: rowsM WXk :: mapT intKey ob (boolM OL3) :: [base W])) (fun kv _ => wnk - (intOf kv).toNat)
                  case atStart => exact ⟨0, by omega, rfl, H14.out⟩
                  case round =>
                    obtain ⟨k, hk, rfl, hRk⟩ := hrel
                    have HRq := Lib.hid hRk
                    clear hRk
                    by_cases hkn : k < wnk
                    · have HKNN := Lib.hid hkn
                      have hkl : (k : Int) < (wnk : Int) := by omega
                      have hkw : IntKind.i64.wrap ((k : Int) + 1) = (k : Int) + 1 := by rw [IntKind.wrap_i64]; have := HN240.out; omega
                      have hkX : k < RX.length := by have h1 := congrArg List.length HRX.out; rw [List.length_map] at h1; have := HWNk.out; omega
                      have hkY : k < WXk.length := by have h1 := HWOk.out.len; have := HWNk.out; omega
                      have hxy : (RX[k]).x = (WXk[k]).x := by
                        have h1 : (RX.map SeenX.x)[k]? = (WXk.map SeenX.x)[k]? := by rw [HRX.out, HWOk.out.x]
                        rw [List.getElem?_map, List.getElem?_map, List.getElem?_eq_getElem hkX, List.getElem?_eq_getElem hkY] at h1
                        exact Option.some.inj h1
                      obtain ⟨gx, rfl, hcx⟩ := HRq.out.getOwn.seenCellsAt hkX
                      obtain ⟨gy, rfl, hcy⟩ := (HRq.out.front 2 rfl).getOwn.seenCellsAt hkY
                      obtain ⟨ho1, ho2⟩ := Sys.seenAt (HRq.out.front 1 rfl) (List.getElem_mem hkX)
                      have ho3 := Sys.mAt (HRq.out.front 3 rfl) (List.getElem_mem hkY)
                      obtain ⟨yta, ytc, hty, hb4'⟩ := HWOk.out.t _ (List.getElem_mem hkY)
                      have hb4 := hb4'.below (memBaseD (W := W) HRq.out (by simp))
                      obtain ⟨s, hs⟩ : ∃ s, s = RX[k] := ⟨_, rfl⟩
                      obtain ⟨t, ht⟩ : ∃ s, s = WXk[k] := ⟨_, rfl⟩
                      rw [← hs, ← ht] at hxy
                      rw [← hs] at hcx ho1 ho2
                      rw [← ht] at hcy ho3 hty hb4
                      clear hs ht hb4'
                      obtain ⟨mv0, m0, c0, tv0, t0⟩ := s
                      obtain ⟨mv1, m1, c1, tv1, t1⟩ := t
                      obtain ⟨rfl, rfl, rfl⟩ : m0 = m1 ∧ c0 = c1 ∧ t0 = t1 := by simpa [SeenX.x] using hxy
                      dsimp only at ho1 ho2 ho3 hty hb4
                      obtain ⟨xa, xc, rfl, hb1, -⟩ := ho1.bytesOf
                      obtain ⟨xta, xtc, rfl, hb2, -⟩ := ho2.bytesOf
                      obtain ⟨ya, yc, rfl, hb3, -⟩ := ho3.bytesOf
                      subst hty
                      have z0 := hcx 0 _ rfl
                      have z1 := hcx 1 _ rfl
                      have z2 := hcx 2 _ rfl
                      have y0 := hcy 0 _ rfl
                      have y1 := hcy 1 _ rfl
                      have y2 := hcy 2 _ rfl
                      obtain ⟨nm, hnm⟩ : ∃ n, n = m0.length := ⟨_, rfl⟩
                      obtain ⟨nt, hnt⟩ : ∃ n, n = t0.length := ⟨_, rfl⟩
                      have HS1 : Hid (∀ (x : World) (a b : Option Addr) (c c' : Nat), BytesAt x a m0 → BytesAt x b m0 → Calls Try.prog 51 #[.slice a nm c, .slice b nm c'] x fun e w' => e = .returned (.bool true) ∧ x = w') := fun x a b c c' h1 h2 => by
                        have h := same_any a b m0 m0 c c' x h1 h2
                        rw [decide_eq_true rfl, ← hnm] at h; exact h
                      have HS2 : Hid (∀ (x : World) (a b : Option Addr) (c c' : Nat), BytesAt x a t0 → BytesAt x b t0 → Calls Try.prog 51 #[.slice a nt c, .slice b nt c'] x fun e w' => e = .returned (.bool true) ∧ x = w') := fun x a b c c' h1 h2 => by
                        have h := same_any a b t0 t0 c c' x h1 h2
                        rw [decide_eq_true rfl, ← hnt] at h; exact h
                      rw [← hnm] at z0 y0
                      rw [← hnt] at z2 y2
                      replace z0 : wr.cell? ⟨gx, k * 3, none⟩ = some (.slice xa nm xc) := z0
                      replace y0 : wr.cell? ⟨gy, k * 3, none⟩ = some (.slice ya nm yc) := y0
                      replace z1 : wr.cell? ⟨gx, k * 3 + 1, none⟩ = some (.int .i64 c0) := z1
                      replace y1 : wr.cell? ⟨gy, k * 3 + 1, none⟩ = some (.int .i64 c0) := y1
                      replace z2 : wr.cell? ⟨gx, k * 3 + 2, none⟩ = some (.slice xta nt xtc) := z2
                      replace y2 : wr.cell? ⟨gy, k * 3 + 2, none⟩ = some (.slice yta nt ytc) := y2
                      have HKN := Lib.hid hkn
                      have HSP : Hid ((fun x : World => x.cell? ⟨gx, k * 3, none⟩ = some (.slice xa nm xc) ∧ x.cell? ⟨gx, k * 3 + 1, none⟩ = some (.int .i64 c0) ∧ x.cell? ⟨gx, k * 3 + 2, none⟩ = some (.slice xta nt xtc) ∧ x.cell? ⟨gy, k * 3, none⟩ = some (.slice ya nm yc) ∧ x.cell? ⟨gy, k * 3 + 1, none⟩ = some (.int .i64 c0) ∧ x.cell? ⟨gy, k * 3 + 2, none⟩ = some (.slice yta nt ytc)) wr) := ⟨z0, z1, z2, y0, y1, y2⟩
                      have HBB : Hid (BytesAt wr xa m0 ∧ BytesAt wr ya m0 ∧ BytesAt wr xta t0 ∧ BytesAt wr yta t0) := ⟨hb1, hb3, hb2, hb4⟩
                      clear hxy hcx hcy hb1 hb2 hb3 hb4 hnm hnt z0 z1 z2 y0 y1 y2 hk hkn hkX hkY ho1 ho2 ho3
                      go_upto_region 39 with fail
                      refine wp_region_seq (fun x : World => x.cell? ⟨gx, k * 3, none⟩ = some (.slice xa nm xc) ∧ x.cell? ⟨gx, k * 3 + 1, none⟩ = some (.int .i64 c0) ∧ x.cell? ⟨gx, k * 3 + 2, none⟩ = some (.slice xta nt xtc) ∧ x.cell? ⟨gy, k * 3, none⟩ = some (.slice ya nm yc) ∧ x.cell? ⟨gy, k * 3 + 1, none⟩ = some (.int .i64 c0) ∧ x.cell? ⟨gy, k * 3 + 2, none⟩ = some (.slice yta nt ytc)) anyW [] [(0, 0, some 155), (1, 0, some 156), (2, 0, some 157), (3, 0, some 158), (4, 1, some 159), (5, 0, some 160), (6, 0, some 161), (7, 0, some 162), (8, 0, some 163), (9, 1, some 164), (10, 2, some 165), (11, 0, some 166), (12, 0, some 167), (13, 0, some 168), (14, 0, some 169), (15, 0, some 170), (16, 0, some 171), (17, 1, some 172), (18, 0, some 173), (19, 0, some 174), (20, 0, some 175), (21, 0, some 176), (22, 1, some 177), (23, 0, some 178), (24, 0, some 179), (25, 0, some 180), (26, 0, some 181), (27, 0, some 182), (28, 0, some 183), (29, 0, some 184), (30, 1, some 185), (31, 0, some 186), (32, 0, some 187), (33, 0, some 188), (34, 0, some 189), (35, 1, some 190), (36, 2, some 191), (37, 0, some 192), (38, 0, some 193)] (by kernel_rfl) (by kernel_rfl) (fun _ _ _ d _ h => by cases d <;> exact h) HSP.out anyW.i ?_
                      repeat (first | (refine seqW (v := ?_) rfl rfl (by kernel_rfl) ?_ ?_; rotate_left; (focus ((intro x; go_simp); try (with_reducible rfl))); try simp only [Act.put, List.setIfInBounds_toArray, List.set_cons_zero, List.set_cons_succ]) | (refine seqS (v := ?_) rfl rfl (by kernel_rfl) ?_ ?_; rotate_left; (focus (intro x hS; first | (obtain ⟨z0, z1, z2, y0, y1, y2⟩ := hS; go_simp; try (with_reducible rfl)))); try simp only [Act.put, List.setIfInBounds_toArray, List.set_cons_zero, List.set_cons_succ]) | (refine seqX rfl rfl (by kernel_rfl) ?_; try simp only [Act.put, List.setIfInBounds_toArray, List.set_cons_zero, List.set_cons_succ]))
                      refine seqL rfl rfl (fun K hK => ?_)
                      go_simp
                      go_at_call 51
                      refine (HS1.out wr.drew xa ya xc yc HBB.out.1 HBB.out.2.1).mono ?_
                      rintro z y1 ⟨rfl, rfl⟩
                      go_wp2_with fail
                      refine hK.out _ _ anyW.i ?_ (fun _ hSt => ?_)
                      · exact HSP.out
                      clear hSt hK K
                      try simp only [Act.put, List.setIfInBounds_toArray, List.set_cons_zero, List.set_cons_succ]
                      repeat (first | (refine seqW (v := ?_) rfl rfl (by kernel_rfl) ?_ ?_; rotate_left; (focus ((intro x; go_simp); try (with_reducible rfl))); try simp only [Act.put, List.setIfInBounds_toArray, List.set_cons_zero, List.set_cons_succ]) | (refine seqS (v := ?_) rfl rfl (by kernel_rfl) ?_ ?_; rotate_left; (focus (intro x hS; first | (obtain ⟨z0, z1, z2, y0, y1, y2⟩ := hS; go_simp; try (with_reducible rfl)))); try simp only [Act.put, List.setIfInBounds_toArray, List.set_cons_zero, List.set_cons_succ]) | (refine seqX rfl rfl (by kernel_rfl) ?_; try simp only [Act.put, List.setIfInBounds_toArray, List.set_cons_zero, List.set_cons_succ]))
                      refine seqL rfl rfl (fun K hK => ?_)
                      go_simp
                      go_at_call 51
                      refine (HS2.out wr.drew xta yta xtc ytc HBB.out.2.2.1 HBB.out.2.2.2).mono ?_
                      rintro z y1 ⟨rfl, rfl⟩
                      go_wp2_with fail
                      refine hK.out _ _ anyW.i ?_ (fun _ hSt => ?_)
                      · exact HSP.out
                      clear hSt hK K
                      try simp only [Act.put, List.setIfInBounds_toArray, List.set_cons_zero, List.set_cons_succ]
                      repeat (first | (refine seqW (v := ?_) rfl rfl (by kernel_rfl) ?_ ?_; rotate_left; (focus ((intro x; go_simp); try (with_reducible rfl))); try simp only [Act.put, List.setIfInBounds_toArray, List.set_cons_zero, List.set_cons_succ]) | (refine seqS (v := ?_) rfl rfl (by kernel_rfl) ?_ ?_; rotate_left; (focus (intro x hS; first | (obtain ⟨z0, z1, z2, y0, y1, y2⟩ := hS; go_simp; try (with_reducible rfl)))); try simp only [Act.put, List.setIfInBounds_toArray, List.set_cons_zero, List.set_cons_succ]) | (refine seqX rfl rfl (by kernel_rfl) ?_; try simp only [Act.put, List.setIfInBounds_toArray, List.set_cons_zero, List.set_cons_succ]))
                      refine seqE ?_
                      go_wp2_with fail
                      go_roundw
                      case rel => exact ⟨k + 1, by have := HKN.out; omega, by go_num, HRq.out.drew⟩
                      case measure => simp [intOf]; have := HKN.out; omega
                    · obtain rfl : wnk = k := by omega
                      clear hk hkn
                      go_wp2_with fail
                      go_roundw
                      case rel => exact ⟨i + 1, X3, S3, OL3, WXk, wak, wnk, wck, by have := HLT2.out; omega, by have := H30.out; omega, by go_num, rfl, HWNk, HCX3, HSO3, HWOk, HRq.out.tail.tail⟩
                      case measure => simp [intOf]; have := H30.out; omega
          · go_upto_region 18 with fail
            go_cut [63] from 56 to 62 (fun tv wx => tv = .bool false ∧ wx = wr)
            case first =>
              by_cases hlt : i < len2
              · have hil : (i : Int) < (len2 : Int) := by omega
                have hi3 : ¬ ((i : Int) < 30) := by omega
                go_wp2_with fail
                go_meet
                case rel => exact ⟨rfl, rfl⟩
              · have hil : ¬ ((i : Int) < (len2 : Int)) := by omega
                go_wp2_with fail
                go_meet
                case rel => exact ⟨rfl, rfl⟩
            case rest =>
              obtain ⟨rfl, rfl⟩ := hcut
              go_wp2_with fail
              refine (adve_awake _).mono ?_
              rintro e y2 ⟨rfl, hB⟩
              have HBE := Lib.hid ((memBaseD (W := W) HR.out (by simp)).trans (hB.mono (memBaseD (W := W) HR.out (by simp)).size))
              clear hB
              go_wp2_with fail
              go_ret
              exact ⟨rfl, HBE.out⟩
end Go.Proofs.Ytcfhkpjheemkgaa.adveSees
