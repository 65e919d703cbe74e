/-
  What has opened is seen: adve.Open.
-/
import Derived.Test.YtcfhkpjheemkgaaWatchHear
import Derived.Test.YtcfhkpjheemkgaaVaultD
namespace Go.Proofs.Ytcfhkpjheemkgaa
set_option linter.unusedSectionVars false
set_option linter.unnecessarySimpa false
set_option linter.unusedSimpArgs false
set_option linter.unusedVariables false
open Go.RowKit Go.MapKept

abbrev SeenT := List UInt8 × Int × List UInt8
def oneM (L : List Int) : List (Int × Value) := L.map fun d => (d, Value.int .i64 1)
theorem alook_one (L : List Int) (x : Int) : alook (oneM L) x = if x ∈ L then some (Value.int .i64 1) else none := by
  induction L with
  | nil => rfl
  | cons a L ih =>
    show (if a = x then some _ else alook (oneM L) x) = _
    by_cases e : a = x
    · subst e; rw [if_pos rfl, if_pos (List.mem_cons_self ..)]
    · rw [if_neg e, ih]
      by_cases hx : x ∈ L
      · rw [if_pos hx, if_pos (List.mem_cons_of_mem _ hx)]
      · rw [if_neg hx, if_neg (fun h => by rcases List.mem_cons.1 h with h | h; exact e h.symm; exact hx h)]
theorem aset_one (L : List Int) (x : Int) (h : x ∉ L) : aset (oneM L) x (.int .i64 1) = oneM (L ++ [x]) := by
  rw [aset_none (by rw [alook_one, if_neg h])]
  unfold oneM
  rw [List.map_append]; rfl
/-- One cipher is looked at. -/
def openStep (need : Int) (C : List Ciph) (s : List SeenT × List Int) (c : Int) : List SeenT × List Int :=
  match plainC need C c with
  | some t => if c ∈ s.2 then s else (s.1 ++ [([], c, t)], s.2 ++ [c])
  | none => s
def openN (need : Int) (C : List Ciph) (s : List SeenT × List Int) (k : Nat) : List SeenT × List Int := (List.range k).foldl (fun s (i : Nat) => openStep need C s ((i : Int) + 1)) s
theorem openN_succ (need : Int) (C : List Ciph) (s : List SeenT × List Int) (k : Nat) : openN need C s (k + 1) = openStep need C (openN need C s k) ((k : Int) + 1) := by
  unfold openN; rw [List.range_succ, List.foldl_append]; rfl
theorem openStep_len (need : Int) (C : List Ciph) (s : List SeenT × List Int) (c : Int) : (openStep need C s c).1.length ≤ s.1.length + 1 := by
  unfold openStep; split
  · split <;> simp
  · omega
theorem openN_len (need : Int) (C : List Ciph) (s : List SeenT × List Int) (k : Nat) : (openN need C s k).1.length ≤ s.1.length + k := by
  induction k with
  | zero => exact Nat.le_refl _
  | succ k ih => rw [openN_succ]; have := openStep_len need C (openN need C s k) ((k : Int) + 1); omega
section
variable {w w' : World} {m : Nat → Thing} {l : List Thing} {pa p mo kw : Nat} {d : Wd} {X : WX} {B : List Int} {S : List (List UInt8 × Int × List UInt8)} {O : List (Int × Value)} {vb vs : Value} {OL : List Int}
theorem watchCell0 (h : Sys w m l) (hm : m kw = watchT pa p B S O) : w.cell? ⟨pa, 0, none⟩ = some (.pointer (some ⟨p, 0, none⟩)) := by
  obtain ⟨⟨vb, vs, mo, SX⟩, h1⟩ := (h.lift kw hm).open
  exact (cell_of_blk (h1.tail.nth 0 rfl) 0).trans rfl
set_option maxRecDepth 100000 in
set_option maxHeartbeats 4000000 in
theorem watch_open (hkw : 0 ≠ kw) (hpl : ∀ x ∈ X.C, x.plain.length ≤ 1000000000) (hS : S.length + X.C.length ≤ 1000000) (h : Sys w m l) (hm0 : m 0 = worldT p d X) (hm : m kw = watchT pa p B S (oneM OL)) :
    Calls Try.prog 26 #[.pointer (some ⟨pa, 0, none⟩)] w fun z w' => z = .returned (.tuple #[]) ∧ Sys w' (upd m kw (watchT pa p B (openN X.need X.C (S, OL) X.C.length).1 (oneM (openN X.need X.C (S, OL) X.C.length).2))) l := by
  have q0 : w.cell? ⟨pa, 0, none⟩ = some (.pointer (some ⟨p, 0, none⟩)) := watchCell0 h hm
  obtain ⟨n, hn⟩ : ∃ n, n = X.C.length := ⟨_, rfl⟩
  rw [← hn] at hS ⊢
  have H0 := Lib.hid h
  have HN := Lib.hid hn
  have HPL := Lib.hid hpl
  have HS := Lib.hid hS
  have HM0 := Lib.hid hm0
  have HM1 := Lib.hid hm
  have hup : ∀ t, upd m kw t 0 = worldT p d X := fun t => upd_ne hkw hm0
  have HUP := Lib.hid hup
  clear h hn hpl hS hm0 hm hup hkw
  go_enter Try.func26, Try.ntmps26
  go_wp2_with fail
  refine (world_vault H0.out HM0.out).mono ?_
  rintro z w1 ⟨rfl, rfl⟩
  clear q0
  go_wp2_with fail
  go_loopw [3] (fun iv wr => ∃ k : Nat, k ≤ n ∧ iv = .int .i64 ((k : Int) + 1) ∧ Sys wr (upd m kw (watchT pa p B (openN X.need X.C (S, OL) k).1 (oneM (openN X.need X.C (S, OL) k).2))) l) (fun iv _ => n + 1 - (intOf iv).toNat)
  case atStart => exact ⟨0, by omega, rfl, by rw [upd_self (show m kw = watchT pa p B (openN X.need X.C (S, OL) 0).1 (oneM (openN X.need X.C (S, OL) 0).2) from HM1.out)]; exact H0.out⟩
  case round =>
    obtain ⟨k, hk, rfl, hR⟩ := hrel
    obtain ⟨st, hst⟩ : ∃ st, st = openN X.need X.C (S, OL) k := ⟨_, rfl⟩
    have hlen := openN_len X.need X.C (S, OL) k
    rw [← hst] at hR hlen
    have HSTL : Hid (st.1.length ≤ 1000000) := by show _ ≤ _; have := HS.out; dsimp only at hlen; omega
    have HNX : Hid (openN X.need X.C (S, OL) (k + 1) = openStep X.need X.C st ((k : Int) + 1)) := by show _ = _; rw [openN_succ, hst]
    have HR := Lib.hid hR
    have HST := Lib.hid hst
    by_cases hlt : k < n
    · have hil : (k : Int) + 1 ≤ (n : Int) := by omega
      have hiw : IntKind.i64.wrap ((k : Int) + 1 + 1) = (k : Int) + 1 + 1 := by rw [IntKind.wrap_i64]; have := HS.out; omega
      have HLT := Lib.hid hlt
      clear hR hst hlen hlt hk
      go_wp2_with fail
      refine (world_len HR.out (HUP.out _)).mono ?_
      rintro z w1 ⟨rfl, rfl⟩
      rw [← HN.out]
      go_wp2_with fail
      refine (world_plain ((k : Int) + 1) HPL.out HR.out (HUP.out _)).mono ?_
      rintro z w2 (⟨hpn, rfl, h⟩ | ⟨t, v, hps, rfl, h⟩)
      · have HSAME : Hid (openStep X.need X.C st ((k : Int) + 1) = st) := by show _ = _; unfold openStep; rw [hpn]
        have H2 := Lib.hid h
        clear h hpn
        go_wp2_with fail
        go_roundw
        case rel => exact ⟨k + 1, by have := HLT.out; omega, by go_num, by rw [HNX.out, HSAME.out]; exact H2.out⟩
        case measure => simp [intOf]; have := HLT.out; omega
      · obtain ⟨⟨vb, vs, mo, SX⟩, h1⟩ := (h.lift kw (upd_same _ _ _)).open
        rw [upd_upd] at h1
        obtain ⟨hSX, h2⟩ := h1.pureW
        dsimp only at hSX h2
        obtain ⟨av, nv, cv, rfl, hnv⟩ := h.getOwn.slice
        obtain ⟨sa, sn, sc, rfl, hsn⟩ := (h2.front 2 rfl).getOwn.slice
        have e1 := ((h2.front 3 rfl).getMap).lookup (P := Try.prog) Try.underlying75 Try.underlying3 (zeroInt w2) ((k : Int) + 1) false
        rw [alook_one] at e1
        have q3 : w2.cell? ⟨pa, 3, none⟩ = some (.map (some mo)) := (cell_of_blk (h2.nth 0 rfl) 3).trans rfl
        by_cases hin : ((k : Int) + 1) ∈ st.2
        · have HSAME : Hid (openStep X.need X.C st ((k : Int) + 1) = st) := by show _ = _; unfold openStep; rw [hps]; exact if_pos hin
          rw [if_pos hin] at e1
          simp only [intKey, Option.getD, if_neg (Bool.false_ne_true)] at e1
          have H2 := Lib.hid h.tail
          clear h h1 h2 hin hps hSX hnv hsn
          go_wp2_with fail
          go_roundw
          case rel => exact ⟨k + 1, by have := HLT.out; omega, by go_num, by rw [HNX.out, HSAME.out]; exact H2.out⟩
          case measure => simp [intOf]; have := HLT.out; omega
        · have HSAME : Hid (openStep X.need X.C st ((k : Int) + 1) = (st.1 ++ [([], (k : Int) + 1, t)], st.2 ++ [(k : Int) + 1])) := by show _ = _; unfold openStep; rw [hps]; exact if_neg hin
          rw [if_neg hin] at e1
          simp only [intKey, Option.getD, if_neg (Bool.false_ne_true)] at e1
          rw [← hsn.out] at h2
          have h2b := h2.front 3 rfl
          obtain ⟨w3, hu, hmu, hcu, -⟩ := h2b.getMap.update (P := Try.prog) Try.underlying75 Try.underlying3 ((k : Int) + 1) (.int .i64 1)
          simp only [intKey] at hu
          rw [aset_one _ _ hin] at hmu
          have h3 := h2b.mapTo hmu hcu
          have q2 : w3.cell? ⟨pa, 2, none⟩ = some (.slice sa sn sc) := (cell_of_blk (h3.nth 1 rfl) 2).trans rfl
          obtain ⟨nk, y1, EN2, EX2, ES2, H3⟩ := h3.box (.cells #[.slice none 0 0, .int .i64 ((k : Int) + 1), .slice av nv cv] 60 (0, 0))
          have h4 := H3.out.front 4 rfl
          have hsb : sn ≤ 1000000000 := by
            have e0 := hsn.out
            have e : SX.length = st.1.length := by rw [← hSX, List.length_map]
            have := HSTL.out
            omega
          obtain ⟨v', y2, hap, h5⟩ := h4.appSeen (h4.nth 1 rfl) rfl rfl rfl hsb 57
          obtain ⟨a', n', cp', rfl, hn'⟩ := h5.getOwn.slice
          obtain rfl : n' = sn + 1 := hn'.out
          have h6 := (h5.dropAt 1 rfl).front 2 rfl
          have f2 := frozen_of_blk (h6.nth 0 rfl) 2
          have c2 : y2.cell? ⟨pa, 2, none⟩ = some (.slice sa sn sc) := (cell_of_blk (h6.nth 0 rfl) 2).trans rfl
          have h7 := (h6.setCell (i := 2) (.slice a' (sn + 1) cp')).push (F := fun _ => False) (t := rowB (.slice none 0 0) []) (Chg.refl _ _) ⟨Own.nil _ _ _, by funext k; simp [Value.ownBlock]⟩ (fun _ h => h.elim)
          have H8 := Lib.hid (watchClose0 (s := ⟨.slice none 0 0, [], (k : Int) + 1, .slice av nv cv, t⟩) hsn.out hSX (((((((h7.front 5 rfl).front 4 rfl).front 5 rfl).front 6 rfl).front 4 rfl).front 6 rfl).front 6 rfl))
          clear h h1 h2 h2b h3 h4 h5 h6 h7 hin hps hSX hnv hsn hn' hmu hcu hsb
          go_upto_region 3 with (first | (rw [EX2.out, EN2.out]; (at_builtin; refine wpl_append rfl _ _ _ rfl rfl rfl hap ?_)) | (at_builtin; refine wpl_append rfl _ _ _ rfl rfl rfl hap ?_))
          generalize y2.setCell ⟨pa, 2, none⟩ (.slice a' (sn + 1) cp') = y3 at *
          go_wp2_with fail
          go_roundw
          case rel => exact ⟨k + 1, by have := HLT.out; omega, by go_num, by rw [HNX.out, HSAME.out]; exact H8.out⟩
          case measure => simp [intOf]; have := HLT.out; omega
    · obtain rfl : n = k := by omega
      clear hR hlt hk hlen
      have hil : ¬ ((n : Int) + 1 ≤ (n : Int)) := by omega
      go_wp2_with fail
      refine (world_len HR.out (HUP.out _)).mono ?_
      rintro z w1 ⟨rfl, rfl⟩
      rw [← HN.out]
      go_wp2_with fail
      go_end0
      exact ⟨rfl, by rw [← HST.out]; exact HR.out⟩
end
end Go.Proofs.Ytcfhkpjheemkgaa
