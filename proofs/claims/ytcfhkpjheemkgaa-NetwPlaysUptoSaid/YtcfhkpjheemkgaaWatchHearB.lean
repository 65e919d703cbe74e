/-
  What is heard: adve.Hear of any one message.
-/
import Derived.Test.YtcfhkpjheemkgaaWatchHear
import Derived.Test.YtcfhkpjheemkgaaMessCodeB
namespace Go.Proofs.Ytcfhkpjheemkgaa
set_option linter.unusedSectionVars false
set_option linter.unnecessarySimpa false
set_option linter.unusedSimpArgs false
set_option linter.unusedVariables false
open Go.RowKit Go.MapKept
section
variable {w w' : World} {m : Nat → Thing} {l : List Thing} {pa p mo kw : Nat} {d : Wd} {X : WX} {B : List Int} {S : List (List UInt8 × Int × List UInt8)} {O : List (Int × Value)} {vb vs : Value}
set_option maxRecDepth 100000 in
set_option maxHeartbeats 4000000 in
theorem watch_hear_any (P : MsgP) (hP : Cap l P.At) (hwf : P.wf) (hlen : P.blkB.length ≤ 900000000) (mb mof mc : Nat) (hmc : Cap l (fun y => ∀ (j : Nat) (v : Value), P.cells[j]? = some v → y.cell? ⟨mb, mof + j, none⟩ = some v)) (hS : S.length ≤ 1000000) (h : Sys w m l) (hm : m kw = watchT pa p B S O) :
    Calls Try.prog 23 #[.pointer (some ⟨pa, 0, none⟩), .slice (some ⟨mb, mof, none⟩) 1 mc] w fun z w' => z = .returned (.tuple #[]) ∧ Sys w' (upd m kw (watchT pa p B (S ++ [(P.code.getD [], 0, [])]) O)) l := by
  obtain ⟨⟨vb, vs, mo, SX⟩, h1⟩ := (h.lift kw hm).open
  obtain ⟨hSX, h2⟩ := h1.pureW
  dsimp only at hSX h2
  have hSl : SX.length ≤ 1000000 := by rw [← hSX, List.length_map] at hS; exact hS
  have hone : P.cells.toArray.all (·.oneCell') = true := by simp [MsgP.cells, msgCells, Value.oneCell']
  obtain ⟨cs, hcs⟩ : ∃ cs, cs = P.cells := ⟨_, rfl⟩
  have hsz : (Try.prog.info? 36).map (·.size) = some cs.toArray.size := by rw [hcs]; exact size19
  have hsl : (Try.prog.info? 36).map (·.size) = some cs.length := by rw [hcs]; exact size19
  have hcz : (#[.int .i64 0, .int .i64 0, .int .i64 0, .int .i64 0, .int .i64 0, .int .i64 0, .int .i64 0, .slice none 0 0, .int .i64 0, .slice none 0 0, .slice none 0 0, .int .i64 0, .int .i64 0, .slice none 0 0, .int .i64 0, .int .u64 0, .int .u64 0, .int .i64 0, .slice none 0 0] : Array Value).size = cs.toArray.size := by rw [hcs]; rfl
  have HC := Lib.hid (fun (w : World) (m : Nat → Thing) (l' : List Thing) (hP : Cap l' P.At) (h : Sys w m l') => mess_code P hP hwf hlen h)
  rw [← hcs] at HC hone hmc
  obtain ⟨a, n, cp, rfl, hn⟩ := (h2.front 2 rfl).getOwn.slice
  obtain ⟨bs, hbs⟩ : ∃ x, x = P.code.getD [] := ⟨_, rfl⟩
  obtain ⟨ob, hob⟩ : ∃ x, x = P.code.isSome := ⟨_, rfl⟩
  rw [← hbs, ← hob] at HC
  rw [← hbs]
  clear hob
  have HBS := Lib.hid hbs
  clear hbs
  have h3 : Sys w (upd m kw emp) (blk pa (.cells #[.pointer (some ⟨p, 0, none⟩), vb, .slice a n cp, .map (some mo)] 119 (0, 0)) :: own 3 1 vb B.length (B.map (Value.int .i64)) :: own 60 3 (.slice a n cp) n (flatS SX) :: mapT intKey mo O :: rowsT SX :: l) := by rw [← hn.out] at h2; exact h2
  have HC1 : Hid (∀ (j : Nat) (v : Value), cs[j]? = some v → w.cell? ⟨mb, mof + j, none⟩ = some v) := hmc _ _ h
  obtain ⟨n5, x1, EN1, EX1, ES1, H1⟩ := h3.box (.cells #[.int .i64 0, .int .i64 0, .int .i64 0, .int .i64 0, .int .i64 0, .int .i64 0, .int .i64 0, .slice none 0 0, .int .i64 0, .slice none 0 0, .slice none 0 0, .int .i64 0, .int .i64 0, .slice none 0 0, .int .i64 0, .int .u64 0, .int .u64 0, .int .i64 0, .slice none 0 0] 36 (0, 0))
  have hb5 : x1.heap[n5]? = some (.cells #[.int .i64 0, .int .i64 0, .int .i64 0, .int .i64 0, .int .i64 0, .int .i64 0, .int .i64 0, .slice none 0 0, .int .i64 0, .slice none 0 0, .slice none 0 0, .int .i64 0, .int .i64 0, .slice none 0 0, .int .i64 0, .int .u64 0, .int .u64 0, .int .i64 0, .slice none 0 0] 36 (0, 0)) := H1.out.nth 0 rfl
  obtain ⟨x2, hx2⟩ : ∃ x, x = x1.setRow n5 cs.toArray := ⟨_, rfl⟩
  have H2 : Hid (Sys x2 (upd m kw emp) (blk n5 (.cells cs.toArray 36 (0, 0)) :: blk pa (.cells #[.pointer (some ⟨p, 0, none⟩), vb, .slice a n cp, .map (some mo)] 119 (0, 0)) :: own 3 1 vb B.length (B.map (Value.int .i64)) :: own 60 3 (.slice a n cp) n (flatS SX) :: mapT intKey mo O :: rowsT SX :: l)) := by
    rw [hx2]
    exact H1.out.store ((Chg.refl (· = n5) x1).row cs.toArray) (setRow_heap _ _ _ _ _ _ hb5)
  have HX2 := Lib.hid hx2
  have HB5 := Lib.hid hb5
  have HP := Lib.hid hP
  have HN := hn
  have HSL := Lib.hid hSl
  have HSX := Lib.hid hSX
  clear h h1 h2 h3 hm hcs hP hlen hmc hx2 hb5 hSX hSl hn hS H1
  go_enter Try.func23, Try.ntmps23
  go_wp2_with fail
  go_loopw [10] (fun iv wr => (iv = .int .i64 0 ∧ wr = w) ∨ (iv = .int .i64 1 ∧ Sys wr (upd m kw (watchT pa p B (S ++ [(bs, 0, [])]) O)) l)) (fun iv _ => 1 - (intOf iv).toNat)
  case atStart => exact .inl ⟨rfl, rfl⟩
  case round =>
    rcases hrel with ⟨rfl, rfl⟩ | ⟨rfl, hR⟩
    · go_upto_region 3 with (first | (refine wpList_load_at rfl 36 _ rfl mb mof rfl cs _ HC1.out Try.underlying36 rfl hsl ?_) | (rw [EX1.out, EN1.out]; refine wpList_store_row rfl 36 _ _ rfl n5 cs.toArray rfl rfl _ _ HB5.out hsz hcz hone ?_; rw [← HX2.out]))
      have hb := H2.out.nth 0 rfl
      go_wp2_with (refine wpList_load_row rfl 36 _ rfl n5 rfl _ _ _ _ hb Try.underlying36 rfl hsz ?_)
      refine (HC.out x2 _ _ (fun y m' hs => HP.out y m' hs.tail.tail.tail.tail.tail.tail) H2.out).mono ?_
      rintro z w2 ⟨v, rfl, h⟩
      clear hb
      obtain ⟨av, nv, cv, rfl, hnv⟩ := h.getOwn.slice
      have q2 : w2.cell? ⟨pa, 2, none⟩ = some (.slice a n cp) := (cell_of_blk (h.nth 2 rfl) 2).trans rfl
      obtain ⟨nk, y1, EN2, EX2, ES2, H3⟩ := h.box (.cells #[.slice av nv cv, .int .i64 0, .slice none 0 0] 60 (0, 0))
      have h4 := H3.out.front 5 rfl
      obtain ⟨v', y2, hap, h5⟩ := h4.appSeen (h4.nth 1 rfl) rfl rfl rfl (by have := HN.out; have := HSL.out; omega) 57
      obtain ⟨a', n', cp', rfl, hn'⟩ := h5.getOwn.slice
      obtain rfl : n' = n + 1 := hn'.out
      have f2 := frozen_of_blk (h5.nth 4 rfl) 2
      have c2 : y2.cell? ⟨pa, 2, none⟩ = some (.slice a n cp) := (cell_of_blk (h5.nth 4 rfl) 2).trans rfl
      have H5 := Lib.hid ((h5.front 4 rfl).setCell (i := 2) (.slice a' (n + 1) cp'))
      clear h h4 h5 hn'
      go_upto_region 5 with (first | (rw [EX2.out, EN2.out]; (at_builtin; refine wpl_append rfl _ _ _ rfl rfl rfl hap ?_)) | (at_builtin; refine wpl_append rfl _ _ _ rfl rfl rfl hap ?_))
      have hfin : Sys (y2.setCell ⟨pa, 2, none⟩ (.slice a' (n + 1) cp')) (upd m kw (watchT pa p B (S ++ [(bs, 0, [])]) O)) l := by
        exact watchClose HN.out HSX.out H5.out
      generalize y2.setCell ⟨pa, 2, none⟩ (.slice a' (n + 1) cp') = y3 at *
      have HF := Lib.hid hfin
      clear hfin
      go_wp2_with fail
      go_roundw
      case rel => exact .inr ⟨rfl, HF.out⟩
      case measure => simp [intOf]
    · have HR := Lib.hid hR
      clear hR
      go_wp2_with fail
      go_end0
      exact ⟨rfl, HR.out⟩
end
end Go.Proofs.Ytcfhkpjheemkgaa
