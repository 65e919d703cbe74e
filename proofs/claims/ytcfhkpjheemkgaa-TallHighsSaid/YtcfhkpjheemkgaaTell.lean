/-
  tall.Out that counts nothing; Vote and Out, each as one contract.
-/
import Derived.Test.YtcfhkpjheemkgaaOutManyC
namespace Go.Proofs.Ytcfhkpjheemkgaa
set_option linter.unusedSectionVars false
set_option linter.unnecessarySimpa false
set_option linter.unusedSimpArgs false
set_option linter.unusedVariables false
open Go.RowKit Go.MapKept

section
variable {w w' : World} {m : Nat → Thing} {l : List Thing} {p q : Nat} {d : Wd} {X : WX} {V : List ((Int × Int) × List Int)} {O : List (Int × List (Int × QcX))}
set_option maxRecDepth 100000 in
set_option maxHeartbeats 4000000 in
theorem tally_out_no (c : CfgX) (hg : c.Good) (who view : Int) (qx : QcX) (ga : Option Addr) (gc g : Nat) (hgn : qx.by_.length = g) (hgl : g ≤ 10000) (hga : ga = none → g = 0) (hGI : Cap l (fun x => IntsAt x ga qx.by_)) (h : Sys w m (tallyT q p c V O :: l)) (hw : m 0 = worldT p d X) (hX : X.Ok) (hr : rootB ∈ X.T) (hT : X.T.length ≤ 900000000) (hco : countsB X c who view qx = false) :
    Calls Try.prog 44 #[.pointer (some ⟨q, 0, none⟩), .int .i64 who, .int .i64 view, .agg #[.int .i64 qx.view, .int .i64 qx.block, .slice ga g gc]] w (NoOut m l p q d X c V O) := by
  obtain ⟨⟨vb, ob⟩, h⟩ := h.open
  replace h : Sys w m (blk q (.cells #[.pointer (some ⟨p, 0, none⟩), .int .i64 c.f, .int .i64 c.n, .int .i64 c.cl, .int .i64 c.ba, .int .i64 c.mo, .int .i64 c.bt, .int .i64 c.po, .int .i64 c.wi, .map (some vb), .map (some ob)] 143 (0, 0)) :: votesT vb V :: outsT ob O :: l) := h
  have HG := Lib.hid hg
  have HGI := Lib.hid hGI
  have HX := Lib.hid hX
  have HRT := Lib.hid hr
  have HTL := Lib.hid hT
  have HGN := Lib.hid hgn
  have HGL := Lib.hid hgl
  have HGA := Lib.hid hga
  obtain ⟨nq, hnq⟩ : ∃ n, n = w.heap.size := ⟨_, rfl⟩
  obtain ⟨xq, hxq⟩ : ∃ y, y = w.alloc (.cells #[.int .i64 qx.view, .int .i64 qx.block, .slice ga g gc] 28 (0, 0)) := ⟨_, rfl⟩
  have hbq := h.alloc (.cells #[.int .i64 qx.view, .int .i64 qx.block, .slice ga g gc] 28 (0, 0)) hnq
  rw [← hxq] at hbq
  have EXq : Hid (w.alloc (.cells #[.int .i64 qx.view, .int .i64 qx.block, .slice ga g gc] 28 (0, 0)) = xq) := hxq.symm
  have ENq : Hid (w.heap.size = nq) := by show _ = _; rw [hnq]
  obtain ⟨nr, hnr⟩ : ∃ n, n = xq.heap.size := ⟨_, rfl⟩
  obtain ⟨xr, hxr⟩ : ∃ y, y = xq.alloc (.cells #[.int .i64 0, .slice none 0 0, .slice none 0 0, .int .i64 0, .int .i64 0, .slice none 0 0] 30 (0, 0)) := ⟨_, rfl⟩
  have hbr := hbq.alloc (.cells #[.int .i64 0, .slice none 0 0, .slice none 0 0, .int .i64 0, .int .i64 0, .slice none 0 0] 30 (0, 0)) hnr
  rw [← hxr] at hbr
  have EXr : Hid (xq.alloc (.cells #[.int .i64 0, .slice none 0 0, .slice none 0 0, .int .i64 0, .int .i64 0, .slice none 0 0] 30 (0, 0)) = xr) := hxr.symm
  have ENr : Hid (w.heap.size + 1 = nr) := by show _ = _; rw [hnr, hxq]; simp
  have H0 := Lib.hid hbr
  clear h hbq hxq hnq hbr hxr hnr
  clear hg hGI hX hr hT hgn hgl hga
  have hbq := H0.out.tail.getBlk
  have HC1 := Lib.hid (tally_counts c HG.out who view qx ga gc g HGN.out (by have := HGL.out; omega) HGI.out.push.push.push.push.push (H0.out.perm (perm_c _ _ _ _ _ _)) hw HX.out HRT.out HTL.out)
  rw [hco] at HC1
  clear hco
  go_enter Try.func44, Try.ntmps44
  go_upto_region 1 with fail
  rw [EXq.out, EXr.out, ENr.out, ENq.out]
  go_wp2_with (refine wpList_load_row rfl 28 _ rfl nq rfl _ _ _ _ hbq Try.underlying28 rfl size3 ?_)
  refine HC1.out.mono ?_
  rintro e w2 ⟨rfl, X1, HEX, h2⟩
  have HE := Lib.hid HEX
  have HSR := Lib.hid (h2.front 1 rfl)
  clear h2 HEX hbq HC1
  have hbr : w2.heap[nr]? = _ := HSR.out.getBlk
  have hzz := setRow_heap w2 nr _ #[.int .i64 0, .slice none 0 0, .slice none 0 0, .int .i64 0, .int .i64 0, .slice none 0 0] _ _ hbr
  have HF := Lib.hid (HSR.out.store ((Chg.refl (· = nr) w2).row #[.int .i64 0, .slice none 0 0, .slice none 0 0, .int .i64 0, .int .i64 0, .slice none 0 0]) hzz)
  go_wp2_with (refine wpList_store_row rfl 30 _ _ rfl nr #[.int .i64 0, .slice none 0 0, .slice none 0 0, .int .i64 0, .int .i64 0, .slice none 0 0] rfl rfl _ _ hbr size6 rfl (by simp [Value.oneCell']) ?_)
  (try simp only [Exit.inBlock, Exit.then])
  refine bodyPost_ret (results_cell_tmp (cs := #[.int .i64 0, .slice none 0 0, .slice none 0 0, .int .i64 0, .int .i64 0, .slice none 0 0]) rfl _ _ nr _ _ _ rfl hzz Try.underlying30 rfl size6) rfl ?_
  exact ⟨rfl, X1, HE.out, Sys.close (vb, ob) ((HF.out.tail.front 1 rfl).tail)⟩

def voteOk (X : WX) (c : CfgX) (who view block : Int) : Bool := repB c who && decide (1 ≤ view) && decide (who ∈ sg X (voteB view block))
def voteV (V : List ((Int × Int) × List Int)) (who view block : Int) (ok : Bool) : List ((Int × Int) × List Int) := if ok then aset V (view, block) (addTo (voters V (view, block)) who) else V
def voteYes (X : WX) (c : CfgX) (V : List ((Int × Int) × List Int)) (who view block : Int) : Bool := voteOk X c who view block && decide (2 * c.f + 1 ≤ ((addTo (voters V (view, block)) who).length : Int))
theorem Sys.nilOwn (h : Sys w m l) : Sys w m (own 3 1 (.slice none 0 0) 0 [] :: l) :=
  h.push (F := fun _ => False) (t := own 3 1 (.slice none 0 0) 0 []) (Chg.refl _ _) ⟨Own.nil _ _ _, by funext k; simp [Value.ownBlock]⟩ (fun _ h => h.elim)
theorem tally_vote (c : CfgX) (hg : c.Good) (who view block : Int) (h : Sys w m (tallyT q p c V O :: l)) (hw : m 0 = worldT p d X) (hT : X.T.length ≤ 1000000000) (hlb : (voters V (view, block)).length ≤ 1000000) :
    Calls Try.prog 41 #[.pointer (some ⟨q, 0, none⟩), .int .i64 who, .int .i64 view, .int .i64 block] w fun e w' => ∃ v L yes, yes = voteYes X c V who view block ∧ L = (if yes = true then rising (addTo (voters V (view, block)) who) else []) ∧ e = .returned (.tuple #[.agg #[.int .i64 (if yes = true then view else 0), .int .i64 (if yes = true then block else 0), v], .bool yes]) ∧
      ∃ X', X.Ext 1 X' ∧ Sys w' (upd m 0 (worldT p d X')) (own 3 1 v L.length (L.map (Value.int .i64)) :: tallyT q p c (voteV V who view block (voteOk X c who view block)) O :: l) := by
  cases hok : voteOk X c who view block with
  | false =>
    have hno : ¬ (repB c who = true ∧ 1 ≤ view ∧ who ∈ X.f (dg X.T (voteB view block))) := fun ⟨h1, h2, h3⟩ => by
      unfold voteOk sg at hok
      simp [h1, h2, h3] at hok
    refine (tally_vote_no c hg who view block h hw hT hno).mono ?_
    rintro e w' ⟨rfl, hs⟩
    refine ⟨.slice none 0 0, [], false, by simp [voteYes, hok], by simp, rfl, _, ?_, hs.nilOwn⟩
    by_cases hb : repB c who = true ∧ 1 ≤ view
    · rw [if_pos hb]; exact X.ext_digest _
    · rw [if_neg hb]; exact (WX.Ext.refl X).mono (Nat.zero_le _)
  | true =>
    unfold voteOk sg at hok
    simp only [Bool.and_eq_true, decide_eq_true_eq] at hok
    obtain ⟨⟨h1, h2⟩, h3⟩ := hok
    have hy : voteYes X c V who view block = decide (2 * c.f + 1 ≤ ((addTo (voters V (view, block)) who).length : Int)) := by unfold voteYes voteOk sg; simp [h1, h2, h3]
    by_cases hq : 2 * c.f + 1 ≤ ((addTo (voters V (view, block)) who).length : Int)
    · refine (tally_vote_many c hg who view block h hw hT h1 h2 h3 hlb (by omega)).mono ?_
      rintro e w' ⟨v, rfl, hs⟩
      exact ⟨v, _, true, by rw [hy]; simp [hq], by rw [if_pos rfl], rfl, _, X.ext_digest _, hs⟩
    · refine (tally_vote_few c hg who view block h hw hT h1 h2 h3 hlb (by omega)).mono ?_
      rintro e w' ⟨rfl, hs⟩
      exact ⟨.slice none 0 0, [], false, by rw [hy]; simp [hq], by simp, rfl, _, X.ext_digest _, hs.nilOwn⟩

def outV (O : List (Int × List (Int × QcX))) (who view : Int) (qx : QcX) (ok : Bool) : List (Int × List (Int × QcX)) := if ok then aset O view (outL ((alook O view).getD []) who qx) else O
def outYes (X : WX) (c : CfgX) (O : List (Int × List (Int × QcX))) (who view : Int) (qx : QcX) : Bool := countsB X c who view qx && decide (2 * c.f + 1 ≤ ((outL ((alook O view).getD []) who qx).length : Int))
def TcSpec (view : Int) (L : List (Int × QcX)) (yes : Bool) (t : TcX) : Prop :=
  if yes = true then t.view = view ∧ t.by_ = rising (L.map (·.1)) ∧ t.highs = t.by_.map (viewOf L) ∧ maxI t.highs = t.hv ∧ (∃ x ∈ t.by_, alook L x = some ⟨t.hv, t.hb, t.hby⟩) else t = ⟨0, [], [], 0, 0, []⟩
theorem outL_mem {L : List (Int × QcX)} {who : Int} {qx : QcX} {x : Int × QcX} (h : x ∈ outL L who qx) : x ∈ L ∨ x = (who, qx) := by
  unfold outL at h
  split at h
  · exact .inl h
  · rcases List.mem_append.1 h with h | h
    · exact .inl h
    · exact .inr (by simpa using h)
theorem outL_len (L : List (Int × QcX)) (who : Int) (qx : QcX) : (outL L who qx).length ≤ L.length + 1 := by
  unfold outL
  split <;> simp
theorem tally_out (c : CfgX) (hg : c.Good) (who view : Int) (qx : QcX) (ga : Option Addr) (gc g : Nat) (hgn : qx.by_.length = g) (hgl : g ≤ 10000) (hga : ga = none → g = 0) (hGI : Cap l (fun x => IntsAt x ga qx.by_)) (h : Sys w m (tallyT q p c V O :: l)) (hw : m 0 = worldT p d X) (hX : X.Ok) (hr : rootB ∈ X.T) (hT : X.T.length ≤ 900000000) (hbys : ∀ x ∈ (alook O view).getD [], x.2.by_.length ≤ 10000) (hql : ((alook O view).getD []).length ≤ 900000) :
    Calls Try.prog 44 #[.pointer (some ⟨q, 0, none⟩), .int .i64 who, .int .i64 view, .agg #[.int .i64 qx.view, .int .i64 qx.block, .slice ga g gc]] w fun e w' => ∃ va vh vc t yes, yes = outYes X c O who view qx ∧ TcSpec view (outL ((alook O view).getD []) who qx) yes t ∧ e = .returned (.tuple #[.agg #[.int .i64 t.view, va, vh, .int .i64 t.hv, .int .i64 t.hb, vc], .bool yes]) ∧
      ∃ X', X.Ext 2 X' ∧ Sys w' (upd m 0 (worldT p d X')) (own 3 1 vc t.hby.length (t.hby.map (Value.int .i64)) :: own 3 1 va t.by_.length (t.by_.map (Value.int .i64)) :: own 3 1 vh t.highs.length (t.highs.map (Value.int .i64)) :: tallyT q p c V (outV O who view qx (countsB X c who view qx)) :: l) := by
  have hb1 : ∀ x ∈ outL ((alook O view).getD []) who qx, x.2.by_.length ≤ 10000 := fun x hx => by
    rcases outL_mem hx with hx | rfl
    · exact hbys x hx
    · show qx.by_.length ≤ _; omega
  have hb2 : (outL ((alook O view).getD []) who qx).length ≤ 1000000 := Nat.le_trans (outL_len _ _ _) (by omega)
  cases hco : countsB X c who view qx with
  | false =>
    refine (tally_out_no c hg who view qx ga gc g hgn hgl hga hGI h hw hX hr hT hco).mono ?_
    rintro e w' ⟨rfl, X', hE, hs⟩
    exact ⟨.slice none 0 0, .slice none 0 0, .slice none 0 0, ⟨0, [], [], 0, 0, []⟩, false, by simp [outYes, hco], by simp [TcSpec], rfl, X', hE, hs.nilOwn.nilOwn.nilOwn⟩
  | true =>
    by_cases hq : 2 * c.f + 1 ≤ ((outL ((alook O view).getD []) who qx).length : Int)
    · refine (tally_out_many c hg who view qx ga gc g hgn hgl hga hGI h hw hX hr hT hco hb1 hb2 (by omega)).mono ?_
      rintro e w' ⟨va, vh, vc, t, rfl, h1, h2, h3, h4, h5, X', hE, hs⟩
      refine ⟨va, vh, vc, t, true, by simp [outYes, hco, hq], ?_, by rw [h1], X', hE, hs⟩
      unfold TcSpec
      rw [if_pos rfl]
      exact ⟨h1, h2, h3, h4, h5⟩
    · refine (tally_out_few c hg who view qx ga gc g hgn hgl hga hGI h hw hX hr hT hco (by omega)).mono ?_
      rintro e w' ⟨rfl, X', hE, hs⟩
      exact ⟨.slice none 0 0, .slice none 0 0, .slice none 0 0, ⟨0, [], [], 0, 0, []⟩, false, by simp [outYes, hco, hq], by simp [TcSpec], rfl, X', hE, hs.nilOwn.nilOwn.nilOwn⟩
end
end Go.Proofs.Ytcfhkpjheemkgaa
