/-
  TallHighs, what lies behind its walk: who gave a view up, with what; the certificate of these.
-/
import Derived.Test.YtcfhkpjheemkgaaTallAwake
import Derived.Test.YtcfhkpjheemkgaaSeq
import Derived.Maps.RangeRun
namespace Go.Proofs.Ytcfhkpjheemkgaa
set_option linter.unusedSectionVars false
set_option linter.unnecessarySimpa false
set_option linter.unusedSimpArgs false
set_option linter.unusedVariables false
open Go.RowKit Go.MapKept
section
variable {w : World} {m : Nat → Thing} {l : List Thing} {es : Array MapEntry} {clock r bf c0 : Nat} {seen : Array Nat} {α : Type} [DecidableEq α] {K : KeyEnc α} {x : List (α × Value)} {b : Nat} {P : Program}
theorem Sys.mapBlk (h : Sys w m (mapT K b x :: l)) : ∃ es clock, Stamped es clock ∧ es.toList.map (fun e => (e.key, e.val)) = x.map (fun p => (K.enc p.1, p.2)) ∧ Sys w m (blk b (.map es clock) :: l) := by
  obtain ⟨F, ⟨⟨es, clock, hb, hs, hm⟩, rfl⟩, h1, h2, h3⟩ := h.head
  exact ⟨es, clock, hs, hm, h3 w (blk b (.map es clock)) ⟨(· = b), ⟨hb, rfl⟩, fun k hk => .inl hk, Chg.refl _ _⟩⟩
theorem Sys.blkMap (h : Sys w m (blk b (.map es clock) :: l)) (hs : Stamped es clock) (hm : es.toList.map (fun e => (e.key, e.val)) = x.map (fun p => (K.enc p.1, p.2))) : Sys w m (mapT K b x :: l) := by
  obtain ⟨F, ⟨hb, rfl⟩, h1, h2, h3⟩ := h.head
  exact h3 w (mapT K b x) ⟨(· = b), ⟨⟨es, clock, hb, hs, hm⟩, rfl⟩, fun k hk => .inl hk, Chg.refl _ _⟩
/-- One round's step of 'range' over a map. -/
theorem Sys.next (h : Sys w m (blk r (.mapIter (some bf) clock seen c0) :: blk bf (.map es clock) :: l)) (hs : Stamped es clock) (hc : clock ≤ c0) :
    ((∀ e ∈ es.toList, seen.contains e.born = true) ∧ ∀ ty, (Instr.next (.pointer (some ⟨r, 0, none⟩)) false ty).run P w = .ok (.tuple #[.bool false]) w) ∨
    ∃ e ∈ es.toList, seen.contains e.born = false ∧ ∃ w', (∀ ty, (Instr.next (.pointer (some ⟨r, 0, none⟩)) false ty).run P w = .ok (.tuple #[.bool true, e.key, e.val]) w') ∧
      Sys w' m (blk r (.mapIter (some bf) clock (seen.push e.born) clock) :: blk bf (.map es clock) :: l) ∧ (Instr.entry (.pointer (some ⟨r, 0, none⟩))).run P w' = .ok (.tuple #[e.key, e.val]) w' ∧ (leftOf es (seen.push e.born)).size < (leftOf es seen).size := by
  have hr := h.getBlk
  have hb := h.tail.getBlk
  rcases run_next_at (P := P) w 0 r bf clock c0 seen es clock hr hb hs.1 hc with ⟨h0, hrun⟩ | ⟨e, he, w1, hw1, hrun⟩
  · refine .inl ⟨fun e he => ?_, fun ty => hrun⟩
    cases hcn : seen.contains e.born with
    | true => rfl
    | false =>
      have : e ∈ (leftOf es seen).toList := by
        unfold leftOf
        simp only [Array.toList_filter, List.mem_filter]
        exact ⟨he, by simp only [hcn, Bool.not_false]⟩
      have h1 : (leftOf es seen).toList.length = 0 := by simpa using h0
      rw [List.length_eq_zero_iff.1 h1] at this
      cases this
  · have hm := mem_left he
    have h1 : Sys w1 m (blk r (.mapIter (some bf) clock seen c0) :: blk bf (.map es clock) :: l) := by
      rcases hw1 with rfl | rfl
      · exact h
      · exact h.drew
    have hr1 := h1.getBlk
    have h2 := h1.store (chg_setBlock (o' := .mapIter (some bf) clock (seen.push e.born) clock) hr1) (heap_set hr1).1
    refine .inr ⟨e, hm.1, hm.2, _, fun ty => hrun, h2, ?_, left_shrinks es seen e he⟩
    exact run_entry_at (P := P) _ r bf clock seen es clock e h2.getBlk h2.tail.getBlk hm.1 hs.2.1
theorem seen_of (h : w.heap[r]? = some (.mapIter (some bf) clock seen c0)) : w.iterSeen r = seen := by unfold World.iterSeen; rw [h]
end
theorem IntsAt.get {w : World} {b off j : Nat} {L : List Int} (h : IntsAt w (some ⟨b, off, none⟩) L) (hj : j < L.length) : w.cell? ⟨b, off + j, none⟩ = some (.int .i64 (L.getD j 0)) := by
  rcases h with h | ⟨b', off', e, h⟩
  · rw [h] at hj; simp at hj
  · cases e; exact h j hj
namespace tallHighs
def hiQ : QcX := ⟨3, 70, [0, 1, 2]⟩
/-- What the world tells: all four signed the vote for the higher certificate, and each of the two ways to give view 5 up. -/
def Hw (R : Int) (X : WX) (A B C : List Int) (k : Nat) : Prop := X.Ok ∧ rootB ∈ X.T ∧ dg X.T rootB = R ∧ X.T.length ≤ k ∧ sg X (voteB 3 70) = A ∧ sg X (outB 5 0) = B ∧ sg X (outB 5 3) = C
section
variable {R : Int} {X Y : WX} {A B C : List Int} {k n : Nat}
theorem Hw.a (h : Hw R X A B C k) (who : Int) : Hw R (X.signB who (voteB 3 70)) (addTo A who) B C (k + 1) := by
  obtain ⟨h1, h2, h3, h4, h5, h6, h7⟩ := h
  refine ⟨signB_ok h1 _ _, mem_signB (.inl h2), (dg_signB (.inl h2)).trans h3, Nat.le_trans (signB_len _ _ _).1 (by omega), ?_, ?_, ?_⟩
  · rw [sg_signB h1, if_pos rfl, h5]
  · rw [sg_signB h1, if_neg (by decide), h6]
  · rw [sg_signB h1, if_neg (by decide), h7]
theorem Hw.b (h : Hw R X A B C k) (who : Int) : Hw R (X.signB who (outB 5 0)) A (addTo B who) C (k + 1) := by
  obtain ⟨h1, h2, h3, h4, h5, h6, h7⟩ := h
  refine ⟨signB_ok h1 _ _, mem_signB (.inl h2), (dg_signB (.inl h2)).trans h3, Nat.le_trans (signB_len _ _ _).1 (by omega), ?_, ?_, ?_⟩
  · rw [sg_signB h1, if_neg (by decide), h5]
  · rw [sg_signB h1, if_pos rfl, h6]
  · rw [sg_signB h1, if_neg (by decide), h7]
theorem Hw.c (h : Hw R X A B C k) (who : Int) : Hw R (X.signB who (outB 5 3)) A B (addTo C who) (k + 1) := by
  obtain ⟨h1, h2, h3, h4, h5, h6, h7⟩ := h
  refine ⟨signB_ok h1 _ _, mem_signB (.inl h2), (dg_signB (.inl h2)).trans h3, Nat.le_trans (signB_len _ _ _).1 (by omega), ?_, ?_, ?_⟩
  · rw [sg_signB h1, if_neg (by decide), h5]
  · rw [sg_signB h1, if_neg (by decide), h6]
  · rw [sg_signB h1, if_pos rfl, h7]
theorem Hw.ext (h : Hw R X A B C k) (he : X.Ext n Y) : Hw R Y A B C (k + n) := by
  obtain ⟨h1, h2, h3, h4, h5, h6, h7⟩ := h
  exact ⟨he.ok h1, he.mem h2, (he.dg h2).trans h3, by have := he.len.2; omega, by rw [sg_ext h1 he, h5], by rw [sg_ext h1 he, h6], by rw [sg_ext h1 he, h7]⟩
theorem Hw.mono (h : Hw R X A B C k) (hn : k ≤ n) : Hw R X A B C n := ⟨h.1, h.2.1, h.2.2.1, Nat.le_trans h.2.2.2.1 hn, h.2.2.2.2⟩
end
/-- Who gave view 5 up, each once, with one of the two certificates. -/
def OFit (R : Int) (O : List (Int × List (Int × QcX))) (OL : List (Int × QcX)) (j : Nat) : Prop :=
  (alook O 5).getD [] = OL ∧ (OL.map (·.1)).Nodup ∧ (∀ x ∈ OL, (0 ≤ x.1 ∧ x.1 < 4) ∧ (x.2 = ⟨0, R, []⟩ ∨ x.2 = hiQ)) ∧ OL.length ≤ j
def FM (OL : List (Int × QcX)) : List (Int × Value) := OL.map fun x => (x.1, .int .i64 x.2.view)
def QOk (R : Int) (ns : Nat) (qx : QcX) (va : Option Addr) (vk vc : Nat) : Prop := (qx = ⟨0, R, []⟩ ∧ va = none ∧ vk = 0 ∧ vc = 0) ∨ (qx = hiQ ∧ va = some ⟨ns, 0, none⟩ ∧ vk = 3 ∧ vc = 3)
/-- The greatest that the loop over 'first' has met. -/
def Mst (es : Array MapEntry) (seen : Array Nat) (a : Int) : Prop := 0 ≤ a ∧ (∀ e ∈ es.toList, seen.contains e.born = true → ∀ v, e.val = .int .i64 v → v ≤ a) ∧ (a = 0 ∨ ∃ e ∈ es.toList, e.val = .int .i64 a)
theorem Mst.none (es : Array MapEntry) : Mst es #[] 0 := ⟨Int.le_refl _, fun _ _ h => by simp at h, .inl rfl⟩
theorem born_inj {es : Array MapEntry} {clock : Nat} (h : Stamped es clock) {x y : MapEntry} (hx : x ∈ es.toList) (hy : y ∈ es.toList) (e : x.born = y.born) : x = y := by
  have h1 := find_born x es.toList h.2.1 hx
  have h2 := find_born y es.toList h.2.1 hy
  rw [e, h2] at h1
  exact (Option.some.inj h1).symm
theorem Mst.push {clock' : Nat} {es : Array MapEntry} {seen : Array Nat} {a v : Int} {e : MapEntry} (h : Mst es seen a) (he : e ∈ es.toList) (hv : e.val = .int .i64 v) (hst : Stamped es clock') : Mst es (seen.push e.born) (max a v) := by
  refine ⟨by have := h.1; omega, fun e' he' hc v' hv' => ?_, ?_⟩
  · rw [contains_push] at hc
    by_cases hb : e'.born = e.born
    · have : e' = e := born_inj hst he' he hb
      rw [this, hv] at hv'
      cases hv'
      omega
    · have h1 : seen.contains e'.born = true := by
        simp only [Bool.or_eq_true] at hc
        rcases hc with hc | hc
        · exact hc
        · simp at hc; exact (hb hc).elim
      have := h.2.1 e' he' h1 v' hv'
      omega
  · rcases (by omega : max a v = a ∨ max a v = v) with e1 | e1
    · rw [e1]; exact h.2.2
    · rw [e1]; exact .inr ⟨e, he, hv⟩
theorem zeroI (w : World) : (zeroValue 3).run Try.prog w = .ok (.int .i64 0) w := by kernel_rfl
section
variable {R : Int} {X : WX} {k j ns vk vc : Nat} {va : Option Addr} {qx : QcX} {O : List (Int × List (Int × QcX))} {OL : List (Int × QcX)} {who : Int} {t : TcX}
theorem FM_val {es : Array MapEntry} {e : MapEntry} (h : es.toList.map (fun e => (e.key, e.val)) = (FM OL).map (fun p => (intKey.enc p.1, p.2))) (he : e ∈ es.toList) : ∃ v : Int, e.val = .int .i64 v := by
  have h1 : (e.key, e.val) ∈ (FM OL).map (fun p => (intKey.enc p.1, p.2)) := by rw [← h]; exact List.mem_map.2 ⟨e, he, rfl⟩
  obtain ⟨x, hx, h2⟩ := List.mem_map.1 h1
  obtain ⟨y, hy, h3⟩ := List.mem_map.1 hx
  rw [Prod.mk.injEq] at h2
  exact ⟨y.2.view, by rw [← h2.2, ← h3]⟩
theorem alook_FM (OL : List (Int × QcX)) (who : Int) : alook (FM OL) who = (alook OL who).map fun q => Value.int .i64 q.view := alook_map (fun q : QcX => Value.int .i64 q.view) OL who
theorem FM_new (h : (alook OL who).isSome = false) : aset (FM OL) who (.int .i64 qx.view) = FM (outL OL who qx) := by
  have h0 : alook OL who = none := by simpa using h
  have h1 : alook (FM OL) who = none := by rw [alook_FM, h0]; rfl
  rw [aset_none h1]
  unfold outL
  rw [h0]
  simp [FM]
theorem FM_old (h : (alook OL who).isSome = true) : FM (outL OL who qx) = FM OL := by
  obtain ⟨q, hq⟩ := Option.isSome_iff_exists.1 h
  unfold outL
  rw [hq]
theorem QOk.len (h : QOk R ns qx va vk vc) : qx.by_.length = vk := by
  rcases h with ⟨rfl, _, rfl, _⟩ | ⟨rfl, _, rfl, _⟩ <;> rfl
theorem QOk.le (h : QOk R ns qx va vk vc) : vk ≤ 10000 := by
  rcases h with ⟨_, _, rfl, _⟩ | ⟨_, _, rfl, _⟩ <;> omega
theorem QOk.nil (h : QOk R ns qx va vk vc) (hv : va = none) : vk = 0 := by
  rcases h with ⟨_, _, rfl, _⟩ | ⟨_, h, _, _⟩
  · rfl
  · rw [h] at hv; cases hv
theorem QOk.cap (h : QOk R ns qx va vk vc) {l : List Thing} (hl : blk ns (.cells #[.int .i64 0, .int .i64 1, .int .i64 2] 3 (0, 0)) ∈ l) : Cap l (fun x => IntsAt x va qx.by_) := fun w m hs => by
  rcases h with ⟨rfl, _, _, _⟩ | ⟨rfl, rfl, _, _⟩
  · exact .inl rfl
  · exact ints_const (t := [0, 1, 2]) (Sys.memBlk hs hl)
theorem outL_keys (h : (OL.map (·.1)).Nodup) : ((outL OL who qx).map (·.1)).Nodup := by
  unfold outL
  split
  · exact h
  · rename_i e
    rw [List.map_append]
    exact List.nodup_append.2 ⟨h, by simp, by
      intro a ha b hb
      simp at hb
      subst hb
      exact fun e2 => (alook_none.1 e) (e2 ▸ ha)⟩
theorem OFit.out (h : OFit R O OL j) (hw : 0 ≤ who ∧ who < 4) (hq : QOk R ns qx va vk vc) : OFit R (outV O who 5 qx true) (outL OL who qx) (j + 1) := by
  refine ⟨?_, outL_keys h.2.1, fun x hx => ?_, Nat.le_trans (outL_len _ _ _) (by have := h.2.2.2; omega)⟩
  · unfold outV
    rw [if_pos rfl, alook_aset, if_pos rfl, h.1]
    rfl
  · rcases outL_mem hx with hx | rfl
    · exact h.2.2.1 x hx
    · refine ⟨hw, ?_⟩
      rcases hq with ⟨h, _⟩ | ⟨h, _⟩
      · exact .inl h
      · exact .inr h
theorem Hw.low (h : Hw R X (upto 4) (upto 4) (upto 4) k) : qcB X cfg4 0 R [] = true := by unfold qcB; simp [h.2.2.1]
theorem Hw.high (h : Hw R X (upto 4) (upto 4) (upto 4) k) : qcB X cfg4 3 70 [0, 1, 2] = true := by
  have h5 := h.2.2.2.2.1
  have e1 : manyB cfg4 [0, 1, 2] = true := by decide
  unfold qcB
  unfold sg at h5
  rw [if_neg (by decide), e1, h5]
  decide
theorem mem_upto (hw : 0 ≤ who ∧ who < 4) : who ∈ upto 4 := by
  unfold upto
  exact List.mem_map.2 ⟨who.toNat, by simp; omega, by simp; omega⟩
theorem Hw.counts (h : Hw R X (upto 4) (upto 4) (upto 4) k) (hw : 0 ≤ who ∧ who < 4) (hq : QOk R ns qx va vk vc) : countsB X cfg4 who 5 qx = true := by
  have h0 := mem_upto hw
  have h1 : repB cfg4 who = true := by unfold repB cfg4; simpa using hw
  unfold countsB
  rcases hq with ⟨rfl, _⟩ | ⟨rfl, _⟩
  · dsimp only
    rw [h.2.2.2.2.2.1, h1, h.low]
    simp [h0]
  · show (repB cfg4 who && decide ((1 : Int) ≤ 5) && decide ((3 : Int) < 5) && decide (who ∈ sg X (outB 5 3)) && qcB X cfg4 3 70 [0, 1, 2]) = true
    rw [h.2.2.2.2.2.2, h1, h.high]
    simp [h0]
theorem maxI_fold (L : List Int) : ∀ a, (a ≤ L.foldl max a) ∧ (∀ x ∈ L, x ≤ L.foldl max a) ∧ (L.foldl max a = a ∨ L.foldl max a ∈ L) := by
  induction L with
  | nil => intro a; exact ⟨by simp, by simp, .inl rfl⟩
  | cons b L ih =>
    intro a
    obtain ⟨h1, h2, h3⟩ := ih (max a b)
    simp only [List.foldl_cons]
    refine ⟨by omega, fun x hx => ?_, ?_⟩
    · rcases List.mem_cons.1 hx with rfl | hx
      · omega
      · exact h2 x hx
    · rcases h3 with h3 | h3
      · rw [h3]
        rcases (by omega : max a b = a ∨ max a b = b) with e | e
        · exact .inl e
        · rw [e]; exact .inr (.head _)
      · exact .inr (.tail _ h3)
theorem maxI_ge {L : List Int} {x : Int} (h : x ∈ L) : x ≤ maxI L := by
  cases L with
  | nil => cases h
  | cons a L =>
    rcases List.mem_cons.1 h with rfl | h
    · exact (maxI_fold L _).1
    · exact (maxI_fold L a).2.1 x h
theorem view_of (hn : (OL.map (·.1)).Nodup) {x : Int × QcX} (hx : x ∈ OL) : viewOf OL x.1 = x.2.view := by
  unfold viewOf
  rw [alook_of_mem hn (show (x.1, x.2) ∈ OL from hx)]
  rfl
theorem OFit.view (h : OFit R O OL j) {x : Int × QcX} (hx : x ∈ OL) : x.2.view = 0 ∨ x.2.view = 3 := by
  rcases (h.2.2.1 x hx).2 with e | e
  · rw [e]; exact .inl rfl
  · rw [e]; exact .inr rfl
/-- The greatest of all that were told is the certificate's highest. -/
theorem OFit.most (h : OFit R O OL j) (ht : TcSpec 5 OL true t) {mv : Int} (h0 : 0 ≤ mv) (hub : ∀ x ∈ OL, x.2.view ≤ mv) (hat : mv = 0 ∨ ∃ x ∈ OL, x.2.view = mv) : mv = t.hv := by
  unfold TcSpec at ht
  rw [if_pos rfl] at ht
  obtain ⟨_, g2, g3, g4, x5, g6, g7⟩ := ht
  have hm := alook_mem g7
  have e1 := hub _ hm
  have e2 := h.view hm
  dsimp only at e1 e2
  rcases hat with e | ⟨x, hx, e⟩
  · omega
  · have h1 : x.2.view ∈ t.highs := by
      rw [g3, g2]
      refine List.mem_map.2 ⟨x.1, mem_rising.2 (List.mem_map.2 ⟨x, hx, rfl⟩), view_of h.2.1 hx⟩
    have h2 := maxI_ge h1
    rw [g4] at h2
    omega
theorem OFit.tc (h : OFit R O OL j) (hH : Hw R X (upto 4) (upto 4) (upto 4) k) (ht : TcSpec 5 OL true t) (h3 : 3 ≤ OL.length) : tcB X cfg4 t = true := by
  unfold TcSpec at ht
  rw [if_pos rfl] at ht
  obtain ⟨g1, g2, g3, g4, x5, g6, g7⟩ := ht
  have hm := alook_mem g7
  have hmem : ∀ a, a ∈ t.by_ → ∃ x ∈ OL, x.1 = a := fun a ha => by
    rw [g2] at ha
    exact List.mem_map.1 (mem_rising.1 ha)
  have hrep : ∀ a, a ∈ t.by_ → 0 ≤ a ∧ a < 4 := fun a ha => by
    obtain ⟨x, hx, rfl⟩ := hmem a ha
    exact (h.2.2.1 x hx).1
  have hlen : t.by_.length = OL.length := by rw [g2, rising_length, List.length_map]
  have e1 : manyB cfg4 t.by_ = true := by
    unfold manyB
    rw [decide_eq_true_eq]
    refine ⟨fun i hi => ?_, by rw [hlen]; show (2 * 1 + 1 : Int) ≤ _; omega⟩
    have hi' : t.by_.getD i 0 ∈ t.by_ := by
      rw [List.getD_eq_getElem?_getD, List.getElem?_eq_getElem hi]; exact List.getElem_mem hi
    have hr : repB cfg4 (t.by_.getD i 0) = true := by unfold repB cfg4; simpa using hrep _ hi'
    unfold stepB
    rw [hr, Bool.true_and]
    by_cases h0 : i = 0
    · simp [h0]
    · have hlt : t.by_.Pairwise (fun a b => a < b) := by rw [g2]; exact rising_lt h.2.1
      have h1 := List.pairwise_iff_getElem.1 hlt (i - 1) i (by omega) hi (by omega)
      rw [List.getD_eq_getElem?_getD, List.getD_eq_getElem?_getD, List.getElem?_eq_getElem hi, List.getElem?_eq_getElem (show i - 1 < _ by omega)]
      simp [h1]
  have e2 : ∀ i, i < t.highs.length → tcAt X t i = true := fun i hi => by
    have hi2 : i < t.by_.length := by rw [g3] at hi; simpa using hi
    have hi' : t.by_.getD i 0 ∈ t.by_ := by
      rw [List.getD_eq_getElem?_getD, List.getElem?_eq_getElem hi2]; exact List.getElem_mem hi2
    obtain ⟨x, hx, hx1⟩ := hmem _ hi'
    have hv : t.highs.getD i 0 = x.2.view := by
      rw [← view_of h.2.1 hx, hx1, g3]
      rw [List.getD_eq_getElem?_getD, List.getD_eq_getElem?_getD, List.getElem?_map, List.getElem?_eq_getElem hi2]
      rfl
    have h8 := mem_upto (hrep _ hi')
    unfold tcAt
    rw [hv, g1]
    rcases h.view hx with e | e
    · rw [e, hH.2.2.2.2.2.1]; simp; exact h8
    · rw [e, hH.2.2.2.2.2.2]; simp; exact h8
  have e3 : qcB X cfg4 t.hv t.hb t.hby = true := by
    rcases (h.2.2.1 _ hm).2 with e | e
    · dsimp only at e
      rw [QcX.mk.injEq] at e
      obtain ⟨a, b, c⟩ := e
      rw [a, b, c]; exact hH.low
    · unfold hiQ at e
      dsimp only at e
      rw [QcX.mk.injEq] at e
      obtain ⟨a, b, c⟩ := e
      rw [a, b, c]; exact hH.high
  unfold tcB
  rw [e1, e3, g1]
  simp only [Bool.and_true, Bool.and_eq_true, decide_eq_true_eq]
  exact ⟨⟨⟨by omega, by rw [g3, List.length_map]⟩, e2⟩, g4⟩
theorem Mst.top {es : Array MapEntry} {seen : Array Nat} {a : Int} (h : Mst es seen a) (hall : ∀ e ∈ es.toList, seen.contains e.born = true) (hm : es.toList.map (fun e => (e.key, e.val)) = (FM OL).map (fun p => (intKey.enc p.1, p.2))) : (∀ x ∈ OL, x.2.view ≤ a) ∧ (a = 0 ∨ ∃ x ∈ OL, x.2.view = a) := by
  refine ⟨fun x hx => ?_, ?_⟩
  · have h1 : (intKey.enc x.1, Value.int .i64 x.2.view) ∈ es.toList.map (fun e => (e.key, e.val)) := by
      rw [hm]; exact List.mem_map.2 ⟨(x.1, .int .i64 x.2.view), List.mem_map.2 ⟨x, hx, rfl⟩, rfl⟩
    obtain ⟨e, he, h2⟩ := List.mem_map.1 h1
    rw [Prod.mk.injEq] at h2
    exact h.2.1 e he (hall e he) _ h2.2
  · rcases h.2.2 with h0 | ⟨e, he, hv⟩
    · exact .inl h0
    · have h1 : (e.key, e.val) ∈ (FM OL).map (fun p => (intKey.enc p.1, p.2)) := by rw [← hm]; exact List.mem_map.2 ⟨e, he, rfl⟩
      obtain ⟨x, hx, h2⟩ := List.mem_map.1 h1
      obtain ⟨y, hy, h3⟩ := List.mem_map.1 hx
      rw [Prod.mk.injEq] at h2
      rw [hv, ← h3] at h2
      exact .inr ⟨y, hy, by simpa using h2.2⟩
theorem OFit.lens (ht : TcSpec 5 OL true t) : t.by_.length = OL.length ∧ t.highs.length = OL.length := by
  unfold TcSpec at ht
  rw [if_pos rfl] at ht
  obtain ⟨g1, g2, g3, g4, x5, g6, g7⟩ := ht
  have hlen : t.by_.length = OL.length := by rw [g2, rising_length, List.length_map]
  exact ⟨hlen, by rw [g3, List.length_map, hlen]⟩
theorem OFit.hbyLen (h : OFit R O OL j) (ht : TcSpec 5 OL true t) : t.hby.length ≤ 10000000 := by
  unfold TcSpec at ht
  rw [if_pos rfl] at ht
  obtain ⟨g1, g2, g3, g4, x5, g6, g7⟩ := ht
  rcases (h.2.2.1 _ (alook_mem g7)).2 with e | e
  · dsimp only at e
    rw [QcX.mk.injEq] at e
    rw [e.2.2]; simp
  · unfold hiQ at e
    dsimp only at e
    rw [QcX.mk.injEq] at e
    rw [e.2.2]; simp
theorem OFit.look (h : OFit R O OL j) (ht : TcSpec 5 OL true t) {i : Nat} (hi : i < OL.length) : alook (FM OL) (t.by_.getD i 0) = some (.int .i64 (t.highs.getD i 0)) := by
  have hlen := (OFit.lens ht).1
  unfold TcSpec at ht
  rw [if_pos rfl] at ht
  obtain ⟨g1, g2, g3, g4, x5, g6, g7⟩ := ht
  have hi2 : i < t.by_.length := by omega
  have hm : t.by_.getD i 0 ∈ t.by_ := by
    rw [List.getD_eq_getElem?_getD, List.getElem?_eq_getElem hi2]; exact List.getElem_mem hi2
  have hm2 := hm
  rw [g2] at hm2
  obtain ⟨x, hx, hx1⟩ := List.mem_map.1 (mem_rising.1 hm2)
  rw [← g2] at hx1
  have hv : t.highs.getD i 0 = x.2.view := by
    rw [← view_of h.2.1 hx, hx1, g3]
    rw [List.getD_eq_getElem?_getD, List.getD_eq_getElem?_getD, List.getElem?_map, List.getElem?_eq_getElem hi2]
    rfl
  rw [hv, ← hx1, alook_FM, alook_of_mem h.2.1 (show (x.1, x.2) ∈ OL from hx)]
  rfl
end
end tallHighs
end Go.Proofs.Ytcfhkpjheemkgaa
