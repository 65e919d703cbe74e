/-
  The pool: what is taken, the fees of a client, Add where there is room.
-/
import Derived.Test.YtcfhkpjheemkgaaGreatLedgNew
namespace Go.Proofs.YtcfhkpjheemkgaaGreat
set_option linter.unusedSectionVars false
set_option linter.unnecessarySimpa false
set_option linter.unusedSimpArgs false
set_option linter.unusedVariables false
open Go.RowKit Go.MapKept

def takenB (e x : EnvX) : Bool := decide (x.client = e.client ∧ x.nonce = e.nonce)
def sumF (e : EnvX) (L : List EnvX) : Int := e.fee + ((L.filter fun x => decide (x.client = e.client)).map (·.fee)).sum
section
variable {w w' : World} {m : Nat → Thing} {l r : List Thing} {p pp pl n : Nat} {d : Wd} {X : WX} {most : Int} {L : List EnvX} {e x : EnvX}
set_option maxRecDepth 100000 in
set_option maxHeartbeats 1000000 in
theorem taken_fun (ne : Nat) (hb : Cap r (fun y => y.heap[ne]? = some (.cells #[.int .i64 e.client, .int .u64 e.nonce, .int .u64 e.fee, .int .i64 e.cipher] 55 (0, 0)))) (h : Sys w m r) :
    Calls Tryz.prog 88 #[.agg #[.int .i64 x.client, .int .u64 x.nonce, .int .u64 x.fee, .int .i64 x.cipher], .pointer (some ⟨ne, 0, none⟩)] w fun z w' => z = .returned (.bool (takenB e x)) ∧ Sys w' m r := by
  obtain ⟨nx, x1, EN1, EX1, ES1, H1⟩ := h.box (.cells #[.int .i64 x.client, .int .u64 x.nonce, .int .u64 x.fee, .int .i64 x.cipher] 55 (0, 0))
  obtain ⟨c0, c1, c2, c3⟩ := cells4 (H1.out.nth 0 rfl)
  have hbe := hb _ _ H1.out.tail
  obtain ⟨e0, e1, e2, e3⟩ := cells4 hbe
  clear h hb
  by_cases hc : x.client = e.client
  · have d1 : (x.client == e.client) = true := by simpa using hc
    by_cases hn : x.nonce = e.nonce
    · have d2 : (x.nonce == e.nonce) = true := by simpa using hn
      have HR : Hid (takenB e x = true) := by show _ = _; unfold takenB; simp [hc, hn]
      clear hc hn
      go_enter Tryz.func88, Tryz.ntmps88
      go_upto_region 1 with fail
      rw [EX1.out, EN1.out]
      go_wp2_with fail
      all_goals
        go_ret
        exact ⟨by rw [HR.out]; rfl, H1.out.tail⟩
    · have d2 : (x.nonce == e.nonce) = false := by simpa using hn
      have HR : Hid (takenB e x = false) := by show _ = _; unfold takenB; simp [hn]
      clear hc hn
      go_enter Tryz.func88, Tryz.ntmps88
      go_upto_region 1 with fail
      rw [EX1.out, EN1.out]
      go_wp2_with fail
      all_goals
        go_ret
        exact ⟨by rw [HR.out]; rfl, H1.out.tail⟩
  · have d1 : (x.client == e.client) = false := by simpa using hc
    have HR : Hid (takenB e x = false) := by show _ = _; unfold takenB; simp [hc]
    clear hc
    go_enter Tryz.func88, Tryz.ntmps88
    go_upto_region 1 with fail
    rw [EX1.out, EN1.out]
    go_wp2_with fail
    all_goals
      go_ret
      exact ⟨by rw [HR.out]; rfl, H1.out.tail⟩
def lessB (e x : EnvX) : Bool := decide (x.client = e.client ∧ x.nonce < e.nonce)
set_option maxRecDepth 100000 in
set_option maxHeartbeats 1000000 in
theorem less_fun (ne : Nat) (hb : Cap r (fun y => y.heap[ne]? = some (.cells #[.int .i64 e.client, .int .u64 e.nonce, .int .u64 e.fee, .int .i64 e.cipher] 55 (0, 0)))) (h : Sys w m r) :
    Calls Tryz.prog 98 #[.agg #[.int .i64 x.client, .int .u64 x.nonce, .int .u64 x.fee, .int .i64 x.cipher], .pointer (some ⟨ne, 0, none⟩)] w fun z w' => z = .returned (.bool (lessB e x)) ∧ Sys w' m r := by
  obtain ⟨nx, x1, EN1, EX1, ES1, H1⟩ := h.box (.cells #[.int .i64 x.client, .int .u64 x.nonce, .int .u64 x.fee, .int .i64 x.cipher] 55 (0, 0))
  obtain ⟨c0, c1, c2, c3⟩ := cells4 (H1.out.nth 0 rfl)
  have hbe := hb _ _ H1.out.tail
  obtain ⟨e0, e1, e2, e3⟩ := cells4 hbe
  clear h hb hbe
  by_cases hc : x.client = e.client
  · have d1 : (x.client == e.client) = true := by simpa using hc
    have HR : Hid (decide (x.nonce < e.nonce) = lessB e x) := by show _ = _; unfold lessB; simp [hc]
    clear hc
    go_enter Tryz.func98, Tryz.ntmps98
    go_upto_region 1 with fail
    rw [EX1.out, EN1.out]
    go_wp2_with fail
    all_goals
      go_ret
      exact ⟨by rw [← HR.out]; rfl, H1.out.tail⟩
  · have d1 : (x.client == e.client) = false := by simpa using hc
    have HR : Hid (lessB e x = false) := by show _ = _; unfold lessB; simp [hc]
    clear hc
    go_enter Tryz.func98, Tryz.ntmps98
    go_upto_region 1 with fail
    rw [EX1.out, EN1.out]
    go_wp2_with fail
    all_goals
      go_ret
      exact ⟨by rw [HR.out]; rfl, H1.out.tail⟩
theorem enter_taken (zs : Array Value) (x : World) : (callFunc 88 zs).run Tryz.prog x = .ok (.enter 88 zs) x := by kernel_rfl
theorem enter_less (zs : Array Value) (x : World) : (callFunc 98 zs).run Tryz.prog x = .ok (.enter 98 zs) x := by kernel_rfl
theorem enter_low (zs : Array Value) (x : World) : (callFunc 97 zs).run Tryz.prog x = .ok (.enter 97 zs) x := by kernel_rfl
def lowB (L : List EnvX) (e : EnvX) : Bool := !(L.any (lessB e))
set_option maxRecDepth 100000 in
set_option maxHeartbeats 1000000 in
theorem low_fun (nl : Nat) (ia : Option Addr) (ic n : Nat) (HN : Hid (L.length = n)) (hn : n ≤ 1000000) (hI : Cap r (fun y => EnvsAt y ia L)) (hb : Cap r (fun y => y.heap[nl]? = some (.cells #[.slice ia n ic] 39 (0, 0)))) (h : Sys w m r) :
    Calls Tryz.prog 97 #[.agg #[.int .i64 e.client, .int .u64 e.nonce, .int .u64 e.fee, .int .i64 e.cipher], .pointer (some ⟨nl, 0, none⟩)] w fun z w' => z = .returned (.bool (lowB L e)) ∧ Sys w' m r := by
  obtain ⟨ne, x1, EN1, EX1, ES1, H1⟩ := h.box (.cells #[.int .i64 e.client, .int .u64 e.nonce, .int .u64 e.fee, .int .i64 e.cipher] 55 (0, 0))
  have HC := Lib.hid (env_contains1 98 enter_less (.pointer (some ⟨ne, 0, none⟩)) (lessB e) L ia ic n HN hn (fun _ y => Sys y m (blk ne (.cells #[.int .i64 e.client, .int .u64 e.nonce, .int .u64 e.fee, .int .i64 e.cipher] 55 (0, 0)) :: r)) 0 (fun _ y hs => hI y m hs.tail)
    (fun z _ _ y _ hs => less_fun ne (fun y m' hs => hs.getBlk) hs) H1.out)
  have c0 := cell_of_blk (hb _ _ H1.out.tail) 0
  simp at c0
  clear h hb hI
  go_enter Tryz.func97, Tryz.ntmps97
  go_upto_region 1 with fail
  rw [EX1.out, EN1.out]
  go_wp2_with fail
  refine HC.out.mono ?_
  rintro z y1 ⟨rfl, _, _, h⟩
  have H2 := Lib.hid h
  clear h HC c0
  have HL : Hid ((!(L.any (lessB e))) = lowB L e) := rfl
  go_wp2_with fail
  go_ret
  exact ⟨by rw [← HL.out]; rfl, H2.out.tail⟩
set_option maxRecDepth 100000 in
set_option maxHeartbeats 1000000 in
theorem pool_first (ia : Option Addr) (ic n : Nat) (HN : Hid (L.length = n)) (hn : n ≤ 1000000) (hI : Cap l (fun y => EnvsAt y ia L)) (h : Sys w m l) :
    Calls Tryz.prog 76 #[.slice ia n ic] w fun z w' => z = .returned (.int .i64 (idxI (lowB L) L)) ∧ Sys w' m l := by
  obtain ⟨nl, x1, EN1, EX1, ES1, H1⟩ := h.box (.cells #[.slice ia n ic] 39 (0, 0))
  have HC := Lib.hid (env_index1 97 enter_low (.pointer (some ⟨nl, 0, none⟩)) (lowB L) L ia ic n HN hn (fun _ y => Sys y m (blk nl (.cells #[.slice ia n ic] 39 (0, 0)) :: l)) 0 (fun _ y hs => hI y m hs.tail)
    (fun z _ _ y _ hs => low_fun nl ia ic n HN hn hI.push (fun y m' hs => hs.getBlk) hs) H1.out)
  have c0 := cell_of_blk (H1.out.nth 0 rfl) 0
  simp at c0
  clear h hI
  go_enter Tryz.func76, Tryz.ntmps76
  go_upto_region 1 with fail
  rw [EX1.out, EN1.out]
  go_wp2_with fail
  refine HC.out.mono ?_
  rintro z y1 ⟨rfl, _, _, h⟩
  have H2 := Lib.hid h
  clear h HC c0
  go_wp2_with fail
  go_ret
  exact ⟨rfl, H2.out.tail⟩
set_option maxRecDepth 100000 in
set_option maxHeartbeats 1000000 in
theorem pool_taken (hL : L.length ≤ 1000000) (h : Sys w m l) (hm : m 3 = poolT pp p most L) :
    Calls Tryz.prog 53 #[.pointer (some ⟨pp, 0, none⟩), .agg #[.int .i64 e.client, .int .u64 e.nonce, .int .u64 e.fee, .int .i64 e.cipher]] w fun z w' => z = .returned (.bool (L.any (takenB e))) ∧ Sys w' m l := by
  obtain ⟨ne, x1, EN1, EX1, ES1, H1⟩ := h.box (.cells #[.int .i64 e.client, .int .u64 e.nonce, .int .u64 e.fee, .int .i64 e.cipher] 55 (0, 0))
  obtain ⟨v, h1⟩ := (H1.out.lift 3 hm).open
  replace h1 : Sys x1 (upd m 3 emp) (blk pp (.cells #[.pointer (some ⟨p, 0, none⟩), .int .i64 most, v] 86 (0, 0)) :: own 55 4 v L.length (flatE L) :: blk ne (.cells #[.int .i64 e.client, .int .u64 e.nonce, .int .u64 e.fee, .int .i64 e.cipher] 55 (0, 0)) :: l) := h1
  obtain ⟨va, k, vc, rfl, hk⟩ := h1.tail.getOwn.slice
  obtain rfl := hk.out
  have H2 := Lib.hid h1
  have HC := Lib.hid (env_contains1 88 enter_taken (.pointer (some ⟨ne, 0, none⟩)) (takenB e) L va vc L.length rfl hL (fun _ y => Sys y (upd m 3 emp) (blk pp (.cells #[.pointer (some ⟨p, 0, none⟩), .int .i64 most, .slice va L.length vc] 86 (0, 0)) :: own 55 4 (.slice va L.length vc) L.length (flatE L) :: blk ne (.cells #[.int .i64 e.client, .int .u64 e.nonce, .int .u64 e.fee, .int .i64 e.cipher] 55 (0, 0)) :: l)) 0 (fun _ y hs => hs.tail.getOwn.envsAt)
    (fun z _ _ y _ hs => taken_fun ne (fun y m' hs => hs.tail.tail.getBlk) hs) H2.out)
  obtain ⟨c0, c1, c2⟩ := cells3 (h1.nth 0 rfl)
  have HM := Lib.hid hm
  clear h h1 hk hm
  go_enter Tryz.func53, Tryz.ntmps53
  go_upto_region 1 with fail
  rw [EX1.out, EN1.out]
  go_wp2_with fail
  refine HC.out.mono ?_
  rintro z y1 ⟨rfl, _, _, h⟩
  have H3 := Lib.hid (Sys.put 3 (Sys.close (f := poolF pp p most L) (.slice va L.length vc) h))
  clear h HC c0 c1 c2
  go_wp2_with fail
  go_ret
  refine ⟨rfl, ?_⟩
  have h := H3.out.tail
  rwa [show ex (poolF pp p most L) = poolT pp p most L from rfl, upd_self HM.out] at h
end
end Go.Proofs.YtcfhkpjheemkgaaGreat
