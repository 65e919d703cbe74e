/-
  The walks of package seal: a vault of ciphers, each with its label, its text and a map of who shared it.
-/
import Derived.Test.YtcfhkpjheemkgaaBytes
import Derived.Test.YtcfhkpjheemkgaaSign
import Derived.Test.YtcfhkpjheemkgaaMapLen
import Derived.StillTailTactics
import Derived.Deep.RegionLaw
namespace Go.Proofs.Ytcfhkpjheemkgaa
set_option linter.unusedSectionVars false
set_option linter.unusedSimpArgs false
set_option linter.unusedVariables false
open Go.RowKit Go.MapKept

/-- A cipher: its label, its text, who shared it. -/
structure Ciph where
  label : Int
  plain : List UInt8
  shares : List Int
/-- .. and where it lies: its text's slice, its map's block. -/
structure CiphAt extends Ciph where
  pv : Value
  mb : Nat
def flat3 (l : List CiphAt) : List Value := l.flatMap fun c => [.int .i64 c.label, c.pv, .map (some c.mb)]
theorem flat3_snoc (l : List CiphAt) (c : CiphAt) : flat3 (l ++ [c]) = flat3 l ++ [.int .i64 c.label, c.pv, .map (some c.mb)] := by simp [flat3]
theorem flat3_at (l : List CiphAt) (i : Nat) (h : i < l.length) : (flat3 l)[i * 3]? = some (.int .i64 l[i].label) ∧ (flat3 l)[i * 3 + 1]? = some l[i].pv ∧ (flat3 l)[i * 3 + 2]? = some (.map (some l[i].mb)) := by
  induction l generalizing i with
  | nil => simp at h
  | cons q l ih =>
    cases i with
    | zero => simp [flat3]
    | succ i =>
      have := ih i (by simpa using h)
      have e1 : (i + 1) * 3 = i * 3 + 3 := by omega
      have e2 : (i + 1) * 3 + 1 = (i * 3 + 1) + 3 := by omega
      have e3 : (i + 1) * 3 + 2 = (i * 3 + 2) + 3 := by omega
      refine ⟨?_, ?_, ?_⟩
      · rw [e1]; simpa [flat3] using this.1
      · rw [e2]; simpa [flat3] using this.2.1
      · rw [e3]; simpa [flat3] using this.2.2

def ones (l : List Int) : List (Int × Value) := l.map fun a => (a, .int .i64 1)
/-- The vault behind block p: how many are needed, its ciphers es in the row v. -/
structure VaultAt (w : World) (p : Nat) (need : Int) (v : Value) (es : List CiphAt) : Prop where
  here : w.heap[p]? = some (.cells #[.int .i64 need, v] 127 (0, 0))
  row : Own 124 3 w v es.length (flat3 es)
  text : ∀ c ∈ es, Own 5 1 w c.pv c.plain.length (bcells c.plain)
  map : ∀ c ∈ es, MapOf intKey w c.mb (ones c.shares)
  wf : ∀ c ∈ es, ∀ a ∈ c.shares, (Lit.int .i64 a).wf = true
  maps : (p :: es.map (·.mb)).Nodup
  rowp : v.ownBlock ≠ some p
  rowm : ∀ c ∈ es, v.ownBlock ≠ some c.mb
  textp : ∀ c ∈ es, c.pv.ownBlock ≠ some p
  textm : ∀ c ∈ es, ∀ d ∈ es, c.pv.ownBlock ≠ some d.mb
  textr : ∀ c ∈ es, ∀ k, c.pv.ownBlock = some k → v.ownBlock ≠ some k
/-- The vault at p told by its blocks F, how many are needed, and its ciphers. -/
def Vault (w : World) (p : Nat) (F : Nat → Prop) (need : Int) (C : List Ciph) : Prop :=
  ∃ v es, VaultAt w p need v es ∧ (∀ k, F k ↔ k = p ∨ v.ownBlock = some k ∨ ∃ c ∈ es, k = c.mb ∨ c.pv.ownBlock = some k) ∧ C = es.map (·.toCiph)

theorem Vault.lt {w : World} {p : Nat} {F : Nat → Prop} {need : Int} {C : List Ciph} (h : Vault w p F need C) : ∀ k, F k → k < w.heap.size := by
  obtain ⟨v, es, V, hF, _⟩ := h
  intro k hk
  rcases (hF k).1 hk with rfl | hk | ⟨c, hc, rfl | hk⟩
  · exact blk_lt V.here
  · exact V.row.lt hk
  · exact (V.map c hc).lt
  · exact (V.text c hc).lt hk
theorem VaultAt.chg {w w' : World} {p : Nat} {need : Int} {v : Value} {es : List CiphAt} {S : Nat → Prop} (V : VaultAt w p need v es) (hc : Chg S w w') (h1 : ¬ S p) (h2 : ∀ k, v.ownBlock = some k → ¬ S k) (h3 : ∀ c ∈ es, ¬ S c.mb ∧ ∀ k, c.pv.ownBlock = some k → ¬ S k) : VaultAt w' p need v es :=
  ⟨hc.blk V.here h1, V.row.chg hc h2, fun c hcc => (V.text c hcc).chg hc (h3 c hcc).2, fun c hcc => (V.map c hcc).chg hc (h3 c hcc).1, V.wf, V.maps, V.rowp, V.rowm, V.textp, V.textm, V.textr⟩
theorem Vault.chg {w w' : World} {p : Nat} {F S : Nat → Prop} {need : Int} {C : List Ciph} (h : Vault w p F need C) (hc : Chg S w w') (hs : ∀ k, F k → ¬ S k) : Vault w' p F need C := by
  obtain ⟨v, es, V, hF, hC⟩ := h
  exact ⟨v, es, V.chg hc (hs _ ((hF _).2 (.inl rfl))) (fun k hk => hs _ ((hF _).2 (.inr (.inl hk)))) (fun c hcc => ⟨hs _ ((hF _).2 (.inr (.inr ⟨c, hcc, .inl rfl⟩))), fun k hk => hs _ ((hF _).2 (.inr (.inr ⟨c, hcc, .inr hk⟩)))⟩), hF, hC⟩
theorem Vault.below {w w' : World} {p : Nat} {F : Nat → Prop} {need : Int} {C : List Ciph} (h : Vault w p F need C) (hb : Below w.heap.size w w') : Vault w' p F need C :=
  h.chg (S := none_) (Chg.of_below hb) fun _ _ h => h
theorem Vault.nodup {w : World} {p : Nat} {F : Nat → Prop} {need : Int} {C : List Ciph} (h : Vault w p F need C) : ∀ c ∈ C, c.shares.Nodup := by
  obtain ⟨v, es, V, hF, rfl⟩ := h
  intro c hc
  obtain ⟨x, hx, rfl⟩ := List.mem_map.1 hc
  have := (V.map x hx).nodup
  simpa [ones, List.map_map, Function.comp_def] using this
/-- What the walks read of the vault's row. -/
theorem VaultAt.cells {w : World} {p : Nat} {need : Int} {v : Value} {es : List CiphAt} (V : VaultAt w p need v es) : ∃ a cap, v = .slice a es.length cap ∧ es.length ≤ cap ∧ cap ≤ maxLen ∧ w.cell? ⟨p, 0, none⟩ = some (.int .i64 need) ∧ w.cell? ⟨p, 1, none⟩ = some (.slice a es.length cap) ∧
    ∀ j, (hj : j < es.length) → ∃ g, a = some ⟨g, 0, none⟩ ∧ w.cell? ⟨g, j * 3, none⟩ = some (.int .i64 es[j].label) ∧ w.cell? ⟨g, j * 3 + 1, none⟩ = some es[j].pv ∧ w.cell? ⟨g, j * 3 + 2, none⟩ = some (.map (some es[j].mb)) := by
  obtain ⟨a, cap, rfl, hc, hm, hl, ha⟩ := V.row.open
  refine ⟨a, cap, rfl, hc, hm, (cell_of_blk V.here 0).trans rfl, (cell_of_blk V.here 1).trans rfl, fun j hj => ?_⟩
  rcases ha with ⟨_, h0, _⟩ | ⟨g, cs, e, hg, _, ht⟩
  · omega
  · obtain ⟨f1, f2, f3⟩ := flat3_at es j hj
    exact ⟨g, e, own_cell hg ht (by omega) f1, own_cell hg ht (by omega) f2, own_cell hg ht (by omega) f3⟩

def VaultNew (need : Int) (w : World) (e : Ending) (w' : World) : Prop :=
  ∃ p F, e = .returned (.pointer (some ⟨p, 0, none⟩)) ∧ Vault w' p F (max need 1) [] ∧ (∀ k, F k → w.heap.size ≤ k) ∧ Below w.heap.size w w'
attribute [local go_sem high] run_imin run_imax in
set_option maxHeartbeats 400000 in
theorem seal_new (need : Int) (w : World) : Calls Try.prog 59 #[.int .i64 need] w (VaultNew need w) := by
  go_enter Try.func59, Try.ntmps59
  go_wp2
  all_goals
    go_ret
    refine ⟨_, fun k => k = w.heap.size, rfl, ⟨.slice none 0 0, [], ⟨?_, Own.nil _ _ _, by simp, by simp, by simp, by simp, by simp [Value.ownBlock], by simp, by simp, by simp, by simp⟩, by simp [Value.ownBlock], rfl⟩, by omega, (Below.refl _ _).alloc (by simp) _⟩
    refine (alloc_new _ _ _ rfl).trans ?_
    rfl

set_option maxHeartbeats 400000 in
theorem seal_len (p : Nat) (F : Nat → Prop) (need : Int) (C : List Ciph) (w : World) (h : Vault w p F need C) :
    Calls Try.prog 64 #[.pointer (some ⟨p, 0, none⟩)] w fun e w' => e = .returned (.int .i64 C.length) ∧ w = w' := by
  obtain ⟨v, es, V, hF, rfl⟩ := h
  obtain ⟨a, cap, rfl, hc, hm, c0, c1, -⟩ := V.cells
  clear V hF
  rw [List.length_map]
  generalize es.length = n at *
  go_enter Try.func64, Try.ntmps64
  go_wp2
  go_ret
  exact ⟨rfl, rfl⟩

/-- Whether there is such a cipher. -/
def hasC (n : Nat) (c : Int) : Bool := decide (1 ≤ c ∧ c ≤ n)
theorem seal_has0 (p : Nat) (a : Option Addr) (n cap : Nat) (c : Int) (w : World) (c1 : w.cell? ⟨p, 1, none⟩ = some (.slice a n cap)) :
    Calls Try.prog 63 #[.pointer (some ⟨p, 0, none⟩), .int .i64 c] w fun e w' => e = .returned (.bool (hasC n c)) ∧ w = w' := by
  by_cases h1 : 1 ≤ c
  · have hd : decide (1 ≤ c) = true := by simpa using h1
    have HH : Hid (hasC n c = decide (c ≤ n)) := by show _ = _; unfold hasC; simp [h1]
    clear h1
    go_enter Try.func63, Try.ntmps63
    go_wp2
    all_goals
      go_ret
      exact ⟨by rw [HH.out]; first | rfl | simp_all, rfl⟩
  · have hd : decide (1 ≤ c) = false := by simpa using h1
    have HH : Hid (hasC n c = false) := by show _ = _; unfold hasC; simp [h1]
    clear h1
    go_enter Try.func63, Try.ntmps63
    go_wp2
    go_ret
    exact ⟨by rw [HH.out]; rfl, rfl⟩

theorem Vault.some {w : World} {p : Nat} {F : Nat → Prop} {need : Int} {C : List Ciph} (h : Vault w p F need C) : ∃ a cap, w.cell? ⟨p, 0, none⟩ = some (.int .i64 need) ∧ w.cell? ⟨p, 1, none⟩ = some (.slice a C.length cap) ∧ C.length ≤ 9223372036854775807 ∧
    ∀ j x, C[j]? = some x → ∃ g pv mb, a = some ⟨g, 0, none⟩ ∧ j < C.length ∧ w.cell? ⟨g, j * 3, none⟩ = some (.int .i64 x.label) ∧ w.cell? ⟨g, j * 3 + 1, none⟩ = some pv ∧ w.cell? ⟨g, j * 3 + 2, none⟩ = some (.map (some mb)) ∧ Own 5 1 w pv x.plain.length (bcells x.plain) ∧ MapOf intKey w mb (ones x.shares) ∧ (∀ a ∈ x.shares, (Lit.int .i64 a).wf = true) := by
  obtain ⟨v, es, V, hF, rfl⟩ := h
  obtain ⟨a, cap, rfl, hc, hm, c0, c1, c2⟩ := V.cells
  refine ⟨a, cap, c0, by rw [List.length_map]; exact c1, by rw [List.length_map]; unfold maxLen at hm; omega, fun j x hx => ?_⟩
  rw [List.getElem?_map, Option.map_eq_some_iff] at hx
  obtain ⟨y, hy, rfl⟩ := hx
  obtain ⟨hj, rfl⟩ := List.getElem?_eq_some_iff.1 hy
  obtain ⟨g, e, d0, d1, d2⟩ := c2 j hj
  have hm := List.getElem_mem hj
  exact ⟨g, es[j].pv, es[j].mb, e, by rw [List.length_map]; exact hj, d0, d1, d2, V.text _ hm, V.map _ hm, V.wf _ hm⟩

theorem seal_has_yes (p : Nat) (a : Option Addr) (n cap : Nat) (c : Int) (w : World) (c1 : w.cell? ⟨p, 1, none⟩ = Option.some (.slice a n cap)) (h : 1 ≤ c ∧ c ≤ n) :
    Calls Try.prog 63 #[.pointer (some ⟨p, 0, none⟩), .int .i64 c] w fun e w' => e = .returned (.bool true) ∧ w = w' :=
  (seal_has0 p a n cap c w c1).mono fun _ _ ⟨h1, h2⟩ => ⟨by rw [h1]; simp [hasC, h], h2⟩
theorem seal_has_no (p : Nat) (a : Option Addr) (n cap : Nat) (c : Int) (w : World) (c1 : w.cell? ⟨p, 1, none⟩ = Option.some (.slice a n cap)) (h : ¬ (1 ≤ c ∧ c ≤ n)) :
    Calls Try.prog 63 #[.pointer (some ⟨p, 0, none⟩), .int .i64 c] w fun e w' => e = .returned (.bool false) ∧ w = w' :=
  (seal_has0 p a n cap c w c1).mono fun _ _ ⟨h1, h2⟩ => ⟨by rw [h1]; simp [hasC, h], h2⟩

set_option maxHeartbeats 1000000 in
theorem seal_enough_no (p : Nat) (F : Nat → Prop) (need : Int) (C : List Ciph) (c : Int) (w : World) (h : Vault w p F need C) (hc : ¬ (1 ≤ c ∧ c ≤ C.length)) :
    Calls Try.prog 98 #[.pointer (some ⟨p, 0, none⟩), .int .i64 c] w fun e w' => e = .returned (.bool false) ∧ Chg none_ w w' := by
  obtain ⟨a, cap, c0, c1, hb, -⟩ := h.some
  have hcall := fun n => seal_has_no p a C.length cap c (w.drewN n) c1 hc
  clear h
  generalize C.length = n at *
  have HC := Lib.hid hcall
  clear hcall hc
  go_enter Try.func98, Try.ntmps98
  go_wp2_with fail
  go_quiet ((go_at_call 63; exact Calls.quiet_of_same ((HC.out _).mono fun _ _ ⟨h1, h2⟩ => ⟨h1, h2.symm⟩)))
  go_wp2_with fail
  go_ret
  exact ⟨rfl, chg_drewn _ _⟩

set_option maxHeartbeats 1000000 in
theorem seal_enough_yes (p : Nat) (F : Nat → Prop) (need : Int) (C : List Ciph) (c : Int) (j : Nat) (x : Ciph) (w : World) (h : Vault w p F need C) (hc : c = (j : Int) + 1) (hx : C[j]? = some x) :
    Calls Try.prog 98 #[.pointer (some ⟨p, 0, none⟩), .int .i64 c] w fun e w' => e = .returned (.bool (decide (need ≤ (x.shares.length : Int)))) ∧ Chg none_ w w' := by
  subst hc
  obtain ⟨a, cap, c0, c1, hb, hs⟩ := h.some
  obtain ⟨g, pv, mb, rfl, hj, d0, d1, d2, ht, hm, hwf⟩ := hs j x hx
  have hcall := fun n => seal_has_yes p _ C.length cap (j + 1) (w.drewN n) c1 (by omega)
  have hlen : ∀ q, (Builtin.len_ #[75] 3 #[.map (some mb)]).run Try.prog (w.drewN q) = .ok (.int .i64 x.shares.length) (w.drewN q) := fun q => by
    have := (hm.drewN q).len (P := Try.prog) (ty := 3) Try.underlying75
    simpa [ones] using this
  clear h hs hx ht hm hwf d0 d1
  generalize C.length = n at *
  generalize x.shares.length = m at *
  have HC := Lib.hid hcall
  clear hcall
  go_enter Try.func98, Try.ntmps98
  go_wp2_with fail
  go_quiet ((go_at_call 63; exact Calls.quiet_of_same ((HC.out _).mono fun _ _ ⟨h1, h2⟩ => ⟨h1, h2.symm⟩)))
  go_wp2_with fail
  go_ret
  exact ⟨rfl, chg_drewn _ _⟩

theorem ones_look {w : World} {b : Nat} {l : List Int} (h : MapOf intKey w b (ones l)) (a : Int) : (alook (ones l) a).getD (.int .i64 0) = .int .i64 (if a ∈ l then 1 else 0) := by
  by_cases hw : a ∈ l
  · rw [if_pos hw, show alook (ones l) a = some (.int .i64 1) from alook_of_mem h.nodup (List.mem_map.2 ⟨a, hw, rfl⟩)]; rfl
  · rw [if_neg hw, show alook (ones l) a = none from alook_none.2 (by simpa [ones, List.map_map, Function.comp_def] using hw)]; rfl

set_option maxHeartbeats 1000000 in
theorem seal_shares_no (p : Nat) (F : Nat → Prop) (need : Int) (C : List Ciph) (c : Int) (w : World) (h : Vault w p F need C) (hc : ¬ (1 ≤ c ∧ c ≤ C.length)) :
    Calls Try.prog 50 #[.pointer (some ⟨p, 0, none⟩), .int .i64 c] w (BookAll [] w) := by
  obtain ⟨a, cap, c0, c1, hb, -⟩ := h.some
  have hcall := seal_has_no p a C.length cap c w c1 hc
  clear h
  generalize C.length = n at *
  have HC := Lib.hid hcall
  clear hcall hc
  go_enter Try.func50, Try.ntmps50
  go_wp2_with fail
  refine HC.out.mono ?_
  rintro e _ ⟨rfl, rfl⟩
  go_wp2_with fail
  go_ret
  exact ⟨_, rfl, .inl ⟨rfl, rising_nil⟩, Below.refl _ _⟩

set_option maxHeartbeats 1000000 in
theorem seal_shares_yes (p : Nat) (F : Nat → Prop) (need : Int) (C : List Ciph) (c : Int) (j : Nat) (x : Ciph) (w : World) (h : Vault w p F need C) (hc : c = (j : Int) + 1) (hx : C[j]? = some x) (hsz : x.shares.length * 8 ≤ 140737488355328) :
    Calls Try.prog 50 #[.pointer (some ⟨p, 0, none⟩), .int .i64 c] w (BookAll x.shares w) := by
  subst hc
  obtain ⟨a, cap, c0, c1, hb, hs⟩ := h.some
  obtain ⟨g, pv, mb, rfl, hj, d0, d1, d2, ht, hm, hwf⟩ := hs j x hx
  have hcall := seal_has_yes p _ C.length cap (j + 1) w c1 (by omega)
  have hwx : ∀ q ∈ ones x.shares, (Lit.int .i64 q.1).wf = true := by
    intro q hq
    obtain ⟨a, ha, rfl⟩ := List.mem_map.1 hq
    exact hwf a ha
  have hkk : (ones x.shares).map (·.1) = x.shares := by simp [ones, List.map_map, Function.comp_def]
  have cS := sorted_TryA mb _ w hm hwx (by simpa [ones] using hsz)
  rw [hkk] at cS
  have CS := Lib.hid cS
  have HC := Lib.hid hcall
  clear h hs hx ht hm hwf d0 d1 hcall cS hkk hwx hsz
  generalize C.length = n at *
  go_enter Try.func50, Try.ntmps50
  go_wp2_with fail
  refine HC.out.mono ?_
  rintro e _ ⟨rfl, rfl⟩
  go_wp2_with fail
  refine (keys_TryA (some mb) w).mono ?_
  rintro e w1 ⟨rfl, rfl⟩
  go_wp2_with fail
  refine CS.out.mono ?_
  rintro e w2 ⟨v, rfl, hN, hB2⟩
  go_wp2_with fail
  go_ret
  exact ⟨v, rfl, hN.mono (by omega), ((Below.refl _ _).alloc (Nat.le_refl _) _).trans (hB2.mono (by simp))⟩

def VaultShared (p : Nat) (F : Nat → Prop) (need : Int) (C : List Ciph) (who : Int) (j : Nat) (x : Ciph) (w : World) (e : Ending) (w' : World) : Prop :=
  e = .returned (.bool true) ∧ Vault w' p F need (C.set j { x with shares := addTo x.shares who }) ∧ Chg F w w'

set_option maxHeartbeats 1000000 in
theorem seal_share_no (p : Nat) (F : Nat → Prop) (need : Int) (C : List Ciph) (who c : Int) (w : World) (h : Vault w p F need C) (hc : ¬ (1 ≤ c ∧ c ≤ C.length)) :
    Calls Try.prog 25 #[.pointer (some ⟨p, 0, none⟩), .int .i64 who, .int .i64 c] w fun e w' => e = .returned (.bool false) ∧ w = w' := by
  obtain ⟨a, cap, c0, c1, hb, -⟩ := h.some
  have hcall := seal_has_no p a C.length cap c w c1 hc
  clear h
  generalize C.length = n at *
  have HC := Lib.hid hcall
  clear hcall hc
  go_enter Try.func25, Try.ntmps25
  go_wp2_with fail
  refine HC.out.mono ?_
  rintro e _ ⟨rfl, rfl⟩
  go_wp2_with fail
  go_ret
  exact ⟨rfl, rfl⟩

theorem flat3_congr {l l' : List CiphAt} (h : l.map (fun c => (c.label, c.pv, c.mb)) = l'.map (fun c => (c.label, c.pv, c.mb))) : flat3 l = flat3 l' := by
  have e : ∀ l : List CiphAt, flat3 l = (l.map (fun c => (c.label, c.pv, c.mb))).flatMap fun q => [.int .i64 q.1, q.2.1, .map (some q.2.2)] := fun l => by simp [flat3, List.flatMap_map]
  rw [e, e, h]
theorem map_set_same {α β : Type} (f : α → β) (l : List α) (j : Nat) (y z : α) (hy : l[j]? = some y) (e : f z = f y) : (l.set j z).map f = l.map f := by
  apply List.ext_getElem?
  intro i
  rw [List.getElem?_map, List.getElem?_map, List.getElem?_set]
  split
  · rename_i hij; subst hij
    have : j < l.length := (List.getElem?_eq_some_iff.1 hy).1
    rw [if_pos this, hy]; simp [e]
  · rfl
theorem mem_set {α : Type} {l : List α} {j : Nat} {z c : α} (h : c ∈ l.set j z) : c = z ∨ ∃ i, i ≠ j ∧ l[i]? = some c := by
  obtain ⟨i, hi, e⟩ := List.getElem_of_mem h
  rw [List.length_set] at hi
  rw [List.getElem_set] at e
  split at e
  · exact .inl e.symm
  · rename_i hij
    exact .inr ⟨i, fun q => hij q.symm, by rw [List.getElem?_eq_getElem hi, e]⟩

set_option maxRecDepth 100000 in
set_option maxHeartbeats 1000000 in
theorem seal_share_yes (p : Nat) (F : Nat → Prop) (need : Int) (C : List Ciph) (who c : Int) (j : Nat) (x : Ciph) (w : World) (h : Vault w p F need C) (hc : c = (j : Int) + 1) (hx : C[j]? = some x) (hwho : (Lit.int .i64 who).wf = true) :
    Calls Try.prog 25 #[.pointer (some ⟨p, 0, none⟩), .int .i64 who, .int .i64 c] w (VaultShared p F need C who j x w) := by
  subst hc
  obtain ⟨v, es, V, hF, rfl⟩ := h
  obtain ⟨a, cap, rfl, hcc, hm, c0, c1, c2⟩ := V.cells
  rw [List.getElem?_map, Option.map_eq_some_iff] at hx
  obtain ⟨y, hy, rfl⟩ := hx
  obtain ⟨hj, hjy⟩ := List.getElem?_eq_some_iff.1 hy
  obtain ⟨g, rfl, d0, d1, d2⟩ := c2 j hj
  rw [hjy] at d0 d1 d2
  have hym : y ∈ es := List.mem_of_getElem? hy
  obtain ⟨w2, hu, hM, hC, hs⟩ := (V.map y hym).update (P := Try.prog) Try.underlying75 Try.underlying3 who (.int .i64 1)
  simp only [intKey] at hu
  have hcall := seal_has_yes p _ es.length cap (j + 1) w c1 (by omega)
  have hfin : VaultShared p F need (es.map (·.toCiph)) who j y.toCiph w (.returned (.bool true)) w2 := by
    have hFm : F y.mb := (hF _).2 (.inr (.inr ⟨y, hym, .inl rfl⟩))
    refine ⟨rfl, ?_, hC.mono fun k _ e => e ▸ hFm⟩
    obtain ⟨y2, hy2⟩ : ∃ y2 : CiphAt, y2 = { y with shares := addTo y.shares who } := ⟨_, rfl⟩
    have hkeep : ∀ {β : Type} (f : CiphAt → β), f y2 = f y → (es.set j y2).map f = es.map f := fun f e => map_set_same f es j y y2 hy e
    have hmb : (es.set j y2).map (·.mb) = es.map (·.mb) := hkeep _ (by rw [hy2])
    have hinj : ∀ i c, i ≠ j → es[i]? = some c → c.mb ≠ y.mb := by
      intro i c hij hi e
      have hnd := (List.nodup_cons.1 V.maps).2
      have h1 : (es.map (·.mb))[i]? = some y.mb := by rw [List.getElem?_map, hi]; simp [e]
      have h2 : (es.map (·.mb))[j]? = some y.mb := by rw [List.getElem?_map, hy]; rfl
      have h3 := (List.getElem?_eq_some_iff.1 h1).1
      exact hij ((List.getElem?_inj h3 hnd).1 (h1.trans h2.symm))
    have hmem : ∀ c ∈ es.set j y2, c = y2 ∨ (c ∈ es ∧ c.mb ≠ y.mb) := by
      intro c hc
      rcases mem_set hc with h | ⟨i, hij, hi⟩
      · exact .inl h
      · exact .inr ⟨List.mem_of_getElem? hi, hinj i c hij hi⟩
    have hpv : ∀ c ∈ es.set j y2, ∃ d ∈ es, c.pv = d.pv ∧ c.plain = d.plain ∧ c.mb = d.mb := by
      intro c hc
      rcases hmem c hc with rfl | ⟨h, _⟩
      · exact ⟨y, hym, by rw [hy2], by rw [hy2], by rw [hy2]⟩
      · exact ⟨c, h, rfl, rfl, rfl⟩
    refine ⟨_, es.set j y2, ⟨hC.blk V.here ?_, ?_, ?_, ?_, ?_, by rw [hmb]; exact V.maps, V.rowp, ?_, ?_, ?_, ?_⟩, ?_, ?_⟩
    · intro e; exact (List.nodup_cons.1 V.maps).1 (e ▸ List.mem_map.2 ⟨y, hym, rfl⟩)
    · rw [List.length_set, flat3_congr (hkeep (fun c => (c.label, c.pv, c.mb)) (by rw [hy2]))]
      exact V.row.chg hC (fun k hk e => V.rowm y hym (e ▸ hk))
    · intro c hc
      obtain ⟨d, hd, e1, e2, _⟩ := hpv c hc
      rw [e1, e2]
      exact (V.text d hd).chg hC (fun k hk e => V.textm d hd y hym (e ▸ hk))
    · intro c hc
      rcases hmem c hc with rfl | ⟨h, hne⟩
      · rw [hy2]
        show MapOf intKey w2 y.mb (ones (addTo y.shares who))
        have := aset_ones y.shares who
        unfold ones; rw [← this]; exact hM
      · exact (V.map c h).chg hC hne
    · intro c hc a ha
      rcases hmem c hc with rfl | ⟨h, _⟩
      · rw [hy2] at ha
        rcases mem_addTo.1 ha with ha | rfl
        · exact V.wf y hym a ha
        · exact hwho
      · exact V.wf c h a ha
    · intro c hc
      obtain ⟨d, hd, _, _, e3⟩ := hpv c hc
      rw [e3]; exact V.rowm d hd
    · intro c hc
      obtain ⟨d, hd, e1, _, _⟩ := hpv c hc
      rw [e1]; exact V.textp d hd
    · intro c hc c' hc'
      obtain ⟨d, hd, e1, _, _⟩ := hpv c hc
      obtain ⟨d', hd', _, _, e3⟩ := hpv c' hc'
      rw [e1, e3]; exact V.textm d hd d' hd'
    · intro c hc
      obtain ⟨d, hd, e1, _, _⟩ := hpv c hc
      rw [e1]; exact V.textr d hd
    · intro k
      rw [hF k]
      constructor
      · rintro (h | h | ⟨c, hc, h⟩)
        · exact .inl h
        · exact .inr (.inl h)
        · obtain ⟨i, hi⟩ := List.getElem?_of_mem hc
          by_cases hij : i = j
          · subst hij
            rw [hy] at hi; cases hi
            refine .inr (.inr ⟨y2, ?_, by rw [hy2]; exact h⟩)
            exact List.mem_of_getElem? (i := i) (by rw [List.getElem?_set, if_pos rfl, if_pos hj])
          · exact .inr (.inr ⟨c, List.mem_of_getElem? (i := i) (by rw [List.getElem?_set, if_neg (fun e => hij e.symm)]; exact hi), h⟩)
      · rintro (h | h | ⟨c, hc, h⟩)
        · exact .inl h
        · exact .inr (.inl h)
        · obtain ⟨d, hd, e1, _, e3⟩ := hpv c hc
          exact .inr (.inr ⟨d, hd, by rw [← e1, ← e3]; exact h⟩)
    · rw [List.map_set, hy2]
  have HF := Lib.hid hfin
  have HC := Lib.hid hcall
  have hb : es.length ≤ 9223372036854775807 := by unfold maxLen at hm; omega
  have hj' : j < es.length := hj
  clear V hF c2 hy hjy hym hM hC hs hfin hcall d0 d1 hwho hj
  generalize es.length = n at *
  go_enter Try.func25, Try.ntmps25
  go_wp2_with fail
  refine HC.out.mono ?_
  rintro e _ ⟨rfl, rfl⟩
  go_wp2_with fail
  go_ret
  exact HF.out

/-- What Open hands back: nothing, or the text in new memory. -/
def Opened (r : Option (List UInt8)) (w : World) (e : Ending) (w' : World) : Prop :=
  match r with
  | none => e = .returned (.tuple #[.slice none 0 0, .bool false]) ∧ Chg none_ w w'
  | some l => ∃ v, e = .returned (.tuple #[v, .bool true]) ∧ Own 5 1 w' v l.length (bcells l) ∧ (∀ k, v.ownBlock = some k → w.heap.size ≤ k) ∧ Chg none_ w w'

/-- Whether it opens, and what. -/
def openC (need : Int) (x : Ciph) (label : Int) : Option (List UInt8) := if need ≤ (x.shares.length : Int) ∧ x.label = label then some x.plain else none

end Go.Proofs.Ytcfhkpjheemkgaa
