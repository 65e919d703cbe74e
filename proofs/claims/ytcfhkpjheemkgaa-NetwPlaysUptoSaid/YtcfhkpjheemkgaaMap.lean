/-
  A map's block read as a list of keys and values (the first entry of a key is the one that counts; keys are unlike): what a look-up, a store, len and make do to it.
-/
import Derived.Test.YtcfhkpjheemkgaaBase
import Derived.Maps.Own
import Derived.MapKept
import Derived.ChangeMaps4
namespace Go.Proofs.Ytcfhkpjheemkgaa
set_option linter.unusedSectionVars false
set_option linter.unusedSimpArgs false
set_option linter.unusedVariables false
open Go.RowKit Go.MapKept
set_option linter.unusedSectionVars false

/-- A kind of keys: how a key stands as a value. -/
structure KeyEnc (α : Type) where
  d : TypeDesc
  enc : α → Value
  isKey : ∀ a, IsKey d (enc a)
  inj : ∀ a b, enc a = enc b → a = b
def intKey : KeyEnc Int := ⟨.int .i64, Value.int .i64, fun _ => rfl, fun _ _ h => by injection h⟩
def strKey : KeyEnc ByteArray := ⟨.string, Value.string, fun _ => trivial, fun _ _ h => by injection h⟩

/-- What stands under a key. -/
def alook {α β : Type} [DecidableEq α] : List (α × β) → α → Option β
  | [], _ => none
  | p :: m, k => if p.1 = k then some p.2 else alook m k
/-- A store: in the key's place, or behind all. -/
def aset {α β : Type} [DecidableEq α] : List (α × β) → α → β → List (α × β)
  | [], k, v => [(k, v)]
  | p :: m, k, v => if p.1 = k then (k, v) :: m else p :: aset m k v

section
variable {α β : Type} [DecidableEq α]
theorem alook_aset (m : List (α × β)) (k k' : α) (v : β) : alook (aset m k v) k' = if k = k' then some v else alook m k' := by
  induction m with
  | nil => simp [aset, alook]
  | cons p m ih =>
    by_cases h : p.1 = k
    · simp only [aset, h, if_true, alook]
      by_cases h2 : k = k'
      · simp [h2]
      · rw [if_neg h2, if_neg h2, if_neg h2]
    · simp only [aset, h, if_false, alook, ih]
      by_cases h2 : k = k'
      · subst h2; simp [h]
      · simp [h2]
theorem alook_none {m : List (α × β)} {k : α} : alook m k = none ↔ k ∉ m.map (·.1) := by
  induction m with
  | nil => simp [alook]
  | cons p m ih =>
    by_cases h : p.1 = k
    · simp [alook, h]
    · simp [alook, h, ih, Ne.symm h]
theorem alook_mem {m : List (α × β)} {k : α} {v : β} (h : alook m k = some v) : (k, v) ∈ m := by
  induction m with
  | nil => simp [alook] at h
  | cons p m ih =>
    simp only [alook] at h
    split at h
    · rename_i hk; cases h; rw [← hk]; exact .head _
    · exact .tail _ (ih h)
theorem alook_of_mem {m : List (α × β)} {k : α} {v : β} (hn : (m.map (·.1)).Nodup) (h : (k, v) ∈ m) : alook m k = some v := by
  induction m with
  | nil => cases h
  | cons p m ih =>
    simp only [List.map_cons, List.nodup_cons] at hn
    cases h with
    | head => simp [alook]
    | tail _ h =>
      have : p.1 ≠ k := fun e => hn.1 (e ▸ List.mem_map.2 ⟨_, h, rfl⟩)
      simp [alook, this, ih hn.2 h]
theorem aset_keys_some {m : List (α × β)} {k : α} {v x : β} (h : alook m k = some x) : (aset m k v).map (·.1) = m.map (·.1) := by
  induction m with
  | nil => simp [alook] at h
  | cons p m ih =>
    by_cases hk : p.1 = k
    · simp [aset, hk]
    · simp [aset, hk, alook] at h ⊢; exact ih h
theorem aset_none {m : List (α × β)} {k : α} {v : β} (h : alook m k = none) : aset m k v = m ++ [(k, v)] := by
  induction m with
  | nil => rfl
  | cons p m ih =>
    simp only [alook] at h
    split at h
    · cases h
    · rename_i hk; simp [aset, hk, ih h]
theorem aset_at {m : List (α × β)} {k : α} {v : β} {j : Nat} {x : β} (hn : (m.map (·.1)).Nodup) (h : m[j]? = some (k, x)) : aset m k v = m.set j (k, v) ∧ alook m k = some x := by
  induction m generalizing j with
  | nil => simp at h
  | cons p m ih =>
    simp only [List.map_cons, List.nodup_cons] at hn
    cases j with
    | zero => simp at h; subst h; simp [aset, alook]
    | succ j =>
      simp at h
      have hne : p.1 ≠ k := fun e => hn.1 (e ▸ List.mem_map.2 ⟨_, List.mem_of_getElem? h, rfl⟩)
      obtain ⟨h1, h2⟩ := ih hn.2 h
      simp [aset, alook, hne, h1, h2]
theorem aset_length (m : List (α × β)) (k : α) (v : β) : (aset m k v).length = m.length + if (alook m k).isSome then 0 else 1 := by
  induction m with
  | nil => simp [aset, alook]
  | cons p m ih =>
    by_cases hk : p.1 = k
    · simp [aset, alook, hk]
    · simp [aset, alook, hk, ih]; omega
end

/-- Block b of w is a map that holds just these keys with these values. -/
def MapOf {α : Type} (K : KeyEnc α) (w : World) (b : Nat) (m : List (α × Value)) : Prop :=
  ∃ es clock, w.heap[b]? = some (.map es clock) ∧ Stamped es clock ∧ es.toList.map (fun e => (e.key, e.val)) = m.map (fun p => (K.enc p.1, p.2))

section
variable {α : Type} [DecidableEq α] {K : KeyEnc α} {P : Program} {w : World} {b : Nat} {m : List (α × Value)}

theorem MapOf.of_heap {w' : World} (h : MapOf K w b m) (e : w'.heap[b]? = w.heap[b]?) : MapOf K w' b m := by
  obtain ⟨es, clock, hb, hs, hm⟩ := h
  exact ⟨es, clock, e.trans hb, hs, hm⟩
theorem MapOf.lt (h : MapOf K w b m) : b < w.heap.size := by
  obtain ⟨es, clock, hb, _⟩ := h
  exact blk_lt hb
theorem MapOf.chg {S : Nat → Prop} {w' : World} (h : MapOf K w b m) (hc : Chg S w w') (hs : ¬ S b) : MapOf K w' b m := h.of_heap (hc.block b h.lt hs)
theorem MapOf.alloc (h : MapOf K w b m) (o : Obj) : MapOf K (w.alloc o) b m := h.of_heap (Below.heap_alloc _ _ _ h.lt)
theorem MapOf.setCell (h : MapOf K w b m) {a : Addr} (u : Value) (hne : b ≠ a.block) : MapOf K (w.setCell a u) b m := h.of_heap (Below.heap_setCell _ _ _ _ hne)
theorem MapOf.drew (h : MapOf K w b m) : MapOf K w.drew b m := h
theorem MapOf.drewN (h : MapOf K w b m) (n : Nat) : MapOf K (w.drewN n) b m := h
theorem MapOf.made (w : World) (k : Nat) (hk : k = w.heap.size) : MapOf K (w.alloc (.map #[] 0)) k [] := ⟨#[], 0, alloc_new w _ k hk, stamped_empty 0, rfl⟩
theorem MapOf.keysV {es : Array MapEntry} (hm : es.toList.map (fun e => (e.key, e.val)) = m.map (fun p => (K.enc p.1, p.2))) : es.toList.map (·.key) = (m.map (·.1)).map K.enc := by
  have := congrArg (List.map Prod.fst) hm
  simpa [List.map_map, Function.comp_def] using this
theorem MapOf.isKeys {es : Array MapEntry} (hm : es.toList.map (fun e => (e.key, e.val)) = m.map (fun p => (K.enc p.1, p.2))) : ∀ x ∈ es.toList, IsKey K.d x.key := by
  intro x hx
  have : x.key ∈ es.toList.map (·.key) := List.mem_map.2 ⟨x, hx, rfl⟩
  rw [MapOf.keysV hm] at this
  obtain ⟨a, _, e⟩ := List.mem_map.1 this
  rw [← e]; exact K.isKey a
theorem nodup_of_map {γ : Type} (f : α → γ) : ∀ {l : List α}, (l.map f).Nodup → l.Nodup
  | [], _ => List.nodup_nil
  | x :: l, h => by
    simp only [List.map_cons, List.nodup_cons] at h ⊢
    exact ⟨fun hx => h.1 (List.mem_map.2 ⟨x, hx, rfl⟩), nodup_of_map f h.2⟩
theorem MapOf.nodup (h : MapOf K w b m) : (m.map (·.1)).Nodup := by
  obtain ⟨es, clock, hb, ⟨_, _, h3⟩, hm⟩ := h
  rw [MapOf.keysV hm] at h3
  exact nodup_of_map K.enc h3
theorem MapOf.size {es : Array MapEntry} (hm : es.toList.map (fun e => (e.key, e.val)) = m.map (fun p => (K.enc p.1, p.2))) : es.size = m.length := by
  have := congrArg List.length hm
  simpa using this

/-- How the key is found. -/
theorem MapOf.find (h : MapOf K w b m) (k : α) : ∃ es clock, w.heap[b]? = some (.map es clock) ∧ Stamped es clock ∧ es.toList.map (fun e => (e.key, e.val)) = m.map (fun p => (K.enc p.1, p.2)) ∧
    ((Instr.findNow K.d (K.enc k) es.toList 0 = some none ∧ (∀ x ∈ es.toList, x.key ≠ K.enc k) ∧ alook m k = none) ∨
      ∃ j e v, Instr.findNow K.d (K.enc k) es.toList 0 = some (some (j, e.val)) ∧ es.toList[j]? = some e ∧ e.key = K.enc k ∧ e.val = v ∧ m[j]? = some (k, v) ∧ alook m k = some v) := by
  have hnd := h.nodup
  obtain ⟨es, clock, hb, hs, hm⟩ := h
  refine ⟨es, clock, hb, hs, hm, ?_⟩
  rcases findNow_spec (K.isKey k) es.toList 0 (MapOf.isKeys hm) with ⟨h1, h2⟩ | ⟨j, e, h1, h2, h3⟩
  · refine .inl ⟨h1, h2, alook_none.2 fun hk => ?_⟩
    have : K.enc k ∈ es.toList.map (·.key) := by rw [MapOf.keysV hm]; exact List.mem_map.2 ⟨k, hk, rfl⟩
    obtain ⟨x, hx, e⟩ := List.mem_map.1 this
    exact h2 x hx e
  · rw [Nat.zero_add] at h1
    have hj : (m.map (fun p => (K.enc p.1, p.2)))[j]? = some (e.key, e.val) := by rw [← hm, List.getElem?_map, h2]; rfl
    rw [List.getElem?_map, Option.map_eq_some_iff] at hj
    obtain ⟨p, hp, he⟩ := hj
    simp only [Prod.mk.injEq] at he
    have hk : p.1 = k := K.inj _ _ (he.1.trans h3)
    have hp' : m[j]? = some (k, e.val) := by rw [hp, ← hk, ← he.2]
    exact .inr ⟨j, e, e.val, h1, h2, h3, rfl, hp', (aset_at (v := e.val) hnd hp').2⟩

/-- 'm[k]' and 'v, ok := m[k]'. -/
theorem MapOf.lookup (h : MapOf K w b m) {t kt et : TypeId} (hm : P.underlying t = some (.map kt et)) (hd : P.underlying kt = some K.d) {z : Value} (hz : (zeroValue et).run P w = .ok z w) (k : α) (c : Bool) :
    (Instr.lookup t (.map (some b)) (K.enc k) c).run P w = .ok (if c then .tuple #[(alook m k).getD z, .bool (alook m k).isSome] else (alook m k).getD z) w := by
  obtain ⟨es, clock, hb, hs, hmm, hf⟩ := h.find k
  rcases hf with ⟨h1, h2, h3⟩ | ⟨j, e, v, h1, h2, h3, h4, h5, h6⟩
  · rw [h3]
    cases c <;> simp [Instr.lookup, run_underlying hm, MapKept.run_getObj_map hb, MapKept.run_checkKey hd (K.isKey k), MapKept.run_findKey hd h1, hz, Result.andThen]
  · rw [h6]
    cases c <;> simp [Instr.lookup, run_underlying hm, MapKept.run_getObj_map hb, MapKept.run_checkKey hd (K.isKey k), MapKept.run_findKey hd h1, h4, Result.andThen]
/-- The same at a nil map. -/
theorem lookup_nil {t kt et : TypeId} (hm : P.underlying t = some (.map kt et)) (hd : P.underlying kt = some K.d) {z : Value} (hz : (zeroValue et).run P w = .ok z w) (k : α) (c : Bool) :
    (Instr.lookup t (.map none) (K.enc k) c).run P w = .ok (if c then .tuple #[z, .bool false] else z) w := by
  have h1 : Instr.findNow K.d (K.enc k) [] 0 = some none := rfl
  cases c <;> simp [Instr.lookup, run_underlying hm, MapKept.run_checkKey hd (K.isKey k), MapKept.run_findKey hd h1, hz, Result.andThen]

theorem chg_setBlock {w : World} {b : Nat} {o o' : Obj} (_ : w.heap[b]? = some o) : Chg (· = b) w { w with heap := w.heap.setIfInBounds b o' } :=
  ⟨rfl, rfl, rfl, by simp, fun k _ hs => by simp only [Array.getElem?_setIfInBounds]; rw [if_neg (Ne.symm hs)]⟩

/-- 'm[k] = v'. -/
theorem MapOf.update (h : MapOf K w b m) {t kt et : TypeId} (hm : P.underlying t = some (.map kt et)) (hd : P.underlying kt = some K.d) (k : α) (v : Value) :
    ∃ w', (Instr.mapUpdate t (.map (some b)) (K.enc k) v).run P w = .ok () w' ∧ MapOf K w' b (aset m k v) ∧ Chg (· = b) w w' ∧ w'.heap.size = w.heap.size := by
  have hnd := h.nodup
  obtain ⟨es, clock, hb, hs, hmm, hf⟩ := h.find k
  rcases hf with ⟨h1, h2, h3⟩ | ⟨j, e, x, h1, h2, h3, h4, h5, h6⟩
  · refine ⟨_, ?_, ⟨es.push ⟨K.enc k, v, clock⟩, clock + 1, (heap_set hb).1, stamped_push hs h2, ?_⟩, chg_setBlock hb, by simp⟩
    · simp [Instr.mapUpdate, run_underlying hm, MapKept.run_getObj_map hb, MapKept.run_checkKey hd (K.isKey k), MapKept.run_findKey hd h1, MapKept.run_setObj_map _ hb, Result.andThen]
    · rw [aset_none h3]; simp [hmm]
  · have hj : es[j]? = some e := by simpa using h2
    have hkey : ∀ e', es[j]? = some e' → ({ e' with key := K.enc k, val := v } : MapEntry).key = e'.key := fun e' he' => by rw [hj] at he'; cases he'; exact h3.symm
    refine ⟨_, ?_, ⟨es.modify j fun e => { e with key := K.enc k, val := v }, clock, (heap_set hb).1, stamped_modify hs _ _ (fun _ _ => rfl) (fun e' _ he' => hkey e' he'), ?_⟩, chg_setBlock hb, by simp⟩
    · simp [Instr.mapUpdate, run_underlying hm, MapKept.run_getObj_map hb, MapKept.run_checkKey hd (K.isKey k), MapKept.run_findKey hd h1, hj, h3, run_keyThatStays (K.isKey k), MapKept.run_setObj_map _ hb, Result.andThen]
    · rw [(aset_at hnd h5).1]
      apply List.ext_getElem?
      intro i
      have hmi := congrArg (fun l => l[i]?) hmm
      simp only [List.getElem?_map] at hmi
      simp only [List.getElem?_map, Array.getElem?_toList, Array.getElem?_modify, List.getElem?_set]
      by_cases hij : j = i
      · subst hij
        rw [hj]
        have hlt : j < m.length := (List.getElem?_eq_some_iff.1 h5).1
        simp [hlt]
      · simp only [hij, if_false]
        simpa using hmi
end
end Go.Proofs.Ytcfhkpjheemkgaa
