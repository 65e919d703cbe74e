/-
  A map whose keys are structs: read as a list of keys and values; look-up, store, len.
-/
import Derived.Test.YtcfhkpjheemkgaaSys
import Derived.Laws.StructEq
namespace Go.Proofs.Ytcfhkpjheemkgaa
set_option linter.unusedSectionVars false
set_option linter.unusedSimpArgs false
set_option linter.unusedVariables false
open Go.RowKit Go.MapKept

/-- What the model asks of a kind of keys that it compares by asking. -/
structure KeyRun (P : Program) (kt : TypeId) {α : Type} [DecidableEq α] (enc : α → Value) : Prop where
  check : ∀ (w : World) (e : Bool) (a : α), (Instr.checkKey e 10000 kt (enc a)).run P w = .ok () w
  slow : ∃ d, P.underlying kt = some d ∧ ∀ a b, Instr.sameNow d (enc a) (enc b) = none
  same : ∀ (w : World) (a b : α), (Op.equal kt (enc a) (enc b)).run P w = .ok (decide (a = b)) w
  stay : ∀ (w : World) (a : α), (Instr.keyThatStays (enc a) (enc a)).run P w = .ok (enc a) w
  inj : ∀ a b, enc a = enc b → a = b

def MapG {α : Type} (enc : α → Value) (w : World) (b : Nat) (m : List (α × Value)) : Prop :=
  ∃ es clock, w.heap[b]? = some (.map es clock) ∧ Stamped es clock ∧ es.toList.map (fun e => (e.key, e.val)) = m.map (fun p => (enc p.1, p.2))
/-- Where a key stands, and with what. -/
def findIx {α : Type} [DecidableEq α] (k : α) : List (α × Value) → Nat → Option (Nat × Value)
  | [], _ => none
  | p :: m, i => if k = p.1 then some (i, p.2) else findIx k m (i + 1)
theorem findIx_spec {α : Type} [DecidableEq α] (k : α) : ∀ (m : List (α × Value)) (i : Nat), (findIx k m i = none ∧ alook m k = none) ∨ ∃ j v, findIx k m i = some (i + j, v) ∧ m[j]? = some (k, v) ∧ alook m k = some v
  | [], _ => .inl ⟨rfl, rfl⟩
  | p :: m, i => by
    by_cases h : k = p.1
    · exact .inr ⟨0, p.2, by simp [findIx, h], by simp [h], by simp [alook, h]⟩
    · have h' : ¬ p.1 = k := fun e => h e.symm
      rcases findIx_spec k m (i + 1) with ⟨h1, h2⟩ | ⟨j, v, h1, h2, h3⟩
      · exact .inl ⟨by simp [findIx, h, h1], by simp [alook, h', h2]⟩
      · exact .inr ⟨j + 1, v, by simp only [findIx, h, if_false, h1]; congr 2; omega, by simpa using h2, by simp [alook, h', h3]⟩
section
variable {α : Type} [DecidableEq α] {enc : α → Value} {P : Program} {w : World} {b : Nat} {m : List (α × Value)} {kt : TypeId}
theorem KeyRun.findAsking (K : KeyRun P kt enc) (k : α) (w : World) : ∀ (es : List MapEntry) (m : List (α × Value)) (i : Nat), es.map (fun e => (e.key, e.val)) = m.map (fun p => (enc p.1, p.2)) → (Instr.findAsking kt (enc k) es i).run P w = .ok (findIx k m i) w
  | [], [], _, _ => rfl
  | [], _ :: _, _, h => by simp at h
  | _ :: _, [], _, h => by simp at h
  | e :: es, p :: m, i, h => by
    simp only [List.map_cons, List.cons.injEq, Prod.mk.injEq] at h
    obtain ⟨⟨h1, h2⟩, h3⟩ := h
    unfold Instr.findAsking
    rw [h1]
    simp only [Sem.run_bind, K.same, Result.andThen]
    by_cases hk : k = p.1
    · simp [hk, findIx, h2]
    · simp only [hk, decide_false, Bool.false_eq_true, if_false, findIx]
      exact K.findAsking k w es m (i + 1) h3
theorem KeyRun.findKey (K : KeyRun P kt enc) (k : α) (w : World) (es : List MapEntry) (m : List (α × Value)) (h : es.map (fun e => (e.key, e.val)) = m.map (fun p => (enc p.1, p.2))) : (Instr.findKey kt (enc k) es).run P w = .ok (findIx k m 0) w := by
  obtain ⟨d, hd, hs⟩ := K.slow
  unfold Instr.findKey
  simp only [Sem.run_bind, run_underlying hd, Result.andThen]
  cases es with
  | nil =>
    cases m with
    | nil => rfl
    | cons p m => simp at h
  | cons e es =>
    cases m with
    | nil => simp at h
    | cons p m =>
      have h1 : e.key = enc p.1 := by simp only [List.map_cons, List.cons.injEq, Prod.mk.injEq] at h; exact h.1.1
      have h2 : Instr.findNow d (enc k) (e :: es) 0 = none := by simp [Instr.findNow, h1, hs]
      rw [h2]
      exact K.findAsking k w (e :: es) (p :: m) 0 h
theorem MapG.lt (h : MapG enc w b m) : b < w.heap.size := by obtain ⟨es, clock, h, _⟩ := h; exact blk_lt h
theorem MapG.chg {S : Nat → Prop} {w' : World} (h : MapG enc w b m) (hc : Chg S w w') (hs : ¬ S b) : MapG enc w' b m := by obtain ⟨es, clock, h, r⟩ := h; exact ⟨es, clock, hc.blk h hs, r⟩
theorem MapG.made (w : World) (k : Nat) (hk : k = w.heap.size) : MapG enc (w.alloc (.map #[] 0)) k [] := ⟨#[], 0, alloc_new w _ k hk, stamped_empty 0, rfl⟩
theorem MapG.nodup (hi : ∀ a b, enc a = enc b → a = b) (h : MapG enc w b m) : (m.map (·.1)).Nodup := by
  obtain ⟨es, clock, _, hs, hm⟩ := h
  have h1 := ((stamped_iff es clock).1 hs).2.2
  have h2 : (es.toList.map (·.key)).Nodup := by rw [List.Nodup, List.pairwise_map]; exact h1
  have e : es.toList.map (·.key) = (m.map (·.1)).map enc := by
    have := congrArg (List.map (·.1)) hm
    simpa [List.map_map, Function.comp_def] using this
  rw [e] at h2
  exact nodup_of_map enc h2
theorem MapG.lookup (K : KeyRun P kt enc) (h : MapG enc w b m) {t et : TypeId} (hm : P.underlying t = some (.map kt et)) {z : Value} (hz : (zeroValue et).run P w = .ok z w) (k : α) (c : Bool) :
    (Instr.lookup t (.map (some b)) (enc k) c).run P w = .ok (if c then .tuple #[(alook m k).getD z, .bool (alook m k).isSome] else (alook m k).getD z) w := by
  obtain ⟨es, clock, hb, hs, hmm⟩ := h
  have hf := K.findKey k w es.toList m hmm
  rcases findIx_spec k m 0 with ⟨h1, h2⟩ | ⟨j, v, h1, h2, h3⟩
  · rw [h2]; rw [h1] at hf
    cases c <;> simp [Instr.lookup, run_underlying hm, MapKept.run_getObj_map hb, K.check, hf, hz, Result.andThen]
  · rw [h3]; rw [h1] at hf
    cases c <;> simp [Instr.lookup, run_underlying hm, MapKept.run_getObj_map hb, K.check, hf, Result.andThen]
theorem MapG.len (h : MapG enc w b m) {t et ty : TypeId} (hm : P.underlying t = some (.map kt et)) : (Builtin.len_ #[t] ty #[.map (some b)]).run P w = .ok (.int .i64 m.length) w := by
  obtain ⟨es, clock, hbk, hs, hmm⟩ := h
  have e : es.size = m.length := by have := congrArg List.length hmm; simpa using this
  simp [Builtin.len_, run_underlying hm, MapKept.run_getObj_map hbk, Result.andThen, goInt, e]
theorem MapG.update (K : KeyRun P kt enc) (h : MapG enc w b m) {t et : TypeId} (hm : P.underlying t = some (.map kt et)) (k : α) (v : Value) :
    ∃ w', (Instr.mapUpdate t (.map (some b)) (enc k) v).run P w = .ok () w' ∧ MapG enc w' b (aset m k v) ∧ Chg (· = b) w w' := by
  have hnd := h.nodup K.inj
  obtain ⟨es, clock, hb, hs, hmm⟩ := h
  have hf := K.findKey k w es.toList m hmm
  rcases findIx_spec k m 0 with ⟨h1, h2⟩ | ⟨j, x, h1, h2, h3⟩
  · rw [h1] at hf
    have hne : ∀ x ∈ es.toList, x.key ≠ enc k := fun x hx e => by
      have : (x.key, x.val) ∈ m.map (fun p => (enc p.1, p.2)) := by rw [← hmm]; exact List.mem_map.2 ⟨x, hx, rfl⟩
      obtain ⟨p, hp, he⟩ := List.mem_map.1 this
      simp only [Prod.mk.injEq] at he
      exact alook_none.1 h2 (List.mem_map.2 ⟨p, hp, K.inj _ _ (he.1.trans e)⟩)
    refine ⟨_, ?_, ⟨es.push ⟨enc k, v, clock⟩, clock + 1, (heap_set hb).1, stamped_push hs hne, ?_⟩, chg_setBlock hb⟩
    · simp [Instr.mapUpdate, run_underlying hm, MapKept.run_getObj_map hb, K.check, hf, MapKept.run_setObj_map _ hb, Result.andThen]
    · rw [aset_none h2]; simp [hmm]
  · rw [h1, Nat.zero_add] at hf
    have hlt : j < m.length := (List.getElem?_eq_some_iff.1 h2).1
    have hsz : es.size = m.length := by have := congrArg List.length hmm; simpa using this
    have hj : es[j]? = some (es[j]'(by omega)) := Array.getElem?_eq_getElem _
    have hkey : (es[j]'(by omega)).key = enc k := by
      have e := congrArg (fun l => l[j]?) hmm
      simp only [List.getElem?_map, h2, Option.map_some] at e
      rw [Array.getElem?_toList, hj] at e
      simp only [Option.map_some, Option.some.injEq, Prod.mk.injEq] at e
      exact e.1
    have hk2 : ∀ e', es[j]? = some e' → ({ e' with key := enc k, val := v } : MapEntry).key = e'.key := fun e' he' => by rw [hj] at he'; cases he'; exact hkey.symm
    refine ⟨_, ?_, ⟨es.modify j fun e => { e with key := enc k, val := v }, clock, (heap_set hb).1, stamped_modify hs _ _ (fun _ _ => rfl) (fun e' _ he' => hk2 e' he'), ?_⟩, chg_setBlock hb⟩
    · simp [Instr.mapUpdate, run_underlying hm, MapKept.run_getObj_map hb, K.check, hf, hj, hkey, K.stay, MapKept.run_setObj_map _ hb, Result.andThen]
    · rw [(aset_at hnd h2).1]
      apply List.ext_getElem?
      intro i
      have hmi := congrArg (fun l => l[i]?) hmm
      simp only [List.getElem?_map] at hmi
      simp only [List.getElem?_map, Array.getElem?_toList, Array.getElem?_modify, List.getElem?_set]
      by_cases hij : j = i
      · subst hij
        rw [hj]
        simp [hlt]
      · simp only [hij, if_false]
        simpa using hmi
end
def mapGT {α : Type} [DecidableEq α] (enc : α → Value) (b : Nat) (m : List (α × Value)) : Thing := ⟨fun w F => MapG enc w b m ∧ F = (· = b), fun h k hk => by obtain ⟨h, rfl⟩ := h; obtain rfl : k = b := hk; exact h.lt, fun h hc hs => by obtain ⟨h, rfl⟩ := h; exact ⟨h.chg hc (hs b rfl), rfl⟩⟩
theorem Sys.getMapG {α : Type} [DecidableEq α] {enc : α → Value} {w : World} {m : Nat → Thing} {l : List Thing} {b : Nat} {x : List (α × Value)} (h : Sys w m (mapGT enc b x :: l)) : MapG enc w b x := by obtain ⟨F, h, _⟩ := h.head; exact h.1
theorem Sys.mapGTo {α : Type} [DecidableEq α] {enc : α → Value} {w w' : World} {m : Nat → Thing} {l : List Thing} {b : Nat} {x x' : List (α × Value)} (h : Sys w m (mapGT enc b x :: l)) (ho : MapG enc w' b x') (hc : Chg (· = b) w w') : Sys w' m (mapGT enc b x' :: l) := by
  obtain ⟨F, ⟨_, rfl⟩, _, _, h4⟩ := h.head
  exact h4 _ _ ⟨(· = b), ⟨ho, rfl⟩, fun k hk => .inl hk, hc⟩
/-- Two whole numbers as a struct. -/
def pairEnc (s : Int × Int) : Value := .agg #[.int .i64 s.1, .int .i64 s.2]
theorem spot_fields : ∃ f g, (Try.prog.fieldsOf 147).toList = [f, g] ∧ f.name ≠ "_" ∧ g.name ≠ "_" ∧ f.type = 3 ∧ g.type = 3 ∧ f.offset = 0 ∧ g.offset = 1 := by
  have h : (Try.prog.fieldsOf 147).toList.map (fun f => (f.name, f.type, f.offset)) = [("view", 3, 0), ("block", 3, 1)] := by kernel_rfl
  match e : (Try.prog.fieldsOf 147).toList with
  | [f, g] =>
    rw [e] at h
    simp only [List.map_cons, List.map_nil, List.cons.injEq, Prod.mk.injEq, and_true] at h
    exact ⟨f, g, rfl, by rw [h.1.1]; decide, by rw [h.2.1]; decide, h.1.2.1, h.2.2.1, h.1.2.2, h.2.2.2⟩
  | [] => rw [e] at h; simp at h
  | [_] => rw [e] at h; simp at h
  | _ :: _ :: _ :: _ => rw [e] at h; simp at h
theorem spot_run : KeyRun Try.prog 147 pairEnc where
  check := fun w e a => by
    obtain ⟨x, y⟩ := a
    kernel_rfl
  slow := ⟨_, Try.underlying147, fun a b => rfl⟩
  same := fun w a b => by
    obtain ⟨x, y⟩ := a
    obtain ⟨x', y'⟩ := b
    show (Op.equalIn (9999 + 1) _ (.agg _) (.agg _)).run _ _ = _
    rw [run_equalIn_agg w 9999 147 _ _ (by kernel_rfl) (by kernel_rfl)]
    obtain ⟨f, g, e, n1, n2, t1, t2, o1, o2⟩ := spot_fields
    rw [e]
    have ha : (isAgg 3).run Try.prog w = .ok false w := by kernel_rfl
    have hp : ∀ (v : Value) (cs : Array Value) (o : Nat), cs[o]? = some v → (part 3 cs o).run Try.prog w = .ok v w := fun v cs o h => by simp [part, ha, h, Result.andThen]
    have q1 := hp (.int .i64 x) #[.int .i64 x, .int .i64 y] 0 rfl
    have q2 := hp (.int .i64 x') #[.int .i64 x', .int .i64 y'] 0 rfl
    have q3 := hp (.int .i64 y) #[.int .i64 x, .int .i64 y] 1 rfl
    have q4 := hp (.int .i64 y') #[.int .i64 x', .int .i64 y'] 1 rfl
    have r1 := run_equalIn_int (P := Try.prog) w 9998 3 .i64 .i64 x x' Try.underlying3
    have r2 := run_equalIn_int (P := Try.prog) w 9998 3 .i64 .i64 y y' Try.underlying3
    simp only [Op.eqFields, n1, n2, t1, t2, o1, o2, ne_eq, not_false_eq_true, if_true, Sem.run_bind, q1, q2, Result.andThen_ok, r1, Sem.run_ite]
    by_cases h1 : x = x'
    · subst h1
      simp only [beq_self_eq_true, Bool.not_true, Bool.false_eq_true, if_false, q3, q4, Result.andThen_ok, r2, Sem.run_bind, Sem.run_pure, Sem.run_ite]
      by_cases h2 : y = y'
      · subst h2; simp
      · simp [h2]
    · simp [h1]
  stay := fun w a => by
    simp [Instr.keyThatStays, pairEnc, Instr.sameBits]
  inj := fun a b h => by
    simp [pairEnc] at h
    exact Prod.ext h.1 h.2
end Go.Proofs.Ytcfhkpjheemkgaa
