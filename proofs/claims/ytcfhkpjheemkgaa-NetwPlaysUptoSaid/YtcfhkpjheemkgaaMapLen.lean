/-
  len of a map.
-/
import Derived.Test.YtcfhkpjheemkgaaInts
namespace Go.Proofs.Ytcfhkpjheemkgaa
set_option linter.unusedSectionVars false
set_option linter.unusedSimpArgs false
set_option linter.unusedVariables false
open Go.RowKit Go.MapKept
theorem MapOf.len {α : Type} [DecidableEq α] {K : KeyEnc α} {P : Program} {w : World} {b : Nat} {m : List (α × Value)} (h : MapOf K w b m) {t kt et ty : TypeId} (hm : P.underlying t = some (.map kt et)) :
    (Builtin.len_ #[t] ty #[.map (some b)]).run P w = .ok (.int .i64 m.length) w := by
  obtain ⟨es, clock, hbk, hs, hmm⟩ := h
  have e := MapOf.size hmm
  simp [Builtin.len_, run_underlying hm, MapKept.run_getObj_map hbk, Result.andThen, goInt, e]
end Go.Proofs.Ytcfhkpjheemkgaa
