/-
  No cell of these rows narrows 'for every input' (looked for: loops, veiled, ifaces, maps, wideKeys, modest, calm, conditions, laid).
  DERIVED. THE GIVEN ROWS OF THIS SEAT. 7 by the template 'for every input the law returns true; each argument reads behind the call as it read before'; 0 by the template 'total and deterministic' (their statements: YtcfhkpjheemkgaaTotals.lean).
  GIVEN WITH THE SEED: the statements are not yours to turn. If you find one false, say at which input.
  Laid BY PROGRAM, IN A SANDBOX (cutbox-rows.mjs): the forced cells as the released guide's own fill.sh prints them over the translation c23533b99e455a0a… (all of the seat's roots in one cut). By AI agents, Wed Nov 11 2026. No macro, syntax, notation, axiom, sorry.
-/
import Derived.Test.YtcfhkpjheemkgaaChecked
import GoSem.Claim
import GoSem.ClaimJoined
import GoSem.ClaimMapViews
import Derived.JoinedTies
import Derived.KernelRfl
namespace Go.Proofs.Ytcfhkpjheemkgaa
/- THE CELL 'sum', in the pinned program and in every row, IS THE sha256 OF THE DUMP (.gsa) THAT YtcfhkpjheemkgaaProg.lean LOADS. Nothing in Lean hashes anything: it is a label: what it is worth is what the hold of that sum in a sandbox is worth. -/
noncomputable def Try.pinned : Pinned := { name := "ytcfhkpjheemkgaa", sum := "c23533b99e455a0a9eb80e8fe2adef84f53eae19075938c4c368eb398017cfe9", checked := Try.checked }
namespace Rows
def none {H : Type} : Left H := { results := [], args := [] }

/-- 'tolseylaw26.NetwPlays': WHATEVER THE INPUT: true; the input reads as it did. -/
def netwPlaysSpec : ChangeSpec := { name := "netwPlays", fn := fun _ => fun
  | [d1, d2] => { results := [.lit (.bool true)], args := [d1, d2] }
  | _ => none }
def netwPlaysRow : OpenClaim := { program := "ytcfhkpjheemkgaa", sum := "c23533b99e455a0a9eb80e8fe2adef84f53eae19075938c4c368eb398017cfe9", func := "tolsey/tolseylaw26.NetwPlays", spec := "netwPlays", plainKeys := false, apart := false }
def NetwPlaysSaid : Prop := netwPlaysRow.holds Try.pinned (OpenSpec.ofChange netwPlaysSpec)

/-- ITS FALSE NEIGHBOUR: 'it returns false'. Refute it at one input. -/
def netwPlaysWrong : ChangeSpec := { name := "netwPlays", fn := fun _ => fun
  | [d1, d2] => { results := [.lit (.bool false)], args := [d1, d2] }
  | _ => none }
def NetwPlaysWrongFalsely : Prop := netwPlaysRow.holds Try.pinned (OpenSpec.ofChange netwPlaysWrong)

/-- 'tolseylaw27.AdveTwo': WHATEVER THE INPUT: true; the input reads as it did. -/
def adveTwoSpec : ChangeSpec := { name := "adveTwo", fn := fun _ => fun
  | [d1, d2, d3] => { results := [.lit (.bool true)], args := [d1, d2, d3] }
  | _ => none }
def adveTwoRow : OpenClaim := { program := "ytcfhkpjheemkgaa", sum := "c23533b99e455a0a9eb80e8fe2adef84f53eae19075938c4c368eb398017cfe9", func := "tolsey/tolseylaw27.AdveTwo", spec := "adveTwo", plainKeys := false, apart := false }
def AdveTwoSaid : Prop := adveTwoRow.holds Try.pinned (OpenSpec.ofChange adveTwoSpec)

/-- ITS FALSE NEIGHBOUR: 'it returns false'. Refute it at one input. -/
def adveTwoWrong : ChangeSpec := { name := "adveTwo", fn := fun _ => fun
  | [d1, d2, d3] => { results := [.lit (.bool false)], args := [d1, d2, d3] }
  | _ => none }
def AdveTwoWrongFalsely : Prop := adveTwoRow.holds Try.pinned (OpenSpec.ofChange adveTwoWrong)

/-- 'tolseylaw27.AdveForges': WHATEVER THE INPUT: true; the input reads as it did. -/
def adveForgesSpec : ChangeSpec := { name := "adveForges", fn := fun _ => fun
  | [d1, d2, d3] => { results := [.lit (.bool true)], args := [d1, d2, d3] }
  | _ => none }
def adveForgesRow : OpenClaim := { program := "ytcfhkpjheemkgaa", sum := "c23533b99e455a0a9eb80e8fe2adef84f53eae19075938c4c368eb398017cfe9", func := "tolsey/tolseylaw27.AdveForges", spec := "adveForges", unfollowed := true, recurses := true, plainKeys := false, apart := false }
def AdveForgesSaid : Prop := adveForgesRow.holds Try.pinned (OpenSpec.ofChange adveForgesSpec)

/-- ITS FALSE NEIGHBOUR: 'it returns false'. Refute it at one input. -/
def adveForgesWrong : ChangeSpec := { name := "adveForges", fn := fun _ => fun
  | [d1, d2, d3] => { results := [.lit (.bool false)], args := [d1, d2, d3] }
  | _ => none }
def AdveForgesWrongFalsely : Prop := adveForgesRow.holds Try.pinned (OpenSpec.ofChange adveForgesWrong)

/-- 'tolseylaw20.TallOnce': WHATEVER THE INPUT: true; the input reads as it did. -/
def tallOnceSpec : ChangeSpec := { name := "tallOnce", fn := fun _ => fun
  | [d1, d2] => { results := [.lit (.bool true)], args := [d1, d2] }
  | _ => none }
def tallOnceRow : OpenClaim := { program := "ytcfhkpjheemkgaa", sum := "c23533b99e455a0a9eb80e8fe2adef84f53eae19075938c4c368eb398017cfe9", func := "tolsey/tolseylaw20.TallOnce", spec := "tallOnce", unfollowed := true, recurses := true, plainKeys := false, apart := false }
def TallOnceSaid : Prop := tallOnceRow.holds Try.pinned (OpenSpec.ofChange tallOnceSpec)

/-- ITS FALSE NEIGHBOUR: 'it returns false'. Refute it at one input. -/
def tallOnceWrong : ChangeSpec := { name := "tallOnce", fn := fun _ => fun
  | [d1, d2] => { results := [.lit (.bool false)], args := [d1, d2] }
  | _ => none }
def TallOnceWrongFalsely : Prop := tallOnceRow.holds Try.pinned (OpenSpec.ofChange tallOnceWrong)

/-- 'tolseylaw20.TallHighs': WHATEVER THE INPUT: true; the input reads as it did. -/
def tallHighsSpec : ChangeSpec := { name := "tallHighs", fn := fun _ => fun
  | [d1, d2] => { results := [.lit (.bool true)], args := [d1, d2] }
  | _ => none }
def tallHighsRow : OpenClaim := { program := "ytcfhkpjheemkgaa", sum := "c23533b99e455a0a9eb80e8fe2adef84f53eae19075938c4c368eb398017cfe9", func := "tolsey/tolseylaw20.TallHighs", spec := "tallHighs", unfollowed := true, recurses := true, plainKeys := false, apart := false }
def TallHighsSaid : Prop := tallHighsRow.holds Try.pinned (OpenSpec.ofChange tallHighsSpec)

/-- ITS FALSE NEIGHBOUR: 'it returns false'. Refute it at one input. -/
def tallHighsWrong : ChangeSpec := { name := "tallHighs", fn := fun _ => fun
  | [d1, d2] => { results := [.lit (.bool false)], args := [d1, d2] }
  | _ => none }
def TallHighsWrongFalsely : Prop := tallHighsRow.holds Try.pinned (OpenSpec.ofChange tallHighsWrong)

/-- 'tolseylaw20.TallPlays': WHATEVER THE INPUT: true; the input reads as it did. -/
def tallPlaysSpec : ChangeSpec := { name := "tallPlays", fn := fun _ => fun
  | [d1, d2, d3, d4] => { results := [.lit (.bool true)], args := [d1, d2, d3, d4] }
  | _ => none }
def tallPlaysRow : OpenClaim := { program := "ytcfhkpjheemkgaa", sum := "c23533b99e455a0a9eb80e8fe2adef84f53eae19075938c4c368eb398017cfe9", func := "tolsey/tolseylaw20.TallPlays", spec := "tallPlays", unfollowed := true, recurses := true, plainKeys := false, apart := false }
def TallPlaysSaid : Prop := tallPlaysRow.holds Try.pinned (OpenSpec.ofChange tallPlaysSpec)

/-- ITS FALSE NEIGHBOUR: 'it returns false'. Refute it at one input. -/
def tallPlaysWrong : ChangeSpec := { name := "tallPlays", fn := fun _ => fun
  | [d1, d2, d3, d4] => { results := [.lit (.bool false)], args := [d1, d2, d3, d4] }
  | _ => none }
def TallPlaysWrongFalsely : Prop := tallPlaysRow.holds Try.pinned (OpenSpec.ofChange tallPlaysWrong)

/-- 'tolseylaw27.AdveSees': WHATEVER THE INPUT: true; the input reads as it did. -/
def adveSeesSpec : ChangeSpec := { name := "adveSees", fn := fun _ => fun
  | [d1, d2, d3] => { results := [.lit (.bool true)], args := [d1, d2, d3] }
  | _ => none }
def adveSeesRow : OpenClaim := { program := "ytcfhkpjheemkgaa", sum := "c23533b99e455a0a9eb80e8fe2adef84f53eae19075938c4c368eb398017cfe9", func := "tolsey/tolseylaw27.AdveSees", spec := "adveSees", unfollowed := true, recurses := true, plainKeys := false, apart := false }
def AdveSeesSaid : Prop := adveSeesRow.holds Try.pinned (OpenSpec.ofChange adveSeesSpec)

/-- ITS FALSE NEIGHBOUR: 'it returns false'. Refute it at one input. -/
def adveSeesWrong : ChangeSpec := { name := "adveSees", fn := fun _ => fun
  | [d1, d2, d3] => { results := [.lit (.bool false)], args := [d1, d2, d3] }
  | _ => none }
def AdveSeesWrongFalsely : Prop := adveSeesRow.holds Try.pinned (OpenSpec.ofChange adveSeesWrong)

/- THE SECOND FORM. 'bulk': how many values and letters a reading holds, each counted each time it is reached (what is shared counts as often as it is met; a slice's spare places count too). A statement '..UptoSaid' is the law's where the arguments, and the package variables that the reading takes, are together of bulk at most 1048576: NARROWER than '..Said'. Prove '..Said' where nothing that the law and all that it calls make is longer than what came in: it says more and counts as full. Else prove '..UptoSaid'. A law counts once. -/
mutual
def uptoBulk {H : Type} : DataW H → Nat
  | .lit (.string bytes) => bytes.length + 1
  | .lit _ => 1
  | .nil => 1
  | .ptr d => uptoBulk d + 1
  | .slice elems spare => uptoBulkAll elems + uptoBulkAll spare + 1
  | .agg parts => uptoBulkAll parts + 1
  | .iface _ d => uptoBulk d + 1
  | .map entries => uptoBulkEntries entries + 1
  | .held _ => 1
def uptoBulkAll {H : Type} : List (DataW H) → Nat
  | [] => 0
  | d :: r => uptoBulk d + uptoBulkAll r
def uptoBulkEntries {H : Type} : List (Lit × DataW H) → Nat
  | [] => 0
  | x :: r => uptoBulkEntry x + uptoBulkEntries r
def uptoBulkEntry {H : Type} : Lit × DataW H → Nat
  | (.string bytes, d) => bytes.length + uptoBulk d + 1
  | (_, d) => uptoBulk d + 1
 end
def uptoSmall : (H : Type) → List (DataW H) → Bool := fun _ ds => decide (uptoBulkAll ds ≤ 1048576)
def OpenSpec.upto (s : _root_.Go.ChangeSpec) : _root_.Go.OpenSpec := { _root_.Go.OpenSpec.ofChange s with cond := some uptoSmall }

/-- 'tolseylaw26.NetwPlays', WHERE WHAT IT READS IS OF BULK AT MOST 1048576: true; the input reads as it did. -/
def netwPlaysUptoRow : OpenClaim := { program := "ytcfhkpjheemkgaa", sum := "c23533b99e455a0a9eb80e8fe2adef84f53eae19075938c4c368eb398017cfe9", func := "tolsey/tolseylaw26.NetwPlays", spec := "netwPlays", plainKeys := false, apart := false, narrowed := true }
def NetwPlaysUptoSaid : Prop := netwPlaysUptoRow.holds Try.pinned (OpenSpec.upto netwPlaysSpec)

/-- 'tolseylaw27.AdveTwo', WHERE WHAT IT READS IS OF BULK AT MOST 1048576: true; the input reads as it did. -/
def adveTwoUptoRow : OpenClaim := { program := "ytcfhkpjheemkgaa", sum := "c23533b99e455a0a9eb80e8fe2adef84f53eae19075938c4c368eb398017cfe9", func := "tolsey/tolseylaw27.AdveTwo", spec := "adveTwo", plainKeys := false, apart := false, narrowed := true }
def AdveTwoUptoSaid : Prop := adveTwoUptoRow.holds Try.pinned (OpenSpec.upto adveTwoSpec)

/-- 'tolseylaw27.AdveForges', WHERE WHAT IT READS IS OF BULK AT MOST 1048576: true; the input reads as it did. -/
def adveForgesUptoRow : OpenClaim := { program := "ytcfhkpjheemkgaa", sum := "c23533b99e455a0a9eb80e8fe2adef84f53eae19075938c4c368eb398017cfe9", func := "tolsey/tolseylaw27.AdveForges", spec := "adveForges", unfollowed := true, recurses := true, plainKeys := false, apart := false, narrowed := true }
def AdveForgesUptoSaid : Prop := adveForgesUptoRow.holds Try.pinned (OpenSpec.upto adveForgesSpec)

/-- 'tolseylaw20.TallOnce', WHERE WHAT IT READS IS OF BULK AT MOST 1048576: true; the input reads as it did. -/
def tallOnceUptoRow : OpenClaim := { program := "ytcfhkpjheemkgaa", sum := "c23533b99e455a0a9eb80e8fe2adef84f53eae19075938c4c368eb398017cfe9", func := "tolsey/tolseylaw20.TallOnce", spec := "tallOnce", unfollowed := true, recurses := true, plainKeys := false, apart := false, narrowed := true }
def TallOnceUptoSaid : Prop := tallOnceUptoRow.holds Try.pinned (OpenSpec.upto tallOnceSpec)

/-- 'tolseylaw20.TallHighs', WHERE WHAT IT READS IS OF BULK AT MOST 1048576: true; the input reads as it did. -/
def tallHighsUptoRow : OpenClaim := { program := "ytcfhkpjheemkgaa", sum := "c23533b99e455a0a9eb80e8fe2adef84f53eae19075938c4c368eb398017cfe9", func := "tolsey/tolseylaw20.TallHighs", spec := "tallHighs", unfollowed := true, recurses := true, plainKeys := false, apart := false, narrowed := true }
def TallHighsUptoSaid : Prop := tallHighsUptoRow.holds Try.pinned (OpenSpec.upto tallHighsSpec)

/-- 'tolseylaw20.TallPlays', WHERE WHAT IT READS IS OF BULK AT MOST 1048576: true; the input reads as it did. -/
def tallPlaysUptoRow : OpenClaim := { program := "ytcfhkpjheemkgaa", sum := "c23533b99e455a0a9eb80e8fe2adef84f53eae19075938c4c368eb398017cfe9", func := "tolsey/tolseylaw20.TallPlays", spec := "tallPlays", unfollowed := true, recurses := true, plainKeys := false, apart := false, narrowed := true }
def TallPlaysUptoSaid : Prop := tallPlaysUptoRow.holds Try.pinned (OpenSpec.upto tallPlaysSpec)

/-- 'tolseylaw27.AdveSees', WHERE WHAT IT READS IS OF BULK AT MOST 1048576: true; the input reads as it did. -/
def adveSeesUptoRow : OpenClaim := { program := "ytcfhkpjheemkgaa", sum := "c23533b99e455a0a9eb80e8fe2adef84f53eae19075938c4c368eb398017cfe9", func := "tolsey/tolseylaw27.AdveSees", spec := "adveSees", unfollowed := true, recurses := true, plainKeys := false, apart := false, narrowed := true }
def AdveSeesUptoSaid : Prop := adveSeesUptoRow.holds Try.pinned (OpenSpec.upto adveSeesSpec)

end Rows
end Go.Proofs.Ytcfhkpjheemkgaa
