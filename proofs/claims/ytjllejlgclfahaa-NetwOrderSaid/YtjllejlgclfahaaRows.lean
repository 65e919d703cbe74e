/-
  No cell of these rows narrows 'for every input' (looked for: loops, veiled, ifaces, maps, wideKeys, modest, calm, conditions, laid).
  DERIVED. THE GIVEN ROWS OF THIS SEAT. 15 by the template 'for every input the law returns true; each argument reads behind the call as it read before'; 0 by the template 'total and deterministic' (their statements: YtjllejlgclfahaaTotals.lean).
  GIVEN WITH THE SEED: the statements are not yours to turn. If you find one false, say at which input.
  Laid BY PROGRAM, IN A SANDBOX (cutbox-rows.mjs): the forced cells as the released guide's own fill.sh prints them over the translation 0543d168784918b8… (all of the seat's roots in one cut). By AI agents, Wed Nov 11 2026. No macro, syntax, notation, axiom, sorry.
-/
import Derived.Test.YtjllejlgclfahaaChecked
import GoSem.Claim
import GoSem.ClaimJoined
import GoSem.ClaimMapViews
import Derived.JoinedTies
import Derived.KernelRfl
namespace Go.Proofs.Ytjllejlgclfahaa
/- THE CELL 'sum', in the pinned program and in every row, IS THE sha256 OF THE DUMP (.gsa) THAT YtjllejlgclfahaaProg.lean LOADS. Nothing in Lean hashes anything: it is a label: what it is worth is what the hold of that sum in a sandbox is worth. -/
noncomputable def Try.pinned : Pinned := { name := "ytjllejlgclfahaa", sum := "0543d168784918b819ad71141ea9dadd218e3014ec8e4c8f97fa7f9f3b1ae156", checked := Try.checked }
namespace Rows
def none {H : Type} : Left H := { results := [], args := [] }

/-- 'tolseylaw21.PaceDoubles': WHATEVER THE INPUT: true; the input reads as it did. -/
def paceDoublesSpec : ChangeSpec := { name := "paceDoubles", fn := fun _ => fun
  | [d1, d2, d3, d4] => { results := [.lit (.bool true)], args := [d1, d2, d3, d4] }
  | _ => none }
def paceDoublesRow : OpenClaim := { program := "ytjllejlgclfahaa", sum := "0543d168784918b819ad71141ea9dadd218e3014ec8e4c8f97fa7f9f3b1ae156", func := "tolsey/tolseylaw21.PaceDoubles", spec := "paceDoubles", apart := false }
def PaceDoublesSaid : Prop := paceDoublesRow.holds Try.pinned (OpenSpec.ofChange paceDoublesSpec)

/-- ITS FALSE NEIGHBOUR: 'it returns false'. Refute it at one input. -/
def paceDoublesWrong : ChangeSpec := { name := "paceDoubles", fn := fun _ => fun
  | [d1, d2, d3, d4] => { results := [.lit (.bool false)], args := [d1, d2, d3, d4] }
  | _ => none }
def PaceDoublesWrongFalsely : Prop := paceDoublesRow.holds Try.pinned (OpenSpec.ofChange paceDoublesWrong)

/-- 'tolseylaw21.PaceTicks': WHATEVER THE INPUT: true; the input reads as it did. -/
def paceTicksSpec : ChangeSpec := { name := "paceTicks", fn := fun _ => fun
  | [d1, d2, d3] => { results := [.lit (.bool true)], args := [d1, d2, d3] }
  | _ => none }
def paceTicksRow : OpenClaim := { program := "ytjllejlgclfahaa", sum := "0543d168784918b819ad71141ea9dadd218e3014ec8e4c8f97fa7f9f3b1ae156", func := "tolsey/tolseylaw21.PaceTicks", spec := "paceTicks", apart := false }
def PaceTicksSaid : Prop := paceTicksRow.holds Try.pinned (OpenSpec.ofChange paceTicksSpec)

/-- ITS FALSE NEIGHBOUR: 'it returns false'. Refute it at one input. -/
def paceTicksWrong : ChangeSpec := { name := "paceTicks", fn := fun _ => fun
  | [d1, d2, d3] => { results := [.lit (.bool false)], args := [d1, d2, d3] }
  | _ => none }
def PaceTicksWrongFalsely : Prop := paceTicksRow.holds Try.pinned (OpenSpec.ofChange paceTicksWrong)

/-- 'tolseylaw21.PaceHeld': WHATEVER THE INPUT: true; the input reads as it did. -/
def paceHeldSpec : ChangeSpec := { name := "paceHeld", fn := fun _ => fun
  | [d] => { results := [.lit (.bool true)], args := [d] }
  | _ => none }
def paceHeldRow : OpenClaim := { program := "ytjllejlgclfahaa", sum := "0543d168784918b819ad71141ea9dadd218e3014ec8e4c8f97fa7f9f3b1ae156", func := "tolsey/tolseylaw21.PaceHeld", spec := "paceHeld", apart := false }
def PaceHeldSaid : Prop := paceHeldRow.holds Try.pinned (OpenSpec.ofChange paceHeldSpec)

/-- ITS FALSE NEIGHBOUR: 'it returns false'. Refute it at one input. -/
def paceHeldWrong : ChangeSpec := { name := "paceHeld", fn := fun _ => fun
  | [d] => { results := [.lit (.bool false)], args := [d] }
  | _ => none }
def PaceHeldWrongFalsely : Prop := paceHeldRow.holds Try.pinned (OpenSpec.ofChange paceHeldWrong)

/-- 'tolseylaw21.PacePlays': WHATEVER THE INPUT: true; the input reads as it did. -/
def pacePlaysSpec : ChangeSpec := { name := "pacePlays", fn := fun _ => fun
  | [d1, d2, d3, d4] => { results := [.lit (.bool true)], args := [d1, d2, d3, d4] }
  | _ => none }
def pacePlaysRow : OpenClaim := { program := "ytjllejlgclfahaa", sum := "0543d168784918b819ad71141ea9dadd218e3014ec8e4c8f97fa7f9f3b1ae156", func := "tolsey/tolseylaw21.PacePlays", spec := "pacePlays", apart := false }
def PacePlaysSaid : Prop := pacePlaysRow.holds Try.pinned (OpenSpec.ofChange pacePlaysSpec)

/-- ITS FALSE NEIGHBOUR: 'it returns false'. Refute it at one input. -/
def pacePlaysWrong : ChangeSpec := { name := "pacePlays", fn := fun _ => fun
  | [d1, d2, d3, d4] => { results := [.lit (.bool false)], args := [d1, d2, d3, d4] }
  | _ => none }
def PacePlaysWrongFalsely : Prop := pacePlaysRow.holds Try.pinned (OpenSpec.ofChange pacePlaysWrong)

/-- 'tolseylaw26.NetwOrder': WHATEVER THE INPUT: true; the input reads as it did. -/
def netwOrderSpec : ChangeSpec := { name := "netwOrder", fn := fun _ => fun
  | [d1, d2] => { results := [.lit (.bool true)], args := [d1, d2] }
  | _ => none }
def netwOrderRow : OpenClaim := { program := "ytjllejlgclfahaa", sum := "0543d168784918b819ad71141ea9dadd218e3014ec8e4c8f97fa7f9f3b1ae156", func := "tolsey/tolseylaw26.NetwOrder", spec := "netwOrder", apart := false }
def NetwOrderSaid : Prop := netwOrderRow.holds Try.pinned (OpenSpec.ofChange netwOrderSpec)

/-- ITS FALSE NEIGHBOUR: 'it returns false'. Refute it at one input. -/
def netwOrderWrong : ChangeSpec := { name := "netwOrder", fn := fun _ => fun
  | [d1, d2] => { results := [.lit (.bool false)], args := [d1, d2] }
  | _ => none }
def NetwOrderWrongFalsely : Prop := netwOrderRow.holds Try.pinned (OpenSpec.ofChange netwOrderWrong)

/-- 'tolseylaw26.NetwOwn': WHATEVER THE INPUT: true; the input reads as it did. -/
def netwOwnSpec : ChangeSpec := { name := "netwOwn", fn := fun _ => fun
  | [d1, d2] => { results := [.lit (.bool true)], args := [d1, d2] }
  | _ => none }
def netwOwnRow : OpenClaim := { program := "ytjllejlgclfahaa", sum := "0543d168784918b819ad71141ea9dadd218e3014ec8e4c8f97fa7f9f3b1ae156", func := "tolsey/tolseylaw26.NetwOwn", spec := "netwOwn", apart := false }
def NetwOwnSaid : Prop := netwOwnRow.holds Try.pinned (OpenSpec.ofChange netwOwnSpec)

/-- ITS FALSE NEIGHBOUR: 'it returns false'. Refute it at one input. -/
def netwOwnWrong : ChangeSpec := { name := "netwOwn", fn := fun _ => fun
  | [d1, d2] => { results := [.lit (.bool false)], args := [d1, d2] }
  | _ => none }
def NetwOwnWrongFalsely : Prop := netwOwnRow.holds Try.pinned (OpenSpec.ofChange netwOwnWrong)

/-- 'tolseylaw26.NetwPlays': WHATEVER THE INPUT: true; the input reads as it did. -/
def netwPlaysSpec : ChangeSpec := { name := "netwPlays", fn := fun _ => fun
  | [d1, d2] => { results := [.lit (.bool true)], args := [d1, d2] }
  | _ => none }
def netwPlaysRow : OpenClaim := { program := "ytjllejlgclfahaa", sum := "0543d168784918b819ad71141ea9dadd218e3014ec8e4c8f97fa7f9f3b1ae156", func := "tolsey/tolseylaw26.NetwPlays", spec := "netwPlays", apart := false }
def NetwPlaysSaid : Prop := netwPlaysRow.holds Try.pinned (OpenSpec.ofChange netwPlaysSpec)

/-- ITS FALSE NEIGHBOUR: 'it returns false'. Refute it at one input. -/
def netwPlaysWrong : ChangeSpec := { name := "netwPlays", fn := fun _ => fun
  | [d1, d2] => { results := [.lit (.bool false)], args := [d1, d2] }
  | _ => none }
def NetwPlaysWrongFalsely : Prop := netwPlaysRow.holds Try.pinned (OpenSpec.ofChange netwPlaysWrong)

/-- 'tolseylaw4.SignApart': WHATEVER THE INPUT: true; the input reads as it did. -/
def signApartSpec : ChangeSpec := { name := "signApart", fn := fun _ => fun
  | [d1, d2, d3] => { results := [.lit (.bool true)], args := [d1, d2, d3] }
  | _ => none }
def signApartRow : OpenClaim := { program := "ytjllejlgclfahaa", sum := "0543d168784918b819ad71141ea9dadd218e3014ec8e4c8f97fa7f9f3b1ae156", func := "tolsey/tolseylaw4.SignApart", spec := "signApart", unfollowed := true, recurses := true, apart := false }
def SignApartSaid : Prop := signApartRow.holds Try.pinned (OpenSpec.ofChange signApartSpec)

/-- ITS FALSE NEIGHBOUR: 'it returns false'. Refute it at one input. -/
def signApartWrong : ChangeSpec := { name := "signApart", fn := fun _ => fun
  | [d1, d2, d3] => { results := [.lit (.bool false)], args := [d1, d2, d3] }
  | _ => none }
def SignApartWrongFalsely : Prop := signApartRow.holds Try.pinned (OpenSpec.ofChange signApartWrong)

/-- 'tolseylaw4.SignMany': WHATEVER THE INPUT: true; the input reads as it did. -/
def signManySpec : ChangeSpec := { name := "signMany", fn := fun _ => fun
  | [d1, d2, d3] => { results := [.lit (.bool true)], args := [d1, d2, d3] }
  | _ => none }
def signManyRow : OpenClaim := { program := "ytjllejlgclfahaa", sum := "0543d168784918b819ad71141ea9dadd218e3014ec8e4c8f97fa7f9f3b1ae156", func := "tolsey/tolseylaw4.SignMany", spec := "signMany", unfollowed := true, recurses := true, apart := false }
def SignManySaid : Prop := signManyRow.holds Try.pinned (OpenSpec.ofChange signManySpec)

/-- ITS FALSE NEIGHBOUR: 'it returns false'. Refute it at one input. -/
def signManyWrong : ChangeSpec := { name := "signMany", fn := fun _ => fun
  | [d1, d2, d3] => { results := [.lit (.bool false)], args := [d1, d2, d3] }
  | _ => none }
def SignManyWrongFalsely : Prop := signManyRow.holds Try.pinned (OpenSpec.ofChange signManyWrong)

/-- 'tolseylaw4.SignTells': WHATEVER THE INPUT: true; the input reads as it did. -/
def signTellsSpec : ChangeSpec := { name := "signTells", fn := fun _ => fun
  | [d1, d2, d3] => { results := [.lit (.bool true)], args := [d1, d2, d3] }
  | _ => none }
def signTellsRow : OpenClaim := { program := "ytjllejlgclfahaa", sum := "0543d168784918b819ad71141ea9dadd218e3014ec8e4c8f97fa7f9f3b1ae156", func := "tolsey/tolseylaw4.SignTells", spec := "signTells", unfollowed := true, recurses := true, apart := false }
def SignTellsSaid : Prop := signTellsRow.holds Try.pinned (OpenSpec.ofChange signTellsSpec)

/-- ITS FALSE NEIGHBOUR: 'it returns false'. Refute it at one input. -/
def signTellsWrong : ChangeSpec := { name := "signTells", fn := fun _ => fun
  | [d1, d2, d3] => { results := [.lit (.bool false)], args := [d1, d2, d3] }
  | _ => none }
def SignTellsWrongFalsely : Prop := signTellsRow.holds Try.pinned (OpenSpec.ofChange signTellsWrong)

/-- 'tolseylaw5.SealNeeds': WHATEVER THE INPUT: true; the input reads as it did. -/
def sealNeedsSpec : ChangeSpec := { name := "sealNeeds", fn := fun _ => fun
  | [d1, d2, d3, d4] => { results := [.lit (.bool true)], args := [d1, d2, d3, d4] }
  | _ => none }
def sealNeedsRow : OpenClaim := { program := "ytjllejlgclfahaa", sum := "0543d168784918b819ad71141ea9dadd218e3014ec8e4c8f97fa7f9f3b1ae156", func := "tolsey/tolseylaw5.SealNeeds", spec := "sealNeeds", unfollowed := true, recurses := true, apart := false }
def SealNeedsSaid : Prop := sealNeedsRow.holds Try.pinned (OpenSpec.ofChange sealNeedsSpec)

/-- ITS FALSE NEIGHBOUR: 'it returns false'. Refute it at one input. -/
def sealNeedsWrong : ChangeSpec := { name := "sealNeeds", fn := fun _ => fun
  | [d1, d2, d3, d4] => { results := [.lit (.bool false)], args := [d1, d2, d3, d4] }
  | _ => none }
def SealNeedsWrongFalsely : Prop := sealNeedsRow.holds Try.pinned (OpenSpec.ofChange sealNeedsWrong)

/-- 'tolseylaw5.SealOwn': WHATEVER THE INPUT: true; the input reads as it did. -/
def sealOwnSpec : ChangeSpec := { name := "sealOwn", fn := fun _ => fun
  | [d1, d2] => { results := [.lit (.bool true)], args := [d1, d2] }
  | _ => none }
def sealOwnRow : OpenClaim := { program := "ytjllejlgclfahaa", sum := "0543d168784918b819ad71141ea9dadd218e3014ec8e4c8f97fa7f9f3b1ae156", func := "tolsey/tolseylaw5.SealOwn", spec := "sealOwn", unfollowed := true, recurses := true, apart := false }
def SealOwnSaid : Prop := sealOwnRow.holds Try.pinned (OpenSpec.ofChange sealOwnSpec)

/-- ITS FALSE NEIGHBOUR: 'it returns false'. Refute it at one input. -/
def sealOwnWrong : ChangeSpec := { name := "sealOwn", fn := fun _ => fun
  | [d1, d2] => { results := [.lit (.bool false)], args := [d1, d2] }
  | _ => none }
def SealOwnWrongFalsely : Prop := sealOwnRow.holds Try.pinned (OpenSpec.ofChange sealOwnWrong)

/-- 'tolseylaw5.SealBlind': WHATEVER THE INPUT: true; the input reads as it did. -/
def sealBlindSpec : ChangeSpec := { name := "sealBlind", fn := fun _ => fun
  | [d1, d2] => { results := [.lit (.bool true)], args := [d1, d2] }
  | _ => none }
def sealBlindRow : OpenClaim := { program := "ytjllejlgclfahaa", sum := "0543d168784918b819ad71141ea9dadd218e3014ec8e4c8f97fa7f9f3b1ae156", func := "tolsey/tolseylaw5.SealBlind", spec := "sealBlind", unfollowed := true, recurses := true, apart := false }
def SealBlindSaid : Prop := sealBlindRow.holds Try.pinned (OpenSpec.ofChange sealBlindSpec)

/-- ITS FALSE NEIGHBOUR: 'it returns false'. Refute it at one input. -/
def sealBlindWrong : ChangeSpec := { name := "sealBlind", fn := fun _ => fun
  | [d1, d2] => { results := [.lit (.bool false)], args := [d1, d2] }
  | _ => none }
def SealBlindWrongFalsely : Prop := sealBlindRow.holds Try.pinned (OpenSpec.ofChange sealBlindWrong)

/-- 'tolseylaw5.SealNone': WHATEVER THE INPUT: true; the input reads as it did. -/
def sealNoneSpec : ChangeSpec := { name := "sealNone", fn := fun _ => fun
  | [d1, d2, d3] => { results := [.lit (.bool true)], args := [d1, d2, d3] }
  | _ => none }
def sealNoneRow : OpenClaim := { program := "ytjllejlgclfahaa", sum := "0543d168784918b819ad71141ea9dadd218e3014ec8e4c8f97fa7f9f3b1ae156", func := "tolsey/tolseylaw5.SealNone", spec := "sealNone", unfollowed := true, recurses := true, apart := false }
def SealNoneSaid : Prop := sealNoneRow.holds Try.pinned (OpenSpec.ofChange sealNoneSpec)

/-- ITS FALSE NEIGHBOUR: 'it returns false'. Refute it at one input. -/
def sealNoneWrong : ChangeSpec := { name := "sealNone", fn := fun _ => fun
  | [d1, d2, d3] => { results := [.lit (.bool false)], args := [d1, d2, d3] }
  | _ => none }
def SealNoneWrongFalsely : Prop := sealNoneRow.holds Try.pinned (OpenSpec.ofChange sealNoneWrong)

/-- 'tolseylaw5.SealPlays': WHATEVER THE INPUT: true; the input reads as it did. -/
def sealPlaysSpec : ChangeSpec := { name := "sealPlays", fn := fun _ => fun
  | [d1, d2, d3] => { results := [.lit (.bool true)], args := [d1, d2, d3] }
  | _ => none }
def sealPlaysRow : OpenClaim := { program := "ytjllejlgclfahaa", sum := "0543d168784918b819ad71141ea9dadd218e3014ec8e4c8f97fa7f9f3b1ae156", func := "tolsey/tolseylaw5.SealPlays", spec := "sealPlays", unfollowed := true, recurses := true, apart := false }
def SealPlaysSaid : Prop := sealPlaysRow.holds Try.pinned (OpenSpec.ofChange sealPlaysSpec)

/-- ITS FALSE NEIGHBOUR: 'it returns false'. Refute it at one input. -/
def sealPlaysWrong : ChangeSpec := { name := "sealPlays", fn := fun _ => fun
  | [d1, d2, d3] => { results := [.lit (.bool false)], args := [d1, d2, d3] }
  | _ => none }
def SealPlaysWrongFalsely : Prop := sealPlaysRow.holds Try.pinned (OpenSpec.ofChange sealPlaysWrong)

/- THE SECOND FORM. 'bulk': how many values and letters a reading holds, each counted each time it is reached (what is shared counts as often as it is met; a slice's spare places count too). A statement '..UptoSaid' is the law's where the arguments, and the package variables that the reading takes, are together of bulk at most 1048576: NARROWER than '..Said'. Prove '..Said' where nothing that the law and all that it calls make is longer than what came in: it says more and counts as full. Else prove '..UptoSaid'. A law counts once. -/
mutual
def uptoBulk {H : Type} : DataW H → Nat
  | .lit (.string bytes) => bytes.length + 1
  | .lit _ => 1
  | .nil => 1
  | .ptr d => uptoBulk d + 1
  | .slice elems spare => uptoBulkAll elems + uptoBulkAll spare + 1
  | .agg parts => uptoBulkAll parts + 1
  | .iface _ d => uptoBulk d + 1
  | .map entries => uptoBulkEntries entries + 1
  | .held _ => 1
def uptoBulkAll {H : Type} : List (DataW H) → Nat
  | [] => 0
  | d :: r => uptoBulk d + uptoBulkAll r
def uptoBulkEntries {H : Type} : List (Lit × DataW H) → Nat
  | [] => 0
  | x :: r => uptoBulkEntry x + uptoBulkEntries r
def uptoBulkEntry {H : Type} : Lit × DataW H → Nat
  | (.string bytes, d) => bytes.length + uptoBulk d + 1
  | (_, d) => uptoBulk d + 1
 end
def uptoSmall : (H : Type) → List (DataW H) → Bool := fun _ ds => decide (uptoBulkAll ds ≤ 1048576)
def OpenSpec.upto (s : _root_.Go.ChangeSpec) : _root_.Go.OpenSpec := { _root_.Go.OpenSpec.ofChange s with cond := some uptoSmall }

/-- 'tolseylaw21.PaceDoubles', WHERE WHAT IT READS IS OF BULK AT MOST 1048576: true; the input reads as it did. -/
def paceDoublesUptoRow : OpenClaim := { program := "ytjllejlgclfahaa", sum := "0543d168784918b819ad71141ea9dadd218e3014ec8e4c8f97fa7f9f3b1ae156", func := "tolsey/tolseylaw21.PaceDoubles", spec := "paceDoubles", apart := false, narrowed := true }
def PaceDoublesUptoSaid : Prop := paceDoublesUptoRow.holds Try.pinned (OpenSpec.upto paceDoublesSpec)

/-- 'tolseylaw21.PaceTicks', WHERE WHAT IT READS IS OF BULK AT MOST 1048576: true; the input reads as it did. -/
def paceTicksUptoRow : OpenClaim := { program := "ytjllejlgclfahaa", sum := "0543d168784918b819ad71141ea9dadd218e3014ec8e4c8f97fa7f9f3b1ae156", func := "tolsey/tolseylaw21.PaceTicks", spec := "paceTicks", apart := false, narrowed := true }
def PaceTicksUptoSaid : Prop := paceTicksUptoRow.holds Try.pinned (OpenSpec.upto paceTicksSpec)

/-- 'tolseylaw21.PaceHeld', WHERE WHAT IT READS IS OF BULK AT MOST 1048576: true; the input reads as it did. -/
def paceHeldUptoRow : OpenClaim := { program := "ytjllejlgclfahaa", sum := "0543d168784918b819ad71141ea9dadd218e3014ec8e4c8f97fa7f9f3b1ae156", func := "tolsey/tolseylaw21.PaceHeld", spec := "paceHeld", apart := false, narrowed := true }
def PaceHeldUptoSaid : Prop := paceHeldUptoRow.holds Try.pinned (OpenSpec.upto paceHeldSpec)

/-- 'tolseylaw21.PacePlays', WHERE WHAT IT READS IS OF BULK AT MOST 1048576: true; the input reads as it did. -/
def pacePlaysUptoRow : OpenClaim := { program := "ytjllejlgclfahaa", sum := "0543d168784918b819ad71141ea9dadd218e3014ec8e4c8f97fa7f9f3b1ae156", func := "tolsey/tolseylaw21.PacePlays", spec := "pacePlays", apart := false, narrowed := true }
def PacePlaysUptoSaid : Prop := pacePlaysUptoRow.holds Try.pinned (OpenSpec.upto pacePlaysSpec)

/-- 'tolseylaw26.NetwOrder', WHERE WHAT IT READS IS OF BULK AT MOST 1048576: true; the input reads as it did. -/
def netwOrderUptoRow : OpenClaim := { program := "ytjllejlgclfahaa", sum := "0543d168784918b819ad71141ea9dadd218e3014ec8e4c8f97fa7f9f3b1ae156", func := "tolsey/tolseylaw26.NetwOrder", spec := "netwOrder", apart := false, narrowed := true }
def NetwOrderUptoSaid : Prop := netwOrderUptoRow.holds Try.pinned (OpenSpec.upto netwOrderSpec)

/-- 'tolseylaw26.NetwOwn', WHERE WHAT IT READS IS OF BULK AT MOST 1048576: true; the input reads as it did. -/
def netwOwnUptoRow : OpenClaim := { program := "ytjllejlgclfahaa", sum := "0543d168784918b819ad71141ea9dadd218e3014ec8e4c8f97fa7f9f3b1ae156", func := "tolsey/tolseylaw26.NetwOwn", spec := "netwOwn", apart := false, narrowed := true }
def NetwOwnUptoSaid : Prop := netwOwnUptoRow.holds Try.pinned (OpenSpec.upto netwOwnSpec)

/-- 'tolseylaw26.NetwPlays', WHERE WHAT IT READS IS OF BULK AT MOST 1048576: true; the input reads as it did. -/
def netwPlaysUptoRow : OpenClaim := { program := "ytjllejlgclfahaa", sum := "0543d168784918b819ad71141ea9dadd218e3014ec8e4c8f97fa7f9f3b1ae156", func := "tolsey/tolseylaw26.NetwPlays", spec := "netwPlays", apart := false, narrowed := true }
def NetwPlaysUptoSaid : Prop := netwPlaysUptoRow.holds Try.pinned (OpenSpec.upto netwPlaysSpec)

/-- 'tolseylaw4.SignApart', WHERE WHAT IT READS IS OF BULK AT MOST 1048576: true; the input reads as it did. -/
def signApartUptoRow : OpenClaim := { program := "ytjllejlgclfahaa", sum := "0543d168784918b819ad71141ea9dadd218e3014ec8e4c8f97fa7f9f3b1ae156", func := "tolsey/tolseylaw4.SignApart", spec := "signApart", unfollowed := true, recurses := true, apart := false, narrowed := true }
def SignApartUptoSaid : Prop := signApartUptoRow.holds Try.pinned (OpenSpec.upto signApartSpec)

/-- 'tolseylaw4.SignMany', WHERE WHAT IT READS IS OF BULK AT MOST 1048576: true; the input reads as it did. -/
def signManyUptoRow : OpenClaim := { program := "ytjllejlgclfahaa", sum := "0543d168784918b819ad71141ea9dadd218e3014ec8e4c8f97fa7f9f3b1ae156", func := "tolsey/tolseylaw4.SignMany", spec := "signMany", unfollowed := true, recurses := true, apart := false, narrowed := true }
def SignManyUptoSaid : Prop := signManyUptoRow.holds Try.pinned (OpenSpec.upto signManySpec)

/-- 'tolseylaw4.SignTells', WHERE WHAT IT READS IS OF BULK AT MOST 1048576: true; the input reads as it did. -/
def signTellsUptoRow : OpenClaim := { program := "ytjllejlgclfahaa", sum := "0543d168784918b819ad71141ea9dadd218e3014ec8e4c8f97fa7f9f3b1ae156", func := "tolsey/tolseylaw4.SignTells", spec := "signTells", unfollowed := true, recurses := true, apart := false, narrowed := true }
def SignTellsUptoSaid : Prop := signTellsUptoRow.holds Try.pinned (OpenSpec.upto signTellsSpec)

/-- 'tolseylaw5.SealNeeds', WHERE WHAT IT READS IS OF BULK AT MOST 1048576: true; the input reads as it did. -/
def sealNeedsUptoRow : OpenClaim := { program := "ytjllejlgclfahaa", sum := "0543d168784918b819ad71141ea9dadd218e3014ec8e4c8f97fa7f9f3b1ae156", func := "tolsey/tolseylaw5.SealNeeds", spec := "sealNeeds", unfollowed := true, recurses := true, apart := false, narrowed := true }
def SealNeedsUptoSaid : Prop := sealNeedsUptoRow.holds Try.pinned (OpenSpec.upto sealNeedsSpec)

/-- 'tolseylaw5.SealOwn', WHERE WHAT IT READS IS OF BULK AT MOST 1048576: true; the input reads as it did. -/
def sealOwnUptoRow : OpenClaim := { program := "ytjllejlgclfahaa", sum := "0543d168784918b819ad71141ea9dadd218e3014ec8e4c8f97fa7f9f3b1ae156", func := "tolsey/tolseylaw5.SealOwn", spec := "sealOwn", unfollowed := true, recurses := true, apart := false, narrowed := true }
def SealOwnUptoSaid : Prop := sealOwnUptoRow.holds Try.pinned (OpenSpec.upto sealOwnSpec)

/-- 'tolseylaw5.SealBlind', WHERE WHAT IT READS IS OF BULK AT MOST 1048576: true; the input reads as it did. -/
def sealBlindUptoRow : OpenClaim := { program := "ytjllejlgclfahaa", sum := "0543d168784918b819ad71141ea9dadd218e3014ec8e4c8f97fa7f9f3b1ae156", func := "tolsey/tolseylaw5.SealBlind", spec := "sealBlind", unfollowed := true, recurses := true, apart := false, narrowed := true }
def SealBlindUptoSaid : Prop := sealBlindUptoRow.holds Try.pinned (OpenSpec.upto sealBlindSpec)

/-- 'tolseylaw5.SealNone', WHERE WHAT IT READS IS OF BULK AT MOST 1048576: true; the input reads as it did. -/
def sealNoneUptoRow : OpenClaim := { program := "ytjllejlgclfahaa", sum := "0543d168784918b819ad71141ea9dadd218e3014ec8e4c8f97fa7f9f3b1ae156", func := "tolsey/tolseylaw5.SealNone", spec := "sealNone", unfollowed := true, recurses := true, apart := false, narrowed := true }
def SealNoneUptoSaid : Prop := sealNoneUptoRow.holds Try.pinned (OpenSpec.upto sealNoneSpec)

/-- 'tolseylaw5.SealPlays', WHERE WHAT IT READS IS OF BULK AT MOST 1048576: true; the input reads as it did. -/
def sealPlaysUptoRow : OpenClaim := { program := "ytjllejlgclfahaa", sum := "0543d168784918b819ad71141ea9dadd218e3014ec8e4c8f97fa7f9f3b1ae156", func := "tolsey/tolseylaw5.SealPlays", spec := "sealPlays", unfollowed := true, recurses := true, apart := false, narrowed := true }
def SealPlaysUptoSaid : Prop := sealPlaysUptoRow.holds Try.pinned (OpenSpec.upto sealPlaysSpec)

end Rows
end Go.Proofs.Ytjllejlgclfahaa
