/-
  No cell of these rows narrows 'for every input' (looked for: loops, veiled, ifaces, maps, wideKeys, modest, calm, conditions, laid).
  DERIVED. THE GIVEN ROWS OF THIS SEAT. 3 by the template 'for every input the law returns true; each argument reads behind the call as it read before'; 0 by the template 'total and deterministic' (their statements: YtcfhkpjheemkgaaGreatTotals.lean).
  GIVEN WITH THE SEED: the statements are not yours to turn. If you find one false, say at which input.
  Laid BY PROGRAM, IN A SANDBOX (cutbox-rows.mjs): the forced cells as the released guide's own fill.sh prints them over the translation 5e03656cdac0e67e… (all of the seat's roots in one cut). By AI agents, Wed Nov 11 2026. No macro, syntax, notation, axiom, sorry.
-/
import Derived.Test.YtcfhkpjheemkgaaGreatChecked
import GoSem.Claim
import GoSem.ClaimJoined
import GoSem.ClaimMapViews
import Derived.JoinedTies
import Derived.KernelRfl
namespace Go.Proofs.YtcfhkpjheemkgaaGreat
/- THE CELL 'sum', in the pinned program and in every row, IS THE sha256 OF THE DUMP (.gsa) THAT YtcfhkpjheemkgaaGreatProg.lean LOADS. Nothing in Lean hashes anything: it is a label: what it is worth is what the hold of that sum in a sandbox is worth. -/
noncomputable def Tryz.pinned : Pinned := { name := "ytcfhkpjheemkgaagreat", sum := "5e03656cdac0e67ee4cf73c59cd07b91b08ef9525ff4b6695ed7bdc43c6a32c1", checked := Tryz.checked }
namespace Rows
def none {H : Type} : Left H := { results := [], args := [] }

/-- 'tolseylaw22.PropLead': WHATEVER THE INPUT: true; the input reads as it did. -/
def propLeadSpec : ChangeSpec := { name := "propLead", fn := fun _ => fun
  | [d1, d2, d3, d4, d5] => { results := [.lit (.bool true)], args := [d1, d2, d3, d4, d5] }
  | _ => none }
def propLeadRow : OpenClaim := { program := "ytcfhkpjheemkgaagreat", sum := "5e03656cdac0e67ee4cf73c59cd07b91b08ef9525ff4b6695ed7bdc43c6a32c1", func := "tolsey/tolseylaw22.PropLead", spec := "propLead", inPlace := ["math/bits.Add64"], unfollowed := true, recurses := true, apart := false }
def PropLeadSaid : Prop := propLeadRow.holds Tryz.pinned (OpenSpec.ofChange propLeadSpec)

/-- ITS FALSE NEIGHBOUR: 'it returns false'. Refute it at one input. -/
def propLeadWrong : ChangeSpec := { name := "propLead", fn := fun _ => fun
  | [d1, d2, d3, d4, d5] => { results := [.lit (.bool false)], args := [d1, d2, d3, d4, d5] }
  | _ => none }
def PropLeadWrongFalsely : Prop := propLeadRow.holds Tryz.pinned (OpenSpec.ofChange propLeadWrong)

/-- 'tolseylaw22.PropFresh': WHATEVER THE INPUT: true; the input reads as it did. -/
def propFreshSpec : ChangeSpec := { name := "propFresh", fn := fun _ => fun
  | [d1, d2, d3, d4] => { results := [.lit (.bool true)], args := [d1, d2, d3, d4] }
  | _ => none }
def propFreshRow : OpenClaim := { program := "ytcfhkpjheemkgaagreat", sum := "5e03656cdac0e67ee4cf73c59cd07b91b08ef9525ff4b6695ed7bdc43c6a32c1", func := "tolsey/tolseylaw22.PropFresh", spec := "propFresh", inPlace := ["math/bits.Add64"], unfollowed := true, recurses := true, apart := false }
def PropFreshSaid : Prop := propFreshRow.holds Tryz.pinned (OpenSpec.ofChange propFreshSpec)

/-- ITS FALSE NEIGHBOUR: 'it returns false'. Refute it at one input. -/
def propFreshWrong : ChangeSpec := { name := "propFresh", fn := fun _ => fun
  | [d1, d2, d3, d4] => { results := [.lit (.bool false)], args := [d1, d2, d3, d4] }
  | _ => none }
def PropFreshWrongFalsely : Prop := propFreshRow.holds Tryz.pinned (OpenSpec.ofChange propFreshWrong)

/-- 'tolseylaw22.PropPlays': WHATEVER THE INPUT: true; the input reads as it did. -/
def propPlaysSpec : ChangeSpec := { name := "propPlays", fn := fun _ => fun
  | [d1, d2, d3, d4, d5, d6, d7, d8] => { results := [.lit (.bool true)], args := [d1, d2, d3, d4, d5, d6, d7, d8] }
  | _ => none }
def propPlaysRow : OpenClaim := { program := "ytcfhkpjheemkgaagreat", sum := "5e03656cdac0e67ee4cf73c59cd07b91b08ef9525ff4b6695ed7bdc43c6a32c1", func := "tolsey/tolseylaw22.PropPlays", spec := "propPlays", inPlace := ["math/bits.Add64"], unfollowed := true, recurses := true, apart := false }
def PropPlaysSaid : Prop := propPlaysRow.holds Tryz.pinned (OpenSpec.ofChange propPlaysSpec)

/-- ITS FALSE NEIGHBOUR: 'it returns false'. Refute it at one input. -/
def propPlaysWrong : ChangeSpec := { name := "propPlays", fn := fun _ => fun
  | [d1, d2, d3, d4, d5, d6, d7, d8] => { results := [.lit (.bool false)], args := [d1, d2, d3, d4, d5, d6, d7, d8] }
  | _ => none }
def PropPlaysWrongFalsely : Prop := propPlaysRow.holds Tryz.pinned (OpenSpec.ofChange propPlaysWrong)

/- THE SECOND FORM. 'bulk': how many values and letters a reading holds, each counted each time it is reached (what is shared counts as often as it is met; a slice's spare places count too). A statement '..UptoSaid' is the law's where the arguments, and the package variables that the reading takes, are together of bulk at most 1048576: NARROWER than '..Said'. Prove '..Said' where nothing that the law and all that it calls make is longer than what came in: it says more and counts as full. Else prove '..UptoSaid'. A law counts once. -/
mutual
def uptoBulk {H : Type} : DataW H → Nat
  | .lit (.string bytes) => bytes.length + 1
  | .lit _ => 1
  | .nil => 1
  | .ptr d => uptoBulk d + 1
  | .slice elems spare => uptoBulkAll elems + uptoBulkAll spare + 1
  | .agg parts => uptoBulkAll parts + 1
  | .iface _ d => uptoBulk d + 1
  | .map entries => uptoBulkEntries entries + 1
  | .held _ => 1
def uptoBulkAll {H : Type} : List (DataW H) → Nat
  | [] => 0
  | d :: r => uptoBulk d + uptoBulkAll r
def uptoBulkEntries {H : Type} : List (Lit × DataW H) → Nat
  | [] => 0
  | x :: r => uptoBulkEntry x + uptoBulkEntries r
def uptoBulkEntry {H : Type} : Lit × DataW H → Nat
  | (.string bytes, d) => bytes.length + uptoBulk d + 1
  | (_, d) => uptoBulk d + 1
 end
def uptoSmall : (H : Type) → List (DataW H) → Bool := fun _ ds => decide (uptoBulkAll ds ≤ 1048576)
def OpenSpec.upto (s : _root_.Go.ChangeSpec) : _root_.Go.OpenSpec := { _root_.Go.OpenSpec.ofChange s with cond := some uptoSmall }

/-- 'tolseylaw22.PropLead', WHERE WHAT IT READS IS OF BULK AT MOST 1048576: true; the input reads as it did. -/
def propLeadUptoRow : OpenClaim := { program := "ytcfhkpjheemkgaagreat", sum := "5e03656cdac0e67ee4cf73c59cd07b91b08ef9525ff4b6695ed7bdc43c6a32c1", func := "tolsey/tolseylaw22.PropLead", spec := "propLead", inPlace := ["math/bits.Add64"], unfollowed := true, recurses := true, apart := false, narrowed := true }
def PropLeadUptoSaid : Prop := propLeadUptoRow.holds Tryz.pinned (OpenSpec.upto propLeadSpec)

/-- 'tolseylaw22.PropFresh', WHERE WHAT IT READS IS OF BULK AT MOST 1048576: true; the input reads as it did. -/
def propFreshUptoRow : OpenClaim := { program := "ytcfhkpjheemkgaagreat", sum := "5e03656cdac0e67ee4cf73c59cd07b91b08ef9525ff4b6695ed7bdc43c6a32c1", func := "tolsey/tolseylaw22.PropFresh", spec := "propFresh", inPlace := ["math/bits.Add64"], unfollowed := true, recurses := true, apart := false, narrowed := true }
def PropFreshUptoSaid : Prop := propFreshUptoRow.holds Tryz.pinned (OpenSpec.upto propFreshSpec)

/-- 'tolseylaw22.PropPlays', WHERE WHAT IT READS IS OF BULK AT MOST 1048576: true; the input reads as it did. -/
def propPlaysUptoRow : OpenClaim := { program := "ytcfhkpjheemkgaagreat", sum := "5e03656cdac0e67ee4cf73c59cd07b91b08ef9525ff4b6695ed7bdc43c6a32c1", func := "tolsey/tolseylaw22.PropPlays", spec := "propPlays", inPlace := ["math/bits.Add64"], unfollowed := true, recurses := true, apart := false, narrowed := true }
def PropPlaysUptoSaid : Prop := propPlaysUptoRow.holds Tryz.pinned (OpenSpec.upto propPlaysSpec)

end Rows
end Go.Proofs.YtcfhkpjheemkgaaGreat
