/-
  No cell of these rows narrows 'for every input' (looked for: loops, veiled, ifaces, maps, wideKeys, modest, calm, conditions, laid).
  DERIVED. THE GIVEN ROWS OF THIS SEAT. 5 by the template 'for every input the law returns true; each argument reads behind the call as it read before'; 0 by the template 'total and deterministic' (their statements: YtkjohgokkfghiaaTotals.lean).
  GIVEN WITH THE SEED: the statements are not yours to turn. If you find one false, say at which input.
  Laid BY PROGRAM, IN A SANDBOX (cutbox-rows.mjs): the forced cells as the released guide's own fill.sh prints them over the translation 207bfbab16b16db0… (all of the seat's roots in one cut). By AI agents, Wed Nov 11 2026. No macro, syntax, notation, axiom, sorry.
-/
import Derived.Test.YtkjohgokkfghiaaChecked
import GoSem.Claim
import GoSem.ClaimJoined
import GoSem.ClaimMapViews
import Derived.JoinedTies
import Derived.KernelRfl
namespace Go.Proofs.Ytkjohgokkfghiaa
/- THE CELL 'sum', in the pinned program and in every row, IS THE sha256 OF THE DUMP (.gsa) THAT YtkjohgokkfghiaaProg.lean LOADS. Nothing in Lean hashes anything: it is a label: what it is worth is what the hold of that sum in a sandbox is worth. -/
noncomputable def Try.pinned : Pinned := { name := "ytkjohgokkfghiaa", sum := "207bfbab16b16db0fd21c6f8c2ec85968b0d6e10ede1ca1af01b7b190a14d71c", checked := Try.checked }
namespace Rows
def none {H : Type} : Left H := { results := [], args := [] }

/-- 'fairleadlaw22.ForwardMakes': WHATEVER THE INPUT: true; the input reads as it did. -/
def forwardMakesSpec : ChangeSpec := { name := "forwardMakes", fn := fun _ => fun
  | [d1, d2] => { results := [.lit (.bool true)], args := [d1, d2] }
  | _ => none }
def forwardMakesRow : OpenClaim := { program := "ytkjohgokkfghiaa", sum := "207bfbab16b16db0fd21c6f8c2ec85968b0d6e10ede1ca1af01b7b190a14d71c", func := "fairlead/fairleadlaw22.ForwardMakes", spec := "forwardMakes", apart := false }
def ForwardMakesSaid : Prop := forwardMakesRow.holds Try.pinned (OpenSpec.ofChange forwardMakesSpec)

/-- ITS FALSE NEIGHBOUR: 'it returns false'. Refute it at one input. -/
def forwardMakesWrong : ChangeSpec := { name := "forwardMakes", fn := fun _ => fun
  | [d1, d2] => { results := [.lit (.bool false)], args := [d1, d2] }
  | _ => none }
def ForwardMakesWrongFalsely : Prop := forwardMakesRow.holds Try.pinned (OpenSpec.ofChange forwardMakesWrong)

/-- 'fairleadlaw22.ForwardCuts': WHATEVER THE INPUT: true; the input reads as it did. -/
def forwardCutsSpec : ChangeSpec := { name := "forwardCuts", fn := fun _ => fun
  | [d1, d2, d3] => { results := [.lit (.bool true)], args := [d1, d2, d3] }
  | _ => none }
def forwardCutsRow : OpenClaim := { program := "ytkjohgokkfghiaa", sum := "207bfbab16b16db0fd21c6f8c2ec85968b0d6e10ede1ca1af01b7b190a14d71c", func := "fairlead/fairleadlaw22.ForwardCuts", spec := "forwardCuts", apart := false }
def ForwardCutsSaid : Prop := forwardCutsRow.holds Try.pinned (OpenSpec.ofChange forwardCutsSpec)

/-- ITS FALSE NEIGHBOUR: 'it returns false'. Refute it at one input. -/
def forwardCutsWrong : ChangeSpec := { name := "forwardCuts", fn := fun _ => fun
  | [d1, d2, d3] => { results := [.lit (.bool false)], args := [d1, d2, d3] }
  | _ => none }
def ForwardCutsWrongFalsely : Prop := forwardCutsRow.holds Try.pinned (OpenSpec.ofChange forwardCutsWrong)

/-- 'fairleadlaw22.ForwardCovers': WHATEVER THE INPUT: true; the input reads as it did. -/
def forwardCoversSpec : ChangeSpec := { name := "forwardCovers", fn := fun _ => fun
  | [d1, d2, d3] => { results := [.lit (.bool true)], args := [d1, d2, d3] }
  | _ => none }
def forwardCoversRow : OpenClaim := { program := "ytkjohgokkfghiaa", sum := "207bfbab16b16db0fd21c6f8c2ec85968b0d6e10ede1ca1af01b7b190a14d71c", func := "fairlead/fairleadlaw22.ForwardCovers", spec := "forwardCovers", apart := false }
def ForwardCoversSaid : Prop := forwardCoversRow.holds Try.pinned (OpenSpec.ofChange forwardCoversSpec)

/-- ITS FALSE NEIGHBOUR: 'it returns false'. Refute it at one input. -/
def forwardCoversWrong : ChangeSpec := { name := "forwardCovers", fn := fun _ => fun
  | [d1, d2, d3] => { results := [.lit (.bool false)], args := [d1, d2, d3] }
  | _ => none }
def ForwardCoversWrongFalsely : Prop := forwardCoversRow.holds Try.pinned (OpenSpec.ofChange forwardCoversWrong)

/-- 'fairleadlaw22.ForwardJoins': WHATEVER THE INPUT: true; the input reads as it did. -/
def forwardJoinsSpec : ChangeSpec := { name := "forwardJoins", fn := fun _ => fun
  | [d1, d2, d3, d4] => { results := [.lit (.bool true)], args := [d1, d2, d3, d4] }
  | _ => none }
def forwardJoinsRow : OpenClaim := { program := "ytkjohgokkfghiaa", sum := "207bfbab16b16db0fd21c6f8c2ec85968b0d6e10ede1ca1af01b7b190a14d71c", func := "fairlead/fairleadlaw22.ForwardJoins", spec := "forwardJoins", apart := false }
def ForwardJoinsSaid : Prop := forwardJoinsRow.holds Try.pinned (OpenSpec.ofChange forwardJoinsSpec)

/-- ITS FALSE NEIGHBOUR: 'it returns false'. Refute it at one input. -/
def forwardJoinsWrong : ChangeSpec := { name := "forwardJoins", fn := fun _ => fun
  | [d1, d2, d3, d4] => { results := [.lit (.bool false)], args := [d1, d2, d3, d4] }
  | _ => none }
def ForwardJoinsWrongFalsely : Prop := forwardJoinsRow.holds Try.pinned (OpenSpec.ofChange forwardJoinsWrong)

/-- 'fairleadlaw22.ForwardRow': WHATEVER THE INPUT: true; the input reads as it did. -/
def forwardRowSpec : ChangeSpec := { name := "forwardRow", fn := fun _ => fun
  | [d1, d2, d3, d4] => { results := [.lit (.bool true)], args := [d1, d2, d3, d4] }
  | _ => none }
def forwardRowRow : OpenClaim := { program := "ytkjohgokkfghiaa", sum := "207bfbab16b16db0fd21c6f8c2ec85968b0d6e10ede1ca1af01b7b190a14d71c", func := "fairlead/fairleadlaw22.ForwardRow", spec := "forwardRow", apart := false }
def ForwardRowSaid : Prop := forwardRowRow.holds Try.pinned (OpenSpec.ofChange forwardRowSpec)

/-- ITS FALSE NEIGHBOUR: 'it returns false'. Refute it at one input. -/
def forwardRowWrong : ChangeSpec := { name := "forwardRow", fn := fun _ => fun
  | [d1, d2, d3, d4] => { results := [.lit (.bool false)], args := [d1, d2, d3, d4] }
  | _ => none }
def ForwardRowWrongFalsely : Prop := forwardRowRow.holds Try.pinned (OpenSpec.ofChange forwardRowWrong)

/- THE SECOND FORM. 'bulk': how many values and letters a reading holds, each counted each time it is reached (what is shared counts as often as it is met; a slice's spare places count too). A statement '..UptoSaid' is the law's where the arguments, and the package variables that the reading takes, are together of bulk at most 1048576: NARROWER than '..Said'. Prove '..Said' where nothing that the law and all that it calls make is longer than what came in: it says more and counts as full. Else prove '..UptoSaid'. A law counts once. -/
mutual
def uptoBulk {H : Type} : DataW H → Nat
  | .lit (.string bytes) => bytes.length + 1
  | .lit _ => 1
  | .nil => 1
  | .ptr d => uptoBulk d + 1
  | .slice elems spare => uptoBulkAll elems + uptoBulkAll spare + 1
  | .agg parts => uptoBulkAll parts + 1
  | .iface _ d => uptoBulk d + 1
  | .map entries => uptoBulkEntries entries + 1
  | .held _ => 1
def uptoBulkAll {H : Type} : List (DataW H) → Nat
  | [] => 0
  | d :: r => uptoBulk d + uptoBulkAll r
def uptoBulkEntries {H : Type} : List (Lit × DataW H) → Nat
  | [] => 0
  | x :: r => uptoBulkEntry x + uptoBulkEntries r
def uptoBulkEntry {H : Type} : Lit × DataW H → Nat
  | (.string bytes, d) => bytes.length + uptoBulk d + 1
  | (_, d) => uptoBulk d + 1
 end
def uptoSmall : (H : Type) → List (DataW H) → Bool := fun _ ds => decide (uptoBulkAll ds ≤ 1048576)
def OpenSpec.upto (s : _root_.Go.ChangeSpec) : _root_.Go.OpenSpec := { _root_.Go.OpenSpec.ofChange s with cond := some uptoSmall }

/-- 'fairleadlaw22.ForwardMakes', WHERE WHAT IT READS IS OF BULK AT MOST 1048576: true; the input reads as it did. -/
def forwardMakesUptoRow : OpenClaim := { program := "ytkjohgokkfghiaa", sum := "207bfbab16b16db0fd21c6f8c2ec85968b0d6e10ede1ca1af01b7b190a14d71c", func := "fairlead/fairleadlaw22.ForwardMakes", spec := "forwardMakes", apart := false, narrowed := true }
def ForwardMakesUptoSaid : Prop := forwardMakesUptoRow.holds Try.pinned (OpenSpec.upto forwardMakesSpec)

/-- 'fairleadlaw22.ForwardCuts', WHERE WHAT IT READS IS OF BULK AT MOST 1048576: true; the input reads as it did. -/
def forwardCutsUptoRow : OpenClaim := { program := "ytkjohgokkfghiaa", sum := "207bfbab16b16db0fd21c6f8c2ec85968b0d6e10ede1ca1af01b7b190a14d71c", func := "fairlead/fairleadlaw22.ForwardCuts", spec := "forwardCuts", apart := false, narrowed := true }
def ForwardCutsUptoSaid : Prop := forwardCutsUptoRow.holds Try.pinned (OpenSpec.upto forwardCutsSpec)

/-- 'fairleadlaw22.ForwardCovers', WHERE WHAT IT READS IS OF BULK AT MOST 1048576: true; the input reads as it did. -/
def forwardCoversUptoRow : OpenClaim := { program := "ytkjohgokkfghiaa", sum := "207bfbab16b16db0fd21c6f8c2ec85968b0d6e10ede1ca1af01b7b190a14d71c", func := "fairlead/fairleadlaw22.ForwardCovers", spec := "forwardCovers", apart := false, narrowed := true }
def ForwardCoversUptoSaid : Prop := forwardCoversUptoRow.holds Try.pinned (OpenSpec.upto forwardCoversSpec)

/-- 'fairleadlaw22.ForwardJoins', WHERE WHAT IT READS IS OF BULK AT MOST 1048576: true; the input reads as it did. -/
def forwardJoinsUptoRow : OpenClaim := { program := "ytkjohgokkfghiaa", sum := "207bfbab16b16db0fd21c6f8c2ec85968b0d6e10ede1ca1af01b7b190a14d71c", func := "fairlead/fairleadlaw22.ForwardJoins", spec := "forwardJoins", apart := false, narrowed := true }
def ForwardJoinsUptoSaid : Prop := forwardJoinsUptoRow.holds Try.pinned (OpenSpec.upto forwardJoinsSpec)

/-- 'fairleadlaw22.ForwardRow', WHERE WHAT IT READS IS OF BULK AT MOST 1048576: true; the input reads as it did. -/
def forwardRowUptoRow : OpenClaim := { program := "ytkjohgokkfghiaa", sum := "207bfbab16b16db0fd21c6f8c2ec85968b0d6e10ede1ca1af01b7b190a14d71c", func := "fairlead/fairleadlaw22.ForwardRow", spec := "forwardRow", apart := false, narrowed := true }
def ForwardRowUptoSaid : Prop := forwardRowUptoRow.holds Try.pinned (OpenSpec.upto forwardRowSpec)

end Rows
end Go.Proofs.Ytkjohgokkfghiaa
