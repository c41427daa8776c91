/-
  No cell of these rows narrows 'for every input' (looked for: loops, veiled, ifaces, maps, wideKeys, modest, calm, conditions, laid).
  DERIVED. THE GIVEN ROWS OF THIS SEAT. 7 by the template 'for every input the law returns true; each argument reads behind the call as it read before'; 0 by the template 'total and deterministic' (their statements: YtfgbegamdlafkaaTotals.lean).
  GIVEN WITH THE SEED: the statements are not yours to turn. If you find one false, say at which input.
  Laid BY PROGRAM, IN A SANDBOX (cutbox-rows.mjs): the forced cells as the released guide's own fill.sh prints them over the translation 84d79298264a3b03… (all of the seat's roots in one cut). By AI agents, Wed Nov 11 2026. No macro, syntax, notation, axiom, sorry.
-/
import Derived.Test.YtfgbegamdlafkaaChecked
import GoSem.Claim
import GoSem.ClaimJoined
import GoSem.ClaimMapViews
import Derived.JoinedTies
import Derived.KernelRfl
namespace Go.Proofs.Ytfgbegamdlafkaa
/- THE CELL 'sum', in the pinned program and in every row, IS THE sha256 OF THE DUMP (.gsa) THAT YtfgbegamdlafkaaProg.lean LOADS. Nothing in Lean hashes anything: it is a label: what it is worth is what the hold of that sum in a sandbox is worth. -/
noncomputable def Try.pinned : Pinned := { name := "ytfgbegamdlafkaa", sum := "84d79298264a3b03c5f13925ebe4fdc6685f0bf48f749a0dfbde11f53c21d9d3", checked := Try.checked }
namespace Rows
def none {H : Type} : Left H := { results := [], args := [] }

/-- 'fairleadlaw17.FragCuts': WHATEVER THE INPUT: true; the input reads as it did. -/
def fragCutsSpec : ChangeSpec := { name := "fragCuts", fn := fun _ => fun
  | [d1, d2, d3] => { results := [.lit (.bool true)], args := [d1, d2, d3] }
  | _ => none }
def fragCutsRow : OpenClaim := { program := "ytfgbegamdlafkaa", sum := "84d79298264a3b03c5f13925ebe4fdc6685f0bf48f749a0dfbde11f53c21d9d3", func := "fairlead/fairleadlaw17.FragCuts", spec := "fragCuts", unfollowed := true, recurses := true, apart := false }
def FragCutsSaid : Prop := fragCutsRow.holds Try.pinned (OpenSpec.ofChange fragCutsSpec)

/-- ITS FALSE NEIGHBOUR: 'it returns false'. Refute it at one input. -/
def fragCutsWrong : ChangeSpec := { name := "fragCuts", fn := fun _ => fun
  | [d1, d2, d3] => { results := [.lit (.bool false)], args := [d1, d2, d3] }
  | _ => none }
def FragCutsWrongFalsely : Prop := fragCutsRow.holds Try.pinned (OpenSpec.ofChange fragCutsWrong)

/-- 'fairleadlaw17.FragJoins': WHATEVER THE INPUT: true; the input reads as it did. -/
def fragJoinsSpec : ChangeSpec := { name := "fragJoins", fn := fun _ => fun
  | [d] => { results := [.lit (.bool true)], args := [d] }
  | _ => none }
def fragJoinsRow : OpenClaim := { program := "ytfgbegamdlafkaa", sum := "84d79298264a3b03c5f13925ebe4fdc6685f0bf48f749a0dfbde11f53c21d9d3", func := "fairlead/fairleadlaw17.FragJoins", spec := "fragJoins", unfollowed := true, recurses := true, apart := false }
def FragJoinsSaid : Prop := fragJoinsRow.holds Try.pinned (OpenSpec.ofChange fragJoinsSpec)

/-- ITS FALSE NEIGHBOUR: 'it returns false'. Refute it at one input. -/
def fragJoinsWrong : ChangeSpec := { name := "fragJoins", fn := fun _ => fun
  | [d] => { results := [.lit (.bool false)], args := [d] }
  | _ => none }
def FragJoinsWrongFalsely : Prop := fragJoinsRow.holds Try.pinned (OpenSpec.ofChange fragJoinsWrong)

/-- 'fairleadlaw17.FragBack': WHATEVER THE INPUT: true; the input reads as it did. -/
def fragBackSpec : ChangeSpec := { name := "fragBack", fn := fun _ => fun
  | [d1, d2] => { results := [.lit (.bool true)], args := [d1, d2] }
  | _ => none }
def fragBackRow : OpenClaim := { program := "ytfgbegamdlafkaa", sum := "84d79298264a3b03c5f13925ebe4fdc6685f0bf48f749a0dfbde11f53c21d9d3", func := "fairlead/fairleadlaw17.FragBack", spec := "fragBack", unfollowed := true, recurses := true, apart := false }
def FragBackSaid : Prop := fragBackRow.holds Try.pinned (OpenSpec.ofChange fragBackSpec)

/-- ITS FALSE NEIGHBOUR: 'it returns false'. Refute it at one input. -/
def fragBackWrong : ChangeSpec := { name := "fragBack", fn := fun _ => fun
  | [d1, d2] => { results := [.lit (.bool false)], args := [d1, d2] }
  | _ => none }
def FragBackWrongFalsely : Prop := fragBackRow.holds Try.pinned (OpenSpec.ofChange fragBackWrong)

/-- 'fairleadlaw17.FragShape': WHATEVER THE INPUT: true; the input reads as it did. -/
def fragShapeSpec : ChangeSpec := { name := "fragShape", fn := fun _ => fun
  | [d1, d2, d3] => { results := [.lit (.bool true)], args := [d1, d2, d3] }
  | _ => none }
def fragShapeRow : OpenClaim := { program := "ytfgbegamdlafkaa", sum := "84d79298264a3b03c5f13925ebe4fdc6685f0bf48f749a0dfbde11f53c21d9d3", func := "fairlead/fairleadlaw17.FragShape", spec := "fragShape", unfollowed := true, recurses := true, apart := false }
def FragShapeSaid : Prop := fragShapeRow.holds Try.pinned (OpenSpec.ofChange fragShapeSpec)

/-- ITS FALSE NEIGHBOUR: 'it returns false'. Refute it at one input. -/
def fragShapeWrong : ChangeSpec := { name := "fragShape", fn := fun _ => fun
  | [d1, d2, d3] => { results := [.lit (.bool false)], args := [d1, d2, d3] }
  | _ => none }
def FragShapeWrongFalsely : Prop := fragShapeRow.holds Try.pinned (OpenSpec.ofChange fragShapeWrong)

/-- 'fairleadlaw17.FragWants': WHATEVER THE INPUT: true; the input reads as it did. -/
def fragWantsSpec : ChangeSpec := { name := "fragWants", fn := fun _ => fun
  | [d1, d2, d3] => { results := [.lit (.bool true)], args := [d1, d2, d3] }
  | _ => none }
def fragWantsRow : OpenClaim := { program := "ytfgbegamdlafkaa", sum := "84d79298264a3b03c5f13925ebe4fdc6685f0bf48f749a0dfbde11f53c21d9d3", func := "fairlead/fairleadlaw17.FragWants", spec := "fragWants", unfollowed := true, recurses := true, apart := false }
def FragWantsSaid : Prop := fragWantsRow.holds Try.pinned (OpenSpec.ofChange fragWantsSpec)

/-- ITS FALSE NEIGHBOUR: 'it returns false'. Refute it at one input. -/
def fragWantsWrong : ChangeSpec := { name := "fragWants", fn := fun _ => fun
  | [d1, d2, d3] => { results := [.lit (.bool false)], args := [d1, d2, d3] }
  | _ => none }
def FragWantsWrongFalsely : Prop := fragWantsRow.holds Try.pinned (OpenSpec.ofChange fragWantsWrong)

/-- 'fairleadlaw17.FragEmpty': WHATEVER THE INPUT: true; the input reads as it did. -/
def fragEmptySpec : ChangeSpec := { name := "fragEmpty", fn := fun _ => fun
  | [d1, d2, d3] => { results := [.lit (.bool true)], args := [d1, d2, d3] }
  | _ => none }
def fragEmptyRow : OpenClaim := { program := "ytfgbegamdlafkaa", sum := "84d79298264a3b03c5f13925ebe4fdc6685f0bf48f749a0dfbde11f53c21d9d3", func := "fairlead/fairleadlaw17.FragEmpty", spec := "fragEmpty", unfollowed := true, recurses := true, apart := false }
def FragEmptySaid : Prop := fragEmptyRow.holds Try.pinned (OpenSpec.ofChange fragEmptySpec)

/-- ITS FALSE NEIGHBOUR: 'it returns false'. Refute it at one input. -/
def fragEmptyWrong : ChangeSpec := { name := "fragEmpty", fn := fun _ => fun
  | [d1, d2, d3] => { results := [.lit (.bool false)], args := [d1, d2, d3] }
  | _ => none }
def FragEmptyWrongFalsely : Prop := fragEmptyRow.holds Try.pinned (OpenSpec.ofChange fragEmptyWrong)

/-- 'fairleadlaw17.FragTsns': WHATEVER THE INPUT: true; the input reads as it did. -/
def fragTsnsSpec : ChangeSpec := { name := "fragTsns", fn := fun _ => fun
  | [d1, d2] => { results := [.lit (.bool true)], args := [d1, d2] }
  | _ => none }
def fragTsnsRow : OpenClaim := { program := "ytfgbegamdlafkaa", sum := "84d79298264a3b03c5f13925ebe4fdc6685f0bf48f749a0dfbde11f53c21d9d3", func := "fairlead/fairleadlaw17.FragTsns", spec := "fragTsns", unfollowed := true, recurses := true, apart := false }
def FragTsnsSaid : Prop := fragTsnsRow.holds Try.pinned (OpenSpec.ofChange fragTsnsSpec)

/-- ITS FALSE NEIGHBOUR: 'it returns false'. Refute it at one input. -/
def fragTsnsWrong : ChangeSpec := { name := "fragTsns", fn := fun _ => fun
  | [d1, d2] => { results := [.lit (.bool false)], args := [d1, d2] }
  | _ => none }
def FragTsnsWrongFalsely : Prop := fragTsnsRow.holds Try.pinned (OpenSpec.ofChange fragTsnsWrong)

/- THE SECOND FORM. 'bulk': how many values and letters a reading holds, each counted each time it is reached (what is shared counts as often as it is met; a slice's spare places count too). A statement '..UptoSaid' is the law's where the arguments, and the package variables that the reading takes, are together of bulk at most 1048576: NARROWER than '..Said'. Prove '..Said' where nothing that the law and all that it calls make is longer than what came in: it says more and counts as full. Else prove '..UptoSaid'. A law counts once. -/
mutual
def uptoBulk {H : Type} : DataW H → Nat
  | .lit (.string bytes) => bytes.length + 1
  | .lit _ => 1
  | .nil => 1
  | .ptr d => uptoBulk d + 1
  | .slice elems spare => uptoBulkAll elems + uptoBulkAll spare + 1
  | .agg parts => uptoBulkAll parts + 1
  | .iface _ d => uptoBulk d + 1
  | .map entries => uptoBulkEntries entries + 1
  | .held _ => 1
def uptoBulkAll {H : Type} : List (DataW H) → Nat
  | [] => 0
  | d :: r => uptoBulk d + uptoBulkAll r
def uptoBulkEntries {H : Type} : List (Lit × DataW H) → Nat
  | [] => 0
  | x :: r => uptoBulkEntry x + uptoBulkEntries r
def uptoBulkEntry {H : Type} : Lit × DataW H → Nat
  | (.string bytes, d) => bytes.length + uptoBulk d + 1
  | (_, d) => uptoBulk d + 1
 end
def uptoSmall : (H : Type) → List (DataW H) → Bool := fun _ ds => decide (uptoBulkAll ds ≤ 1048576)
def OpenSpec.upto (s : _root_.Go.ChangeSpec) : _root_.Go.OpenSpec := { _root_.Go.OpenSpec.ofChange s with cond := some uptoSmall }

/-- 'fairleadlaw17.FragCuts', WHERE WHAT IT READS IS OF BULK AT MOST 1048576: true; the input reads as it did. -/
def fragCutsUptoRow : OpenClaim := { program := "ytfgbegamdlafkaa", sum := "84d79298264a3b03c5f13925ebe4fdc6685f0bf48f749a0dfbde11f53c21d9d3", func := "fairlead/fairleadlaw17.FragCuts", spec := "fragCuts", unfollowed := true, recurses := true, apart := false, narrowed := true }
def FragCutsUptoSaid : Prop := fragCutsUptoRow.holds Try.pinned (OpenSpec.upto fragCutsSpec)

/-- 'fairleadlaw17.FragJoins', WHERE WHAT IT READS IS OF BULK AT MOST 1048576: true; the input reads as it did. -/
def fragJoinsUptoRow : OpenClaim := { program := "ytfgbegamdlafkaa", sum := "84d79298264a3b03c5f13925ebe4fdc6685f0bf48f749a0dfbde11f53c21d9d3", func := "fairlead/fairleadlaw17.FragJoins", spec := "fragJoins", unfollowed := true, recurses := true, apart := false, narrowed := true }
def FragJoinsUptoSaid : Prop := fragJoinsUptoRow.holds Try.pinned (OpenSpec.upto fragJoinsSpec)

/-- 'fairleadlaw17.FragBack', WHERE WHAT IT READS IS OF BULK AT MOST 1048576: true; the input reads as it did. -/
def fragBackUptoRow : OpenClaim := { program := "ytfgbegamdlafkaa", sum := "84d79298264a3b03c5f13925ebe4fdc6685f0bf48f749a0dfbde11f53c21d9d3", func := "fairlead/fairleadlaw17.FragBack", spec := "fragBack", unfollowed := true, recurses := true, apart := false, narrowed := true }
def FragBackUptoSaid : Prop := fragBackUptoRow.holds Try.pinned (OpenSpec.upto fragBackSpec)

/-- 'fairleadlaw17.FragShape', WHERE WHAT IT READS IS OF BULK AT MOST 1048576: true; the input reads as it did. -/
def fragShapeUptoRow : OpenClaim := { program := "ytfgbegamdlafkaa", sum := "84d79298264a3b03c5f13925ebe4fdc6685f0bf48f749a0dfbde11f53c21d9d3", func := "fairlead/fairleadlaw17.FragShape", spec := "fragShape", unfollowed := true, recurses := true, apart := false, narrowed := true }
def FragShapeUptoSaid : Prop := fragShapeUptoRow.holds Try.pinned (OpenSpec.upto fragShapeSpec)

/-- 'fairleadlaw17.FragWants', WHERE WHAT IT READS IS OF BULK AT MOST 1048576: true; the input reads as it did. -/
def fragWantsUptoRow : OpenClaim := { program := "ytfgbegamdlafkaa", sum := "84d79298264a3b03c5f13925ebe4fdc6685f0bf48f749a0dfbde11f53c21d9d3", func := "fairlead/fairleadlaw17.FragWants", spec := "fragWants", unfollowed := true, recurses := true, apart := false, narrowed := true }
def FragWantsUptoSaid : Prop := fragWantsUptoRow.holds Try.pinned (OpenSpec.upto fragWantsSpec)

/-- 'fairleadlaw17.FragEmpty', WHERE WHAT IT READS IS OF BULK AT MOST 1048576: true; the input reads as it did. -/
def fragEmptyUptoRow : OpenClaim := { program := "ytfgbegamdlafkaa", sum := "84d79298264a3b03c5f13925ebe4fdc6685f0bf48f749a0dfbde11f53c21d9d3", func := "fairlead/fairleadlaw17.FragEmpty", spec := "fragEmpty", unfollowed := true, recurses := true, apart := false, narrowed := true }
def FragEmptyUptoSaid : Prop := fragEmptyUptoRow.holds Try.pinned (OpenSpec.upto fragEmptySpec)

/-- 'fairleadlaw17.FragTsns', WHERE WHAT IT READS IS OF BULK AT MOST 1048576: true; the input reads as it did. -/
def fragTsnsUptoRow : OpenClaim := { program := "ytfgbegamdlafkaa", sum := "84d79298264a3b03c5f13925ebe4fdc6685f0bf48f749a0dfbde11f53c21d9d3", func := "fairlead/fairleadlaw17.FragTsns", spec := "fragTsns", unfollowed := true, recurses := true, apart := false, narrowed := true }
def FragTsnsUptoSaid : Prop := fragTsnsUptoRow.holds Try.pinned (OpenSpec.upto fragTsnsSpec)

end Rows
end Go.Proofs.Ytfgbegamdlafkaa
