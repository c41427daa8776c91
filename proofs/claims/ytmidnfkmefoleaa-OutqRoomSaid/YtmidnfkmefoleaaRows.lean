/-
  No cell of these rows narrows 'for every input' (looked for: loops, veiled, ifaces, maps, wideKeys, modest, calm, conditions, laid).
  DERIVED. THE GIVEN ROWS OF THIS SEAT. 6 by the template 'for every input the law returns true; each argument reads behind the call as it read before'; 0 by the template 'total and deterministic' (their statements: YtmidnfkmefoleaaTotals.lean).
  GIVEN WITH THE SEED: the statements are not yours to turn. If you find one false, say at which input.
  Laid BY PROGRAM, IN A SANDBOX (cutbox-rows.mjs): the forced cells as the released guide's own fill.sh prints them over the translation 9b4d664e3fd46127… (all of the seat's roots in one cut). By AI agents, Wed Nov 11 2026. No macro, syntax, notation, axiom, sorry.
-/
import Derived.Test.YtmidnfkmefoleaaChecked
import GoSem.Claim
import GoSem.ClaimJoined
import GoSem.ClaimMapViews
import Derived.JoinedTies
import Derived.KernelRfl
namespace Go.Proofs.Ytmidnfkmefoleaa
/- THE CELL 'sum', in the pinned program and in every row, IS THE sha256 OF THE DUMP (.gsa) THAT YtmidnfkmefoleaaProg.lean LOADS. Nothing in Lean hashes anything: it is a label: what it is worth is what the hold of that sum in a sandbox is worth. -/
noncomputable def Try.pinned : Pinned := { name := "ytmidnfkmefoleaa", sum := "9b4d664e3fd46127ec33af2c52de59a080312dbd6cd575d8127e3e32be5fdf51", checked := Try.checked }
namespace Rows
def none {H : Type} : Left H := { results := [], args := [] }

/-- 'fairleadlaw20.OutqExpires': WHATEVER THE INPUT: true; the input reads as it did. -/
def outqExpiresSpec : ChangeSpec := { name := "outqExpires", fn := fun _ => fun
  | [d1, d2] => { results := [.lit (.bool true)], args := [d1, d2] }
  | _ => none }
def outqExpiresRow : OpenClaim := { program := "ytmidnfkmefoleaa", sum := "9b4d664e3fd46127ec33af2c52de59a080312dbd6cd575d8127e3e32be5fdf51", func := "fairlead/fairleadlaw20.OutqExpires", spec := "outqExpires", unfollowed := true, recurses := true, apart := false }
def OutqExpiresSaid : Prop := outqExpiresRow.holds Try.pinned (OpenSpec.ofChange outqExpiresSpec)

/-- ITS FALSE NEIGHBOUR: 'it returns false'. Refute it at one input. -/
def outqExpiresWrong : ChangeSpec := { name := "outqExpires", fn := fun _ => fun
  | [d1, d2] => { results := [.lit (.bool false)], args := [d1, d2] }
  | _ => none }
def OutqExpiresWrongFalsely : Prop := outqExpiresRow.holds Try.pinned (OpenSpec.ofChange outqExpiresWrong)

/-- 'fairleadlaw20.OutqNil': WHATEVER THE INPUT: true; the input reads as it did. -/
def outqNilSpec : ChangeSpec := { name := "outqNil", fn := fun _ => fun
  | [d] => { results := [.lit (.bool true)], args := [d] }
  | _ => none }
def outqNilRow : OpenClaim := { program := "ytmidnfkmefoleaa", sum := "9b4d664e3fd46127ec33af2c52de59a080312dbd6cd575d8127e3e32be5fdf51", func := "fairlead/fairleadlaw20.OutqNil", spec := "outqNil", unfollowed := true, recurses := true, apart := false }
def OutqNilSaid : Prop := outqNilRow.holds Try.pinned (OpenSpec.ofChange outqNilSpec)

/-- ITS FALSE NEIGHBOUR: 'it returns false'. Refute it at one input. -/
def outqNilWrong : ChangeSpec := { name := "outqNil", fn := fun _ => fun
  | [d] => { results := [.lit (.bool false)], args := [d] }
  | _ => none }
def OutqNilWrongFalsely : Prop := outqNilRow.holds Try.pinned (OpenSpec.ofChange outqNilWrong)

/-- 'fairleadlaw20.OutqCut': WHATEVER THE INPUT: true; the input reads as it did. -/
def outqCutSpec : ChangeSpec := { name := "outqCut", fn := fun _ => fun
  | [d1, d2, d3, d4] => { results := [.lit (.bool true)], args := [d1, d2, d3, d4] }
  | _ => none }
def outqCutRow : OpenClaim := { program := "ytmidnfkmefoleaa", sum := "9b4d664e3fd46127ec33af2c52de59a080312dbd6cd575d8127e3e32be5fdf51", func := "fairlead/fairleadlaw20.OutqCut", spec := "outqCut", unfollowed := true, recurses := true, apart := false }
def OutqCutSaid : Prop := outqCutRow.holds Try.pinned (OpenSpec.ofChange outqCutSpec)

/-- ITS FALSE NEIGHBOUR: 'it returns false'. Refute it at one input. -/
def outqCutWrong : ChangeSpec := { name := "outqCut", fn := fun _ => fun
  | [d1, d2, d3, d4] => { results := [.lit (.bool false)], args := [d1, d2, d3, d4] }
  | _ => none }
def OutqCutWrongFalsely : Prop := outqCutRow.holds Try.pinned (OpenSpec.ofChange outqCutWrong)

/-- 'fairleadlaw20.OutqPlays': WHATEVER THE INPUT: true; the input reads as it did. -/
def outqPlaysSpec : ChangeSpec := { name := "outqPlays", fn := fun _ => fun
  | [d1, d2, d3] => { results := [.lit (.bool true)], args := [d1, d2, d3] }
  | _ => none }
def outqPlaysRow : OpenClaim := { program := "ytmidnfkmefoleaa", sum := "9b4d664e3fd46127ec33af2c52de59a080312dbd6cd575d8127e3e32be5fdf51", func := "fairlead/fairleadlaw20.OutqPlays", spec := "outqPlays", unfollowed := true, recurses := true, apart := false }
def OutqPlaysSaid : Prop := outqPlaysRow.holds Try.pinned (OpenSpec.ofChange outqPlaysSpec)

/-- ITS FALSE NEIGHBOUR: 'it returns false'. Refute it at one input. -/
def outqPlaysWrong : ChangeSpec := { name := "outqPlays", fn := fun _ => fun
  | [d1, d2, d3] => { results := [.lit (.bool false)], args := [d1, d2, d3] }
  | _ => none }
def OutqPlaysWrongFalsely : Prop := outqPlaysRow.holds Try.pinned (OpenSpec.ofChange outqPlaysWrong)

/-- 'fairleadlaw20.OutqWhole': WHATEVER THE INPUT: true; the input reads as it did. -/
def outqWholeSpec : ChangeSpec := { name := "outqWhole", fn := fun _ => fun
  | [d1, d2] => { results := [.lit (.bool true)], args := [d1, d2] }
  | _ => none }
def outqWholeRow : OpenClaim := { program := "ytmidnfkmefoleaa", sum := "9b4d664e3fd46127ec33af2c52de59a080312dbd6cd575d8127e3e32be5fdf51", func := "fairlead/fairleadlaw20.OutqWhole", spec := "outqWhole", unfollowed := true, recurses := true, apart := false }
def OutqWholeSaid : Prop := outqWholeRow.holds Try.pinned (OpenSpec.ofChange outqWholeSpec)

/-- ITS FALSE NEIGHBOUR: 'it returns false'. Refute it at one input. -/
def outqWholeWrong : ChangeSpec := { name := "outqWhole", fn := fun _ => fun
  | [d1, d2] => { results := [.lit (.bool false)], args := [d1, d2] }
  | _ => none }
def OutqWholeWrongFalsely : Prop := outqWholeRow.holds Try.pinned (OpenSpec.ofChange outqWholeWrong)

/-- 'fairleadlaw20.OutqRoom': WHATEVER THE INPUT: true; the input reads as it did. -/
def outqRoomSpec : ChangeSpec := { name := "outqRoom", fn := fun _ => fun
  | [d1, d2] => { results := [.lit (.bool true)], args := [d1, d2] }
  | _ => none }
def outqRoomRow : OpenClaim := { program := "ytmidnfkmefoleaa", sum := "9b4d664e3fd46127ec33af2c52de59a080312dbd6cd575d8127e3e32be5fdf51", func := "fairlead/fairleadlaw20.OutqRoom", spec := "outqRoom", unfollowed := true, recurses := true, apart := false }
def OutqRoomSaid : Prop := outqRoomRow.holds Try.pinned (OpenSpec.ofChange outqRoomSpec)

/-- ITS FALSE NEIGHBOUR: 'it returns false'. Refute it at one input. -/
def outqRoomWrong : ChangeSpec := { name := "outqRoom", fn := fun _ => fun
  | [d1, d2] => { results := [.lit (.bool false)], args := [d1, d2] }
  | _ => none }
def OutqRoomWrongFalsely : Prop := outqRoomRow.holds Try.pinned (OpenSpec.ofChange outqRoomWrong)

/- THE SECOND FORM. 'bulk': how many values and letters a reading holds, each counted each time it is reached (what is shared counts as often as it is met; a slice's spare places count too). A statement '..UptoSaid' is the law's where the arguments, and the package variables that the reading takes, are together of bulk at most 1048576: NARROWER than '..Said'. Prove '..Said' where nothing that the law and all that it calls make is longer than what came in: it says more and counts as full. Else prove '..UptoSaid'. A law counts once. -/
mutual
def uptoBulk {H : Type} : DataW H → Nat
  | .lit (.string bytes) => bytes.length + 1
  | .lit _ => 1
  | .nil => 1
  | .ptr d => uptoBulk d + 1
  | .slice elems spare => uptoBulkAll elems + uptoBulkAll spare + 1
  | .agg parts => uptoBulkAll parts + 1
  | .iface _ d => uptoBulk d + 1
  | .map entries => uptoBulkEntries entries + 1
  | .held _ => 1
def uptoBulkAll {H : Type} : List (DataW H) → Nat
  | [] => 0
  | d :: r => uptoBulk d + uptoBulkAll r
def uptoBulkEntries {H : Type} : List (Lit × DataW H) → Nat
  | [] => 0
  | x :: r => uptoBulkEntry x + uptoBulkEntries r
def uptoBulkEntry {H : Type} : Lit × DataW H → Nat
  | (.string bytes, d) => bytes.length + uptoBulk d + 1
  | (_, d) => uptoBulk d + 1
 end
def uptoSmall : (H : Type) → List (DataW H) → Bool := fun _ ds => decide (uptoBulkAll ds ≤ 1048576)
def OpenSpec.upto (s : _root_.Go.ChangeSpec) : _root_.Go.OpenSpec := { _root_.Go.OpenSpec.ofChange s with cond := some uptoSmall }

/-- 'fairleadlaw20.OutqExpires', WHERE WHAT IT READS IS OF BULK AT MOST 1048576: true; the input reads as it did. -/
def outqExpiresUptoRow : OpenClaim := { program := "ytmidnfkmefoleaa", sum := "9b4d664e3fd46127ec33af2c52de59a080312dbd6cd575d8127e3e32be5fdf51", func := "fairlead/fairleadlaw20.OutqExpires", spec := "outqExpires", unfollowed := true, recurses := true, apart := false, narrowed := true }
def OutqExpiresUptoSaid : Prop := outqExpiresUptoRow.holds Try.pinned (OpenSpec.upto outqExpiresSpec)

/-- 'fairleadlaw20.OutqNil', WHERE WHAT IT READS IS OF BULK AT MOST 1048576: true; the input reads as it did. -/
def outqNilUptoRow : OpenClaim := { program := "ytmidnfkmefoleaa", sum := "9b4d664e3fd46127ec33af2c52de59a080312dbd6cd575d8127e3e32be5fdf51", func := "fairlead/fairleadlaw20.OutqNil", spec := "outqNil", unfollowed := true, recurses := true, apart := false, narrowed := true }
def OutqNilUptoSaid : Prop := outqNilUptoRow.holds Try.pinned (OpenSpec.upto outqNilSpec)

/-- 'fairleadlaw20.OutqCut', WHERE WHAT IT READS IS OF BULK AT MOST 1048576: true; the input reads as it did. -/
def outqCutUptoRow : OpenClaim := { program := "ytmidnfkmefoleaa", sum := "9b4d664e3fd46127ec33af2c52de59a080312dbd6cd575d8127e3e32be5fdf51", func := "fairlead/fairleadlaw20.OutqCut", spec := "outqCut", unfollowed := true, recurses := true, apart := false, narrowed := true }
def OutqCutUptoSaid : Prop := outqCutUptoRow.holds Try.pinned (OpenSpec.upto outqCutSpec)

/-- 'fairleadlaw20.OutqPlays', WHERE WHAT IT READS IS OF BULK AT MOST 1048576: true; the input reads as it did. -/
def outqPlaysUptoRow : OpenClaim := { program := "ytmidnfkmefoleaa", sum := "9b4d664e3fd46127ec33af2c52de59a080312dbd6cd575d8127e3e32be5fdf51", func := "fairlead/fairleadlaw20.OutqPlays", spec := "outqPlays", unfollowed := true, recurses := true, apart := false, narrowed := true }
def OutqPlaysUptoSaid : Prop := outqPlaysUptoRow.holds Try.pinned (OpenSpec.upto outqPlaysSpec)

/-- 'fairleadlaw20.OutqWhole', WHERE WHAT IT READS IS OF BULK AT MOST 1048576: true; the input reads as it did. -/
def outqWholeUptoRow : OpenClaim := { program := "ytmidnfkmefoleaa", sum := "9b4d664e3fd46127ec33af2c52de59a080312dbd6cd575d8127e3e32be5fdf51", func := "fairlead/fairleadlaw20.OutqWhole", spec := "outqWhole", unfollowed := true, recurses := true, apart := false, narrowed := true }
def OutqWholeUptoSaid : Prop := outqWholeUptoRow.holds Try.pinned (OpenSpec.upto outqWholeSpec)

/-- 'fairleadlaw20.OutqRoom', WHERE WHAT IT READS IS OF BULK AT MOST 1048576: true; the input reads as it did. -/
def outqRoomUptoRow : OpenClaim := { program := "ytmidnfkmefoleaa", sum := "9b4d664e3fd46127ec33af2c52de59a080312dbd6cd575d8127e3e32be5fdf51", func := "fairlead/fairleadlaw20.OutqRoom", spec := "outqRoom", unfollowed := true, recurses := true, apart := false, narrowed := true }
def OutqRoomUptoSaid : Prop := outqRoomUptoRow.holds Try.pinned (OpenSpec.upto outqRoomSpec)

end Rows
end Go.Proofs.Ytmidnfkmefoleaa
