/-
  No cell of these rows narrows 'for every input' (looked for: loops, veiled, ifaces, maps, wideKeys, modest, calm, conditions, laid).
  DERIVED. THE GIVEN ROWS OF THIS SEAT. 13 by the template 'for every input the law returns true; each argument reads behind the call as it read before'; 0 by the template 'total and deterministic' (their statements: YtlmglnobdcgbeaaGreatTotals.lean).
  GIVEN WITH THE SEED: the statements are not yours to turn. If you find one false, say at which input.
  Laid BY PROGRAM, IN A SANDBOX (cutbox-rows.mjs): the forced cells as the released guide's own fill.sh prints them over the translation 6d75bcc9321e22be… (all of the seat's roots in one cut). By AI agents, Wed Nov 11 2026. No macro, syntax, notation, axiom, sorry.
-/
import Derived.Test.YtlmglnobdcgbeaaGreatChecked
import GoSem.Claim
import GoSem.ClaimJoined
import GoSem.ClaimMapViews
import Derived.JoinedTies
import Derived.KernelRfl
namespace Go.Proofs.YtlmglnobdcgbeaaGreat
/- THE CELL 'sum', in the pinned program and in every row, IS THE sha256 OF THE DUMP (.gsa) THAT YtlmglnobdcgbeaaGreatProg.lean LOADS. Nothing in Lean hashes anything: it is a label: what it is worth is what the hold of that sum in a sandbox is worth. -/
noncomputable def Tryz.pinned : Pinned := { name := "ytlmglnobdcgbeaagreat", sum := "6d75bcc9321e22becd4877272a8d23fb3f8ef4092bda672bd4addf39ce5eae21", checked := Tryz.checked }
namespace Rows
def none {H : Type} : Left H := { results := [], args := [] }

/-- 'walkmilllaw04.TurnOrders': WHATEVER THE INPUT: true; the input reads as it did. -/
def turnOrdersSpec : ChangeSpec := { name := "turnOrders", fn := fun _ => fun
  | [d] => { results := [.lit (.bool true)], args := [d] }
  | _ => none }
def turnOrdersRow : OpenClaim := { program := "ytlmglnobdcgbeaagreat", sum := "6d75bcc9321e22becd4877272a8d23fb3f8ef4092bda672bd4addf39ce5eae21", func := "walkmill/walkmilllaw04.TurnOrders", spec := "turnOrders", inPlace := ["slices.overlaps[int]"], unfollowed := true, recurses := true, apart := false }
def TurnOrdersSaid : Prop := turnOrdersRow.holds Tryz.pinned (OpenSpec.ofChange turnOrdersSpec)

/-- ITS FALSE NEIGHBOUR: 'it returns false'. Refute it at one input. -/
def turnOrdersWrong : ChangeSpec := { name := "turnOrders", fn := fun _ => fun
  | [d] => { results := [.lit (.bool false)], args := [d] }
  | _ => none }
def TurnOrdersWrongFalsely : Prop := turnOrdersRow.holds Tryz.pinned (OpenSpec.ofChange turnOrdersWrong)

/-- 'walkmilllaw04.TurnTakes': WHATEVER THE INPUT: true; the input reads as it did. -/
def turnTakesSpec : ChangeSpec := { name := "turnTakes", fn := fun _ => fun
  | [d1, d2] => { results := [.lit (.bool true)], args := [d1, d2] }
  | _ => none }
def turnTakesRow : OpenClaim := { program := "ytlmglnobdcgbeaagreat", sum := "6d75bcc9321e22becd4877272a8d23fb3f8ef4092bda672bd4addf39ce5eae21", func := "walkmill/walkmilllaw04.TurnTakes", spec := "turnTakes", inPlace := ["slices.overlaps[int]"], unfollowed := true, recurses := true, apart := false }
def TurnTakesSaid : Prop := turnTakesRow.holds Tryz.pinned (OpenSpec.ofChange turnTakesSpec)

/-- ITS FALSE NEIGHBOUR: 'it returns false'. Refute it at one input. -/
def turnTakesWrong : ChangeSpec := { name := "turnTakes", fn := fun _ => fun
  | [d1, d2] => { results := [.lit (.bool false)], args := [d1, d2] }
  | _ => none }
def TurnTakesWrongFalsely : Prop := turnTakesRow.holds Tryz.pinned (OpenSpec.ofChange turnTakesWrong)

/-- 'walkmilllaw04.TurnFews': WHATEVER THE INPUT: true; the input reads as it did. -/
def turnFewsSpec : ChangeSpec := { name := "turnFews", fn := fun _ => fun
  | [d1, d2] => { results := [.lit (.bool true)], args := [d1, d2] }
  | _ => none }
def turnFewsRow : OpenClaim := { program := "ytlmglnobdcgbeaagreat", sum := "6d75bcc9321e22becd4877272a8d23fb3f8ef4092bda672bd4addf39ce5eae21", func := "walkmill/walkmilllaw04.TurnFews", spec := "turnFews", inPlace := ["slices.overlaps[int]"], unfollowed := true, recurses := true, apart := false }
def TurnFewsSaid : Prop := turnFewsRow.holds Tryz.pinned (OpenSpec.ofChange turnFewsSpec)

/-- ITS FALSE NEIGHBOUR: 'it returns false'. Refute it at one input. -/
def turnFewsWrong : ChangeSpec := { name := "turnFews", fn := fun _ => fun
  | [d1, d2] => { results := [.lit (.bool false)], args := [d1, d2] }
  | _ => none }
def TurnFewsWrongFalsely : Prop := turnFewsRow.holds Tryz.pinned (OpenSpec.ofChange turnFewsWrong)

/-- 'walkmilllaw04.TurnProofs': WHATEVER THE INPUT: true; the input reads as it did. -/
def turnProofsSpec : ChangeSpec := { name := "turnProofs", fn := fun _ => fun
  | [d1, d2, d3] => { results := [.lit (.bool true)], args := [d1, d2, d3] }
  | _ => none }
def turnProofsRow : OpenClaim := { program := "ytlmglnobdcgbeaagreat", sum := "6d75bcc9321e22becd4877272a8d23fb3f8ef4092bda672bd4addf39ce5eae21", func := "walkmill/walkmilllaw04.TurnProofs", spec := "turnProofs", inPlace := ["slices.overlaps[int]"], unfollowed := true, recurses := true, apart := false }
def TurnProofsSaid : Prop := turnProofsRow.holds Tryz.pinned (OpenSpec.ofChange turnProofsSpec)

/-- ITS FALSE NEIGHBOUR: 'it returns false'. Refute it at one input. -/
def turnProofsWrong : ChangeSpec := { name := "turnProofs", fn := fun _ => fun
  | [d1, d2, d3] => { results := [.lit (.bool false)], args := [d1, d2, d3] }
  | _ => none }
def TurnProofsWrongFalsely : Prop := turnProofsRow.holds Tryz.pinned (OpenSpec.ofChange turnProofsWrong)

/-- 'walkmilllaw04.TurnJumps': WHATEVER THE INPUT: true; the input reads as it did. -/
def turnJumpsSpec : ChangeSpec := { name := "turnJumps", fn := fun _ => fun
  | [d1, d2] => { results := [.lit (.bool true)], args := [d1, d2] }
  | _ => none }
def turnJumpsRow : OpenClaim := { program := "ytlmglnobdcgbeaagreat", sum := "6d75bcc9321e22becd4877272a8d23fb3f8ef4092bda672bd4addf39ce5eae21", func := "walkmill/walkmilllaw04.TurnJumps", spec := "turnJumps", inPlace := ["slices.overlaps[int]"], unfollowed := true, recurses := true, apart := false }
def TurnJumpsSaid : Prop := turnJumpsRow.holds Tryz.pinned (OpenSpec.ofChange turnJumpsSpec)

/-- ITS FALSE NEIGHBOUR: 'it returns false'. Refute it at one input. -/
def turnJumpsWrong : ChangeSpec := { name := "turnJumps", fn := fun _ => fun
  | [d1, d2] => { results := [.lit (.bool false)], args := [d1, d2] }
  | _ => none }
def TurnJumpsWrongFalsely : Prop := turnJumpsRow.holds Tryz.pinned (OpenSpec.ofChange turnJumpsWrong)

/-- 'walkmilllaw04.TurnJoins': WHATEVER THE INPUT: true; the input reads as it did. -/
def turnJoinsSpec : ChangeSpec := { name := "turnJoins", fn := fun _ => fun
  | [d1, d2, d3] => { results := [.lit (.bool true)], args := [d1, d2, d3] }
  | _ => none }
def turnJoinsRow : OpenClaim := { program := "ytlmglnobdcgbeaagreat", sum := "6d75bcc9321e22becd4877272a8d23fb3f8ef4092bda672bd4addf39ce5eae21", func := "walkmill/walkmilllaw04.TurnJoins", spec := "turnJoins", inPlace := ["slices.overlaps[int]"], unfollowed := true, recurses := true, apart := false }
def TurnJoinsSaid : Prop := turnJoinsRow.holds Tryz.pinned (OpenSpec.ofChange turnJoinsSpec)

/-- ITS FALSE NEIGHBOUR: 'it returns false'. Refute it at one input. -/
def turnJoinsWrong : ChangeSpec := { name := "turnJoins", fn := fun _ => fun
  | [d1, d2, d3] => { results := [.lit (.bool false)], args := [d1, d2, d3] }
  | _ => none }
def TurnJoinsWrongFalsely : Prop := turnJoinsRow.holds Tryz.pinned (OpenSpec.ofChange turnJoinsWrong)

/-- 'walkmilllaw04.TurnSlacks': WHATEVER THE INPUT: true; the input reads as it did. -/
def turnSlacksSpec : ChangeSpec := { name := "turnSlacks", fn := fun _ => fun
  | [d1, d2, d3] => { results := [.lit (.bool true)], args := [d1, d2, d3] }
  | _ => none }
def turnSlacksRow : OpenClaim := { program := "ytlmglnobdcgbeaagreat", sum := "6d75bcc9321e22becd4877272a8d23fb3f8ef4092bda672bd4addf39ce5eae21", func := "walkmill/walkmilllaw04.TurnSlacks", spec := "turnSlacks", inPlace := ["slices.overlaps[int]"], unfollowed := true, recurses := true, apart := false }
def TurnSlacksSaid : Prop := turnSlacksRow.holds Tryz.pinned (OpenSpec.ofChange turnSlacksSpec)

/-- ITS FALSE NEIGHBOUR: 'it returns false'. Refute it at one input. -/
def turnSlacksWrong : ChangeSpec := { name := "turnSlacks", fn := fun _ => fun
  | [d1, d2, d3] => { results := [.lit (.bool false)], args := [d1, d2, d3] }
  | _ => none }
def TurnSlacksWrongFalsely : Prop := turnSlacksRow.holds Tryz.pinned (OpenSpec.ofChange turnSlacksWrong)

/-- 'walkmilllaw04.TurnRanks': WHATEVER THE INPUT: true; the input reads as it did. -/
def turnRanksSpec : ChangeSpec := { name := "turnRanks", fn := fun _ => fun
  | [d1, d2, d3] => { results := [.lit (.bool true)], args := [d1, d2, d3] }
  | _ => none }
def turnRanksRow : OpenClaim := { program := "ytlmglnobdcgbeaagreat", sum := "6d75bcc9321e22becd4877272a8d23fb3f8ef4092bda672bd4addf39ce5eae21", func := "walkmill/walkmilllaw04.TurnRanks", spec := "turnRanks", inPlace := ["slices.overlaps[int]"], unfollowed := true, recurses := true, apart := false }
def TurnRanksSaid : Prop := turnRanksRow.holds Tryz.pinned (OpenSpec.ofChange turnRanksSpec)

/-- ITS FALSE NEIGHBOUR: 'it returns false'. Refute it at one input. -/
def turnRanksWrong : ChangeSpec := { name := "turnRanks", fn := fun _ => fun
  | [d1, d2, d3] => { results := [.lit (.bool false)], args := [d1, d2, d3] }
  | _ => none }
def TurnRanksWrongFalsely : Prop := turnRanksRow.holds Tryz.pinned (OpenSpec.ofChange turnRanksWrong)

/-- 'walkmilllaw04.TurnTruth': WHATEVER THE INPUT: true; the input reads as it did. -/
def turnTruthSpec : ChangeSpec := { name := "turnTruth", fn := fun _ => fun
  | [d1, d2, d3] => { results := [.lit (.bool true)], args := [d1, d2, d3] }
  | _ => none }
def turnTruthRow : OpenClaim := { program := "ytlmglnobdcgbeaagreat", sum := "6d75bcc9321e22becd4877272a8d23fb3f8ef4092bda672bd4addf39ce5eae21", func := "walkmill/walkmilllaw04.TurnTruth", spec := "turnTruth", inPlace := ["slices.overlaps[int]"], unfollowed := true, recurses := true, apart := false }
def TurnTruthSaid : Prop := turnTruthRow.holds Tryz.pinned (OpenSpec.ofChange turnTruthSpec)

/-- ITS FALSE NEIGHBOUR: 'it returns false'. Refute it at one input. -/
def turnTruthWrong : ChangeSpec := { name := "turnTruth", fn := fun _ => fun
  | [d1, d2, d3] => { results := [.lit (.bool false)], args := [d1, d2, d3] }
  | _ => none }
def TurnTruthWrongFalsely : Prop := turnTruthRow.holds Tryz.pinned (OpenSpec.ofChange turnTruthWrong)

/-- 'walkmilllaw04.TurnCustom': WHATEVER THE INPUT: true; the input reads as it did. -/
def turnCustomSpec : ChangeSpec := { name := "turnCustom", fn := fun _ => fun
  | [d] => { results := [.lit (.bool true)], args := [d] }
  | _ => none }
def turnCustomRow : OpenClaim := { program := "ytlmglnobdcgbeaagreat", sum := "6d75bcc9321e22becd4877272a8d23fb3f8ef4092bda672bd4addf39ce5eae21", func := "walkmill/walkmilllaw04.TurnCustom", spec := "turnCustom", inPlace := ["slices.overlaps[int]"], unfollowed := true, recurses := true, apart := false }
def TurnCustomSaid : Prop := turnCustomRow.holds Tryz.pinned (OpenSpec.ofChange turnCustomSpec)

/-- ITS FALSE NEIGHBOUR: 'it returns false'. Refute it at one input. -/
def turnCustomWrong : ChangeSpec := { name := "turnCustom", fn := fun _ => fun
  | [d] => { results := [.lit (.bool false)], args := [d] }
  | _ => none }
def TurnCustomWrongFalsely : Prop := turnCustomRow.holds Tryz.pinned (OpenSpec.ofChange turnCustomWrong)

/-- 'walkmilllaw04.TurnEnough': WHATEVER THE INPUT: true; the input reads as it did. -/
def turnEnoughSpec : ChangeSpec := { name := "turnEnough", fn := fun _ => fun
  | [d1, d2, d3] => { results := [.lit (.bool true)], args := [d1, d2, d3] }
  | _ => none }
def turnEnoughRow : OpenClaim := { program := "ytlmglnobdcgbeaagreat", sum := "6d75bcc9321e22becd4877272a8d23fb3f8ef4092bda672bd4addf39ce5eae21", func := "walkmill/walkmilllaw04.TurnEnough", spec := "turnEnough", inPlace := ["slices.overlaps[int]"], unfollowed := true, recurses := true, apart := false }
def TurnEnoughSaid : Prop := turnEnoughRow.holds Tryz.pinned (OpenSpec.ofChange turnEnoughSpec)

/-- ITS FALSE NEIGHBOUR: 'it returns false'. Refute it at one input. -/
def turnEnoughWrong : ChangeSpec := { name := "turnEnough", fn := fun _ => fun
  | [d1, d2, d3] => { results := [.lit (.bool false)], args := [d1, d2, d3] }
  | _ => none }
def TurnEnoughWrongFalsely : Prop := turnEnoughRow.holds Tryz.pinned (OpenSpec.ofChange turnEnoughWrong)

/-- 'walkmilllaw04.TurnProof': WHATEVER THE INPUT: true; the input reads as it did. -/
def turnProofSpec : ChangeSpec := { name := "turnProof", fn := fun _ => fun
  | [d1, d2, d3] => { results := [.lit (.bool true)], args := [d1, d2, d3] }
  | _ => none }
def turnProofRow : OpenClaim := { program := "ytlmglnobdcgbeaagreat", sum := "6d75bcc9321e22becd4877272a8d23fb3f8ef4092bda672bd4addf39ce5eae21", func := "walkmill/walkmilllaw04.TurnProof", spec := "turnProof", inPlace := ["slices.overlaps[int]"], unfollowed := true, recurses := true, apart := false }
def TurnProofSaid : Prop := turnProofRow.holds Tryz.pinned (OpenSpec.ofChange turnProofSpec)

/-- ITS FALSE NEIGHBOUR: 'it returns false'. Refute it at one input. -/
def turnProofWrong : ChangeSpec := { name := "turnProof", fn := fun _ => fun
  | [d1, d2, d3] => { results := [.lit (.bool false)], args := [d1, d2, d3] }
  | _ => none }
def TurnProofWrongFalsely : Prop := turnProofRow.holds Tryz.pinned (OpenSpec.ofChange turnProofWrong)

/-- 'walkmilllaw04.TurnMoved': WHATEVER THE INPUT: true; the input reads as it did. -/
def turnMovedSpec : ChangeSpec := { name := "turnMoved", fn := fun _ => fun
  | [d1, d2] => { results := [.lit (.bool true)], args := [d1, d2] }
  | _ => none }
def turnMovedRow : OpenClaim := { program := "ytlmglnobdcgbeaagreat", sum := "6d75bcc9321e22becd4877272a8d23fb3f8ef4092bda672bd4addf39ce5eae21", func := "walkmill/walkmilllaw04.TurnMoved", spec := "turnMoved", inPlace := ["slices.overlaps[int]"], unfollowed := true, recurses := true, apart := false }
def TurnMovedSaid : Prop := turnMovedRow.holds Tryz.pinned (OpenSpec.ofChange turnMovedSpec)

/-- ITS FALSE NEIGHBOUR: 'it returns false'. Refute it at one input. -/
def turnMovedWrong : ChangeSpec := { name := "turnMoved", fn := fun _ => fun
  | [d1, d2] => { results := [.lit (.bool false)], args := [d1, d2] }
  | _ => none }
def TurnMovedWrongFalsely : Prop := turnMovedRow.holds Tryz.pinned (OpenSpec.ofChange turnMovedWrong)

/- THE SECOND FORM. 'bulk': how many values and letters a reading holds, each counted each time it is reached (what is shared counts as often as it is met; a slice's spare places count too). A statement '..UptoSaid' is the law's where the arguments, and the package variables that the reading takes, are together of bulk at most 1048576: NARROWER than '..Said'. Prove '..Said' where nothing that the law and all that it calls make is longer than what came in: it says more and counts as full. Else prove '..UptoSaid'. A law counts once. -/
mutual
def uptoBulk {H : Type} : DataW H → Nat
  | .lit (.string bytes) => bytes.length + 1
  | .lit _ => 1
  | .nil => 1
  | .ptr d => uptoBulk d + 1
  | .slice elems spare => uptoBulkAll elems + uptoBulkAll spare + 1
  | .agg parts => uptoBulkAll parts + 1
  | .iface _ d => uptoBulk d + 1
  | .map entries => uptoBulkEntries entries + 1
  | .held _ => 1
def uptoBulkAll {H : Type} : List (DataW H) → Nat
  | [] => 0
  | d :: r => uptoBulk d + uptoBulkAll r
def uptoBulkEntries {H : Type} : List (Lit × DataW H) → Nat
  | [] => 0
  | x :: r => uptoBulkEntry x + uptoBulkEntries r
def uptoBulkEntry {H : Type} : Lit × DataW H → Nat
  | (.string bytes, d) => bytes.length + uptoBulk d + 1
  | (_, d) => uptoBulk d + 1
 end
def uptoSmall : (H : Type) → List (DataW H) → Bool := fun _ ds => decide (uptoBulkAll ds ≤ 1048576)
def OpenSpec.upto (s : _root_.Go.ChangeSpec) : _root_.Go.OpenSpec := { _root_.Go.OpenSpec.ofChange s with cond := some uptoSmall }

/-- 'walkmilllaw04.TurnOrders', WHERE WHAT IT READS IS OF BULK AT MOST 1048576: true; the input reads as it did. -/
def turnOrdersUptoRow : OpenClaim := { program := "ytlmglnobdcgbeaagreat", sum := "6d75bcc9321e22becd4877272a8d23fb3f8ef4092bda672bd4addf39ce5eae21", func := "walkmill/walkmilllaw04.TurnOrders", spec := "turnOrders", inPlace := ["slices.overlaps[int]"], unfollowed := true, recurses := true, apart := false, narrowed := true }
def TurnOrdersUptoSaid : Prop := turnOrdersUptoRow.holds Tryz.pinned (OpenSpec.upto turnOrdersSpec)

/-- 'walkmilllaw04.TurnTakes', WHERE WHAT IT READS IS OF BULK AT MOST 1048576: true; the input reads as it did. -/
def turnTakesUptoRow : OpenClaim := { program := "ytlmglnobdcgbeaagreat", sum := "6d75bcc9321e22becd4877272a8d23fb3f8ef4092bda672bd4addf39ce5eae21", func := "walkmill/walkmilllaw04.TurnTakes", spec := "turnTakes", inPlace := ["slices.overlaps[int]"], unfollowed := true, recurses := true, apart := false, narrowed := true }
def TurnTakesUptoSaid : Prop := turnTakesUptoRow.holds Tryz.pinned (OpenSpec.upto turnTakesSpec)

/-- 'walkmilllaw04.TurnFews', WHERE WHAT IT READS IS OF BULK AT MOST 1048576: true; the input reads as it did. -/
def turnFewsUptoRow : OpenClaim := { program := "ytlmglnobdcgbeaagreat", sum := "6d75bcc9321e22becd4877272a8d23fb3f8ef4092bda672bd4addf39ce5eae21", func := "walkmill/walkmilllaw04.TurnFews", spec := "turnFews", inPlace := ["slices.overlaps[int]"], unfollowed := true, recurses := true, apart := false, narrowed := true }
def TurnFewsUptoSaid : Prop := turnFewsUptoRow.holds Tryz.pinned (OpenSpec.upto turnFewsSpec)

/-- 'walkmilllaw04.TurnProofs', WHERE WHAT IT READS IS OF BULK AT MOST 1048576: true; the input reads as it did. -/
def turnProofsUptoRow : OpenClaim := { program := "ytlmglnobdcgbeaagreat", sum := "6d75bcc9321e22becd4877272a8d23fb3f8ef4092bda672bd4addf39ce5eae21", func := "walkmill/walkmilllaw04.TurnProofs", spec := "turnProofs", inPlace := ["slices.overlaps[int]"], unfollowed := true, recurses := true, apart := false, narrowed := true }
def TurnProofsUptoSaid : Prop := turnProofsUptoRow.holds Tryz.pinned (OpenSpec.upto turnProofsSpec)

/-- 'walkmilllaw04.TurnJumps', WHERE WHAT IT READS IS OF BULK AT MOST 1048576: true; the input reads as it did. -/
def turnJumpsUptoRow : OpenClaim := { program := "ytlmglnobdcgbeaagreat", sum := "6d75bcc9321e22becd4877272a8d23fb3f8ef4092bda672bd4addf39ce5eae21", func := "walkmill/walkmilllaw04.TurnJumps", spec := "turnJumps", inPlace := ["slices.overlaps[int]"], unfollowed := true, recurses := true, apart := false, narrowed := true }
def TurnJumpsUptoSaid : Prop := turnJumpsUptoRow.holds Tryz.pinned (OpenSpec.upto turnJumpsSpec)

/-- 'walkmilllaw04.TurnJoins', WHERE WHAT IT READS IS OF BULK AT MOST 1048576: true; the input reads as it did. -/
def turnJoinsUptoRow : OpenClaim := { program := "ytlmglnobdcgbeaagreat", sum := "6d75bcc9321e22becd4877272a8d23fb3f8ef4092bda672bd4addf39ce5eae21", func := "walkmill/walkmilllaw04.TurnJoins", spec := "turnJoins", inPlace := ["slices.overlaps[int]"], unfollowed := true, recurses := true, apart := false, narrowed := true }
def TurnJoinsUptoSaid : Prop := turnJoinsUptoRow.holds Tryz.pinned (OpenSpec.upto turnJoinsSpec)

/-- 'walkmilllaw04.TurnSlacks', WHERE WHAT IT READS IS OF BULK AT MOST 1048576: true; the input reads as it did. -/
def turnSlacksUptoRow : OpenClaim := { program := "ytlmglnobdcgbeaagreat", sum := "6d75bcc9321e22becd4877272a8d23fb3f8ef4092bda672bd4addf39ce5eae21", func := "walkmill/walkmilllaw04.TurnSlacks", spec := "turnSlacks", inPlace := ["slices.overlaps[int]"], unfollowed := true, recurses := true, apart := false, narrowed := true }
def TurnSlacksUptoSaid : Prop := turnSlacksUptoRow.holds Tryz.pinned (OpenSpec.upto turnSlacksSpec)

/-- 'walkmilllaw04.TurnRanks', WHERE WHAT IT READS IS OF BULK AT MOST 1048576: true; the input reads as it did. -/
def turnRanksUptoRow : OpenClaim := { program := "ytlmglnobdcgbeaagreat", sum := "6d75bcc9321e22becd4877272a8d23fb3f8ef4092bda672bd4addf39ce5eae21", func := "walkmill/walkmilllaw04.TurnRanks", spec := "turnRanks", inPlace := ["slices.overlaps[int]"], unfollowed := true, recurses := true, apart := false, narrowed := true }
def TurnRanksUptoSaid : Prop := turnRanksUptoRow.holds Tryz.pinned (OpenSpec.upto turnRanksSpec)

/-- 'walkmilllaw04.TurnTruth', WHERE WHAT IT READS IS OF BULK AT MOST 1048576: true; the input reads as it did. -/
def turnTruthUptoRow : OpenClaim := { program := "ytlmglnobdcgbeaagreat", sum := "6d75bcc9321e22becd4877272a8d23fb3f8ef4092bda672bd4addf39ce5eae21", func := "walkmill/walkmilllaw04.TurnTruth", spec := "turnTruth", inPlace := ["slices.overlaps[int]"], unfollowed := true, recurses := true, apart := false, narrowed := true }
def TurnTruthUptoSaid : Prop := turnTruthUptoRow.holds Tryz.pinned (OpenSpec.upto turnTruthSpec)

/-- 'walkmilllaw04.TurnCustom', WHERE WHAT IT READS IS OF BULK AT MOST 1048576: true; the input reads as it did. -/
def turnCustomUptoRow : OpenClaim := { program := "ytlmglnobdcgbeaagreat", sum := "6d75bcc9321e22becd4877272a8d23fb3f8ef4092bda672bd4addf39ce5eae21", func := "walkmill/walkmilllaw04.TurnCustom", spec := "turnCustom", inPlace := ["slices.overlaps[int]"], unfollowed := true, recurses := true, apart := false, narrowed := true }
def TurnCustomUptoSaid : Prop := turnCustomUptoRow.holds Tryz.pinned (OpenSpec.upto turnCustomSpec)

/-- 'walkmilllaw04.TurnEnough', WHERE WHAT IT READS IS OF BULK AT MOST 1048576: true; the input reads as it did. -/
def turnEnoughUptoRow : OpenClaim := { program := "ytlmglnobdcgbeaagreat", sum := "6d75bcc9321e22becd4877272a8d23fb3f8ef4092bda672bd4addf39ce5eae21", func := "walkmill/walkmilllaw04.TurnEnough", spec := "turnEnough", inPlace := ["slices.overlaps[int]"], unfollowed := true, recurses := true, apart := false, narrowed := true }
def TurnEnoughUptoSaid : Prop := turnEnoughUptoRow.holds Tryz.pinned (OpenSpec.upto turnEnoughSpec)

/-- 'walkmilllaw04.TurnProof', WHERE WHAT IT READS IS OF BULK AT MOST 1048576: true; the input reads as it did. -/
def turnProofUptoRow : OpenClaim := { program := "ytlmglnobdcgbeaagreat", sum := "6d75bcc9321e22becd4877272a8d23fb3f8ef4092bda672bd4addf39ce5eae21", func := "walkmill/walkmilllaw04.TurnProof", spec := "turnProof", inPlace := ["slices.overlaps[int]"], unfollowed := true, recurses := true, apart := false, narrowed := true }
def TurnProofUptoSaid : Prop := turnProofUptoRow.holds Tryz.pinned (OpenSpec.upto turnProofSpec)

/-- 'walkmilllaw04.TurnMoved', WHERE WHAT IT READS IS OF BULK AT MOST 1048576: true; the input reads as it did. -/
def turnMovedUptoRow : OpenClaim := { program := "ytlmglnobdcgbeaagreat", sum := "6d75bcc9321e22becd4877272a8d23fb3f8ef4092bda672bd4addf39ce5eae21", func := "walkmill/walkmilllaw04.TurnMoved", spec := "turnMoved", inPlace := ["slices.overlaps[int]"], unfollowed := true, recurses := true, apart := false, narrowed := true }
def TurnMovedUptoSaid : Prop := turnMovedUptoRow.holds Tryz.pinned (OpenSpec.upto turnMovedSpec)

end Rows
end Go.Proofs.YtlmglnobdcgbeaaGreat
