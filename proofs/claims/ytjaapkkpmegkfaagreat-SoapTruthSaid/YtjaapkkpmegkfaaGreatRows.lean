/-
  No cell of these rows narrows 'for every input' (looked for: loops, veiled, ifaces, maps, wideKeys, modest, calm, conditions, laid).
  DERIVED. THE GIVEN ROWS OF THIS SEAT. 12 by the template 'for every input the law returns true; each argument reads behind the call as it read before'; 0 by the template 'total and deterministic' (their statements: YtjaapkkpmegkfaaGreatTotals.lean).
  GIVEN WITH THE SEED: the statements are not yours to turn. If you find one false, say at which input.
  Laid BY PROGRAM, IN A SANDBOX (cutbox-rows.mjs): the forced cells as the released guide's own fill.sh prints them over the translation d261bdfbd016342d… (all of the seat's roots in one cut). By AI agents, Wed Nov 11 2026. No macro, syntax, notation, axiom, sorry.
-/
import Derived.Test.YtjaapkkpmegkfaaGreatChecked
import GoSem.Claim
import GoSem.ClaimJoined
import GoSem.ClaimMapViews
import Derived.JoinedTies
import Derived.KernelRfl
namespace Go.Proofs.YtjaapkkpmegkfaaGreat
/- THE CELL 'sum', in the pinned program and in every row, IS THE sha256 OF THE DUMP (.gsa) THAT YtjaapkkpmegkfaaGreatProg.lean LOADS. Nothing in Lean hashes anything: it is a label: what it is worth is what the hold of that sum in a sandbox is worth. -/
noncomputable def Tryz.pinned : Pinned := { name := "ytjaapkkpmegkfaagreat", sum := "d261bdfbd016342dd2e2949d37c4273b4b84402563a135a3f38400f12f4093f1", checked := Tryz.checked }
namespace Rows
def none {H : Type} : Left H := { results := [], args := [] }

/-- 'walkmilllaw06.SoapScours': WHATEVER THE INPUT: true; the input reads as it did. -/
def soapScoursSpec : ChangeSpec := { name := "soapScours", fn := fun _ => fun
  | [d1, d2, d3] => { results := [.lit (.bool true)], args := [d1, d2, d3] }
  | _ => none }
def soapScoursRow : OpenClaim := { program := "ytjaapkkpmegkfaagreat", sum := "d261bdfbd016342dd2e2949d37c4273b4b84402563a135a3f38400f12f4093f1", func := "walkmill/walkmilllaw06.SoapScours", spec := "soapScours", unfollowed := true, recurses := true, apart := false }
def SoapScoursSaid : Prop := soapScoursRow.holds Tryz.pinned (OpenSpec.ofChange soapScoursSpec)

/-- ITS FALSE NEIGHBOUR: 'it returns false'. Refute it at one input. -/
def soapScoursWrong : ChangeSpec := { name := "soapScours", fn := fun _ => fun
  | [d1, d2, d3] => { results := [.lit (.bool false)], args := [d1, d2, d3] }
  | _ => none }
def SoapScoursWrongFalsely : Prop := soapScoursRow.holds Tryz.pinned (OpenSpec.ofChange soapScoursWrong)

/-- 'walkmilllaw06.SoapCheapests': WHATEVER THE INPUT: true; the input reads as it did. -/
def soapCheapestsSpec : ChangeSpec := { name := "soapCheapests", fn := fun _ => fun
  | [d1, d2] => { results := [.lit (.bool true)], args := [d1, d2] }
  | _ => none }
def soapCheapestsRow : OpenClaim := { program := "ytjaapkkpmegkfaagreat", sum := "d261bdfbd016342dd2e2949d37c4273b4b84402563a135a3f38400f12f4093f1", func := "walkmill/walkmilllaw06.SoapCheapests", spec := "soapCheapests", unfollowed := true, recurses := true, apart := false }
def SoapCheapestsSaid : Prop := soapCheapestsRow.holds Tryz.pinned (OpenSpec.ofChange soapCheapestsSpec)

/-- ITS FALSE NEIGHBOUR: 'it returns false'. Refute it at one input. -/
def soapCheapestsWrong : ChangeSpec := { name := "soapCheapests", fn := fun _ => fun
  | [d1, d2] => { results := [.lit (.bool false)], args := [d1, d2] }
  | _ => none }
def SoapCheapestsWrongFalsely : Prop := soapCheapestsRow.holds Tryz.pinned (OpenSpec.ofChange soapCheapestsWrong)

/-- 'walkmilllaw06.SoapDears': WHATEVER THE INPUT: true; the input reads as it did. -/
def soapDearsSpec : ChangeSpec := { name := "soapDears", fn := fun _ => fun
  | [d1, d2, d3] => { results := [.lit (.bool true)], args := [d1, d2, d3] }
  | _ => none }
def soapDearsRow : OpenClaim := { program := "ytjaapkkpmegkfaagreat", sum := "d261bdfbd016342dd2e2949d37c4273b4b84402563a135a3f38400f12f4093f1", func := "walkmill/walkmilllaw06.SoapDears", spec := "soapDears", unfollowed := true, recurses := true, apart := false }
def SoapDearsSaid : Prop := soapDearsRow.holds Tryz.pinned (OpenSpec.ofChange soapDearsSpec)

/-- ITS FALSE NEIGHBOUR: 'it returns false'. Refute it at one input. -/
def soapDearsWrong : ChangeSpec := { name := "soapDears", fn := fun _ => fun
  | [d1, d2, d3] => { results := [.lit (.bool false)], args := [d1, d2, d3] }
  | _ => none }
def SoapDearsWrongFalsely : Prop := soapDearsRow.holds Tryz.pinned (OpenSpec.ofChange soapDearsWrong)

/-- 'walkmilllaw06.SoapServes': WHATEVER THE INPUT: true; the input reads as it did. -/
def soapServesSpec : ChangeSpec := { name := "soapServes", fn := fun _ => fun
  | [d1, d2] => { results := [.lit (.bool true)], args := [d1, d2] }
  | _ => none }
def soapServesRow : OpenClaim := { program := "ytjaapkkpmegkfaagreat", sum := "d261bdfbd016342dd2e2949d37c4273b4b84402563a135a3f38400f12f4093f1", func := "walkmill/walkmilllaw06.SoapServes", spec := "soapServes", unfollowed := true, recurses := true, apart := false }
def SoapServesSaid : Prop := soapServesRow.holds Tryz.pinned (OpenSpec.ofChange soapServesSpec)

/-- ITS FALSE NEIGHBOUR: 'it returns false'. Refute it at one input. -/
def soapServesWrong : ChangeSpec := { name := "soapServes", fn := fun _ => fun
  | [d1, d2] => { results := [.lit (.bool false)], args := [d1, d2] }
  | _ => none }
def SoapServesWrongFalsely : Prop := soapServesRow.holds Tryz.pinned (OpenSpec.ofChange soapServesWrong)

/-- 'walkmilllaw06.SoapShorts': WHATEVER THE INPUT: true; the input reads as it did. -/
def soapShortsSpec : ChangeSpec := { name := "soapShorts", fn := fun _ => fun
  | [d] => { results := [.lit (.bool true)], args := [d] }
  | _ => none }
def soapShortsRow : OpenClaim := { program := "ytjaapkkpmegkfaagreat", sum := "d261bdfbd016342dd2e2949d37c4273b4b84402563a135a3f38400f12f4093f1", func := "walkmill/walkmilllaw06.SoapShorts", spec := "soapShorts", unfollowed := true, recurses := true, apart := false }
def SoapShortsSaid : Prop := soapShortsRow.holds Tryz.pinned (OpenSpec.ofChange soapShortsSpec)

/-- ITS FALSE NEIGHBOUR: 'it returns false'. Refute it at one input. -/
def soapShortsWrong : ChangeSpec := { name := "soapShorts", fn := fun _ => fun
  | [d] => { results := [.lit (.bool false)], args := [d] }
  | _ => none }
def SoapShortsWrongFalsely : Prop := soapShortsRow.holds Tryz.pinned (OpenSpec.ofChange soapShortsWrong)

/-- 'walkmilllaw06.SoapSuspects': WHATEVER THE INPUT: true; the input reads as it did. -/
def soapSuspectsSpec : ChangeSpec := { name := "soapSuspects", fn := fun _ => fun
  | [d1, d2, d3] => { results := [.lit (.bool true)], args := [d1, d2, d3] }
  | _ => none }
def soapSuspectsRow : OpenClaim := { program := "ytjaapkkpmegkfaagreat", sum := "d261bdfbd016342dd2e2949d37c4273b4b84402563a135a3f38400f12f4093f1", func := "walkmill/walkmilllaw06.SoapSuspects", spec := "soapSuspects", unfollowed := true, recurses := true, apart := false }
def SoapSuspectsSaid : Prop := soapSuspectsRow.holds Tryz.pinned (OpenSpec.ofChange soapSuspectsSpec)

/-- ITS FALSE NEIGHBOUR: 'it returns false'. Refute it at one input. -/
def soapSuspectsWrong : ChangeSpec := { name := "soapSuspects", fn := fun _ => fun
  | [d1, d2, d3] => { results := [.lit (.bool false)], args := [d1, d2, d3] }
  | _ => none }
def SoapSuspectsWrongFalsely : Prop := soapSuspectsRow.holds Tryz.pinned (OpenSpec.ofChange soapSuspectsWrong)

/-- 'walkmilllaw06.SoapShares': WHATEVER THE INPUT: true; the input reads as it did. -/
def soapSharesSpec : ChangeSpec := { name := "soapShares", fn := fun _ => fun
  | [d1, d2] => { results := [.lit (.bool true)], args := [d1, d2] }
  | _ => none }
def soapSharesRow : OpenClaim := { program := "ytjaapkkpmegkfaagreat", sum := "d261bdfbd016342dd2e2949d37c4273b4b84402563a135a3f38400f12f4093f1", func := "walkmill/walkmilllaw06.SoapShares", spec := "soapShares", unfollowed := true, recurses := true, apart := false }
def SoapSharesSaid : Prop := soapSharesRow.holds Tryz.pinned (OpenSpec.ofChange soapSharesSpec)

/-- ITS FALSE NEIGHBOUR: 'it returns false'. Refute it at one input. -/
def soapSharesWrong : ChangeSpec := { name := "soapShares", fn := fun _ => fun
  | [d1, d2] => { results := [.lit (.bool false)], args := [d1, d2] }
  | _ => none }
def SoapSharesWrongFalsely : Prop := soapSharesRow.holds Tryz.pinned (OpenSpec.ofChange soapSharesWrong)

/-- 'walkmilllaw06.SoapTruth': WHATEVER THE INPUT: true; the input reads as it did. -/
def soapTruthSpec : ChangeSpec := { name := "soapTruth", fn := fun _ => fun
  | [d1, d2, d3] => { results := [.lit (.bool true)], args := [d1, d2, d3] }
  | _ => none }
def soapTruthRow : OpenClaim := { program := "ytjaapkkpmegkfaagreat", sum := "d261bdfbd016342dd2e2949d37c4273b4b84402563a135a3f38400f12f4093f1", func := "walkmill/walkmilllaw06.SoapTruth", spec := "soapTruth", unfollowed := true, recurses := true, apart := false }
def SoapTruthSaid : Prop := soapTruthRow.holds Tryz.pinned (OpenSpec.ofChange soapTruthSpec)

/-- ITS FALSE NEIGHBOUR: 'it returns false'. Refute it at one input. -/
def soapTruthWrong : ChangeSpec := { name := "soapTruth", fn := fun _ => fun
  | [d1, d2, d3] => { results := [.lit (.bool false)], args := [d1, d2, d3] }
  | _ => none }
def SoapTruthWrongFalsely : Prop := soapTruthRow.holds Tryz.pinned (OpenSpec.ofChange soapTruthWrong)

/-- 'walkmilllaw06.SoapNoCheaper': WHATEVER THE INPUT: true; the input reads as it did. -/
def soapNoCheaperSpec : ChangeSpec := { name := "soapNoCheaper", fn := fun _ => fun
  | [d1, d2, d3] => { results := [.lit (.bool true)], args := [d1, d2, d3] }
  | _ => none }
def soapNoCheaperRow : OpenClaim := { program := "ytjaapkkpmegkfaagreat", sum := "d261bdfbd016342dd2e2949d37c4273b4b84402563a135a3f38400f12f4093f1", func := "walkmill/walkmilllaw06.SoapNoCheaper", spec := "soapNoCheaper", unfollowed := true, recurses := true, apart := false }
def SoapNoCheaperSaid : Prop := soapNoCheaperRow.holds Tryz.pinned (OpenSpec.ofChange soapNoCheaperSpec)

/-- ITS FALSE NEIGHBOUR: 'it returns false'. Refute it at one input. -/
def soapNoCheaperWrong : ChangeSpec := { name := "soapNoCheaper", fn := fun _ => fun
  | [d1, d2, d3] => { results := [.lit (.bool false)], args := [d1, d2, d3] }
  | _ => none }
def SoapNoCheaperWrongFalsely : Prop := soapNoCheaperRow.holds Tryz.pinned (OpenSpec.ofChange soapNoCheaperWrong)

/-- 'walkmilllaw06.SoapServed': WHATEVER THE INPUT: true; the input reads as it did. -/
def soapServedSpec : ChangeSpec := { name := "soapServed", fn := fun _ => fun
  | [d1, d2] => { results := [.lit (.bool true)], args := [d1, d2] }
  | _ => none }
def soapServedRow : OpenClaim := { program := "ytjaapkkpmegkfaagreat", sum := "d261bdfbd016342dd2e2949d37c4273b4b84402563a135a3f38400f12f4093f1", func := "walkmill/walkmilllaw06.SoapServed", spec := "soapServed", unfollowed := true, recurses := true, apart := false }
def SoapServedSaid : Prop := soapServedRow.holds Tryz.pinned (OpenSpec.ofChange soapServedSpec)

/-- ITS FALSE NEIGHBOUR: 'it returns false'. Refute it at one input. -/
def soapServedWrong : ChangeSpec := { name := "soapServed", fn := fun _ => fun
  | [d1, d2] => { results := [.lit (.bool false)], args := [d1, d2] }
  | _ => none }
def SoapServedWrongFalsely : Prop := soapServedRow.holds Tryz.pinned (OpenSpec.ofChange soapServedWrong)

/-- 'walkmilllaw06.SoapScales': WHATEVER THE INPUT: true; the input reads as it did. -/
def soapScalesSpec : ChangeSpec := { name := "soapScales", fn := fun _ => fun
  | [d1, d2] => { results := [.lit (.bool true)], args := [d1, d2] }
  | _ => none }
def soapScalesRow : OpenClaim := { program := "ytjaapkkpmegkfaagreat", sum := "d261bdfbd016342dd2e2949d37c4273b4b84402563a135a3f38400f12f4093f1", func := "walkmill/walkmilllaw06.SoapScales", spec := "soapScales", unfollowed := true, recurses := true, apart := false }
def SoapScalesSaid : Prop := soapScalesRow.holds Tryz.pinned (OpenSpec.ofChange soapScalesSpec)

/-- ITS FALSE NEIGHBOUR: 'it returns false'. Refute it at one input. -/
def soapScalesWrong : ChangeSpec := { name := "soapScales", fn := fun _ => fun
  | [d1, d2] => { results := [.lit (.bool false)], args := [d1, d2] }
  | _ => none }
def SoapScalesWrongFalsely : Prop := soapScalesRow.holds Tryz.pinned (OpenSpec.ofChange soapScalesWrong)

/-- 'walkmilllaw06.SoapBalance': WHATEVER THE INPUT: true; the input reads as it did. -/
def soapBalanceSpec : ChangeSpec := { name := "soapBalance", fn := fun _ => fun
  | [d1, d2, d3] => { results := [.lit (.bool true)], args := [d1, d2, d3] }
  | _ => none }
def soapBalanceRow : OpenClaim := { program := "ytjaapkkpmegkfaagreat", sum := "d261bdfbd016342dd2e2949d37c4273b4b84402563a135a3f38400f12f4093f1", func := "walkmill/walkmilllaw06.SoapBalance", spec := "soapBalance", unfollowed := true, recurses := true, apart := false }
def SoapBalanceSaid : Prop := soapBalanceRow.holds Tryz.pinned (OpenSpec.ofChange soapBalanceSpec)

/-- ITS FALSE NEIGHBOUR: 'it returns false'. Refute it at one input. -/
def soapBalanceWrong : ChangeSpec := { name := "soapBalance", fn := fun _ => fun
  | [d1, d2, d3] => { results := [.lit (.bool false)], args := [d1, d2, d3] }
  | _ => none }
def SoapBalanceWrongFalsely : Prop := soapBalanceRow.holds Tryz.pinned (OpenSpec.ofChange soapBalanceWrong)

/- THE SECOND FORM. 'bulk': how many values and letters a reading holds, each counted each time it is reached (what is shared counts as often as it is met; a slice's spare places count too). A statement '..UptoSaid' is the law's where the arguments, and the package variables that the reading takes, are together of bulk at most 1048576: NARROWER than '..Said'. Prove '..Said' where nothing that the law and all that it calls make is longer than what came in: it says more and counts as full. Else prove '..UptoSaid'. A law counts once. -/
mutual
def uptoBulk {H : Type} : DataW H → Nat
  | .lit (.string bytes) => bytes.length + 1
  | .lit _ => 1
  | .nil => 1
  | .ptr d => uptoBulk d + 1
  | .slice elems spare => uptoBulkAll elems + uptoBulkAll spare + 1
  | .agg parts => uptoBulkAll parts + 1
  | .iface _ d => uptoBulk d + 1
  | .map entries => uptoBulkEntries entries + 1
  | .held _ => 1
def uptoBulkAll {H : Type} : List (DataW H) → Nat
  | [] => 0
  | d :: r => uptoBulk d + uptoBulkAll r
def uptoBulkEntries {H : Type} : List (Lit × DataW H) → Nat
  | [] => 0
  | x :: r => uptoBulkEntry x + uptoBulkEntries r
def uptoBulkEntry {H : Type} : Lit × DataW H → Nat
  | (.string bytes, d) => bytes.length + uptoBulk d + 1
  | (_, d) => uptoBulk d + 1
 end
def uptoSmall : (H : Type) → List (DataW H) → Bool := fun _ ds => decide (uptoBulkAll ds ≤ 1048576)
def OpenSpec.upto (s : _root_.Go.ChangeSpec) : _root_.Go.OpenSpec := { _root_.Go.OpenSpec.ofChange s with cond := some uptoSmall }

/-- 'walkmilllaw06.SoapScours', WHERE WHAT IT READS IS OF BULK AT MOST 1048576: true; the input reads as it did. -/
def soapScoursUptoRow : OpenClaim := { program := "ytjaapkkpmegkfaagreat", sum := "d261bdfbd016342dd2e2949d37c4273b4b84402563a135a3f38400f12f4093f1", func := "walkmill/walkmilllaw06.SoapScours", spec := "soapScours", unfollowed := true, recurses := true, apart := false, narrowed := true }
def SoapScoursUptoSaid : Prop := soapScoursUptoRow.holds Tryz.pinned (OpenSpec.upto soapScoursSpec)

/-- 'walkmilllaw06.SoapCheapests', WHERE WHAT IT READS IS OF BULK AT MOST 1048576: true; the input reads as it did. -/
def soapCheapestsUptoRow : OpenClaim := { program := "ytjaapkkpmegkfaagreat", sum := "d261bdfbd016342dd2e2949d37c4273b4b84402563a135a3f38400f12f4093f1", func := "walkmill/walkmilllaw06.SoapCheapests", spec := "soapCheapests", unfollowed := true, recurses := true, apart := false, narrowed := true }
def SoapCheapestsUptoSaid : Prop := soapCheapestsUptoRow.holds Tryz.pinned (OpenSpec.upto soapCheapestsSpec)

/-- 'walkmilllaw06.SoapDears', WHERE WHAT IT READS IS OF BULK AT MOST 1048576: true; the input reads as it did. -/
def soapDearsUptoRow : OpenClaim := { program := "ytjaapkkpmegkfaagreat", sum := "d261bdfbd016342dd2e2949d37c4273b4b84402563a135a3f38400f12f4093f1", func := "walkmill/walkmilllaw06.SoapDears", spec := "soapDears", unfollowed := true, recurses := true, apart := false, narrowed := true }
def SoapDearsUptoSaid : Prop := soapDearsUptoRow.holds Tryz.pinned (OpenSpec.upto soapDearsSpec)

/-- 'walkmilllaw06.SoapServes', WHERE WHAT IT READS IS OF BULK AT MOST 1048576: true; the input reads as it did. -/
def soapServesUptoRow : OpenClaim := { program := "ytjaapkkpmegkfaagreat", sum := "d261bdfbd016342dd2e2949d37c4273b4b84402563a135a3f38400f12f4093f1", func := "walkmill/walkmilllaw06.SoapServes", spec := "soapServes", unfollowed := true, recurses := true, apart := false, narrowed := true }
def SoapServesUptoSaid : Prop := soapServesUptoRow.holds Tryz.pinned (OpenSpec.upto soapServesSpec)

/-- 'walkmilllaw06.SoapShorts', WHERE WHAT IT READS IS OF BULK AT MOST 1048576: true; the input reads as it did. -/
def soapShortsUptoRow : OpenClaim := { program := "ytjaapkkpmegkfaagreat", sum := "d261bdfbd016342dd2e2949d37c4273b4b84402563a135a3f38400f12f4093f1", func := "walkmill/walkmilllaw06.SoapShorts", spec := "soapShorts", unfollowed := true, recurses := true, apart := false, narrowed := true }
def SoapShortsUptoSaid : Prop := soapShortsUptoRow.holds Tryz.pinned (OpenSpec.upto soapShortsSpec)

/-- 'walkmilllaw06.SoapSuspects', WHERE WHAT IT READS IS OF BULK AT MOST 1048576: true; the input reads as it did. -/
def soapSuspectsUptoRow : OpenClaim := { program := "ytjaapkkpmegkfaagreat", sum := "d261bdfbd016342dd2e2949d37c4273b4b84402563a135a3f38400f12f4093f1", func := "walkmill/walkmilllaw06.SoapSuspects", spec := "soapSuspects", unfollowed := true, recurses := true, apart := false, narrowed := true }
def SoapSuspectsUptoSaid : Prop := soapSuspectsUptoRow.holds Tryz.pinned (OpenSpec.upto soapSuspectsSpec)

/-- 'walkmilllaw06.SoapShares', WHERE WHAT IT READS IS OF BULK AT MOST 1048576: true; the input reads as it did. -/
def soapSharesUptoRow : OpenClaim := { program := "ytjaapkkpmegkfaagreat", sum := "d261bdfbd016342dd2e2949d37c4273b4b84402563a135a3f38400f12f4093f1", func := "walkmill/walkmilllaw06.SoapShares", spec := "soapShares", unfollowed := true, recurses := true, apart := false, narrowed := true }
def SoapSharesUptoSaid : Prop := soapSharesUptoRow.holds Tryz.pinned (OpenSpec.upto soapSharesSpec)

/-- 'walkmilllaw06.SoapTruth', WHERE WHAT IT READS IS OF BULK AT MOST 1048576: true; the input reads as it did. -/
def soapTruthUptoRow : OpenClaim := { program := "ytjaapkkpmegkfaagreat", sum := "d261bdfbd016342dd2e2949d37c4273b4b84402563a135a3f38400f12f4093f1", func := "walkmill/walkmilllaw06.SoapTruth", spec := "soapTruth", unfollowed := true, recurses := true, apart := false, narrowed := true }
def SoapTruthUptoSaid : Prop := soapTruthUptoRow.holds Tryz.pinned (OpenSpec.upto soapTruthSpec)

/-- 'walkmilllaw06.SoapNoCheaper', WHERE WHAT IT READS IS OF BULK AT MOST 1048576: true; the input reads as it did. -/
def soapNoCheaperUptoRow : OpenClaim := { program := "ytjaapkkpmegkfaagreat", sum := "d261bdfbd016342dd2e2949d37c4273b4b84402563a135a3f38400f12f4093f1", func := "walkmill/walkmilllaw06.SoapNoCheaper", spec := "soapNoCheaper", unfollowed := true, recurses := true, apart := false, narrowed := true }
def SoapNoCheaperUptoSaid : Prop := soapNoCheaperUptoRow.holds Tryz.pinned (OpenSpec.upto soapNoCheaperSpec)

/-- 'walkmilllaw06.SoapServed', WHERE WHAT IT READS IS OF BULK AT MOST 1048576: true; the input reads as it did. -/
def soapServedUptoRow : OpenClaim := { program := "ytjaapkkpmegkfaagreat", sum := "d261bdfbd016342dd2e2949d37c4273b4b84402563a135a3f38400f12f4093f1", func := "walkmill/walkmilllaw06.SoapServed", spec := "soapServed", unfollowed := true, recurses := true, apart := false, narrowed := true }
def SoapServedUptoSaid : Prop := soapServedUptoRow.holds Tryz.pinned (OpenSpec.upto soapServedSpec)

/-- 'walkmilllaw06.SoapScales', WHERE WHAT IT READS IS OF BULK AT MOST 1048576: true; the input reads as it did. -/
def soapScalesUptoRow : OpenClaim := { program := "ytjaapkkpmegkfaagreat", sum := "d261bdfbd016342dd2e2949d37c4273b4b84402563a135a3f38400f12f4093f1", func := "walkmill/walkmilllaw06.SoapScales", spec := "soapScales", unfollowed := true, recurses := true, apart := false, narrowed := true }
def SoapScalesUptoSaid : Prop := soapScalesUptoRow.holds Tryz.pinned (OpenSpec.upto soapScalesSpec)

/-- 'walkmilllaw06.SoapBalance', WHERE WHAT IT READS IS OF BULK AT MOST 1048576: true; the input reads as it did. -/
def soapBalanceUptoRow : OpenClaim := { program := "ytjaapkkpmegkfaagreat", sum := "d261bdfbd016342dd2e2949d37c4273b4b84402563a135a3f38400f12f4093f1", func := "walkmill/walkmilllaw06.SoapBalance", spec := "soapBalance", unfollowed := true, recurses := true, apart := false, narrowed := true }
def SoapBalanceUptoSaid : Prop := soapBalanceUptoRow.holds Tryz.pinned (OpenSpec.upto soapBalanceSpec)

end Rows
end Go.Proofs.YtjaapkkpmegkfaaGreat
