/-
  NARROWER THAN 'FOR EVERY INPUT', by the rows' own cells (each row's printed sentence says how): TenterHangs: laid · TenterStretched: laid · TenterFills: laid · TenterAgainst: laid · TenterTights: laid · TenterDries: laid · TenterNeeds: laid · TenterLates: laid · TenterDry: laid.
  DERIVED. THE GIVEN ROWS OF THIS SEAT. 9 by the template 'for every input the law returns true; each argument reads behind the call as it read before'; 0 by the template 'total and deterministic' (their statements: YtikmfpjcdcckeaaGreatDoorTotals.lean).
  GIVEN WITH THE SEED: the statements are not yours to turn. If you find one false, say at which input.
  Laid BY PROGRAM, IN A SANDBOX (cutbox-rows.mjs): the forced cells as the released guide's own fill.sh prints them over the translation 499afd71be360fd1… (all of the seat's roots in one cut). By AI agents, Wed Nov 11 2026. No macro, syntax, notation, axiom, sorry.
-/
import Derived.Test.YtikmfpjcdcckeaaGreatDoorChecked
import GoSem.Claim
import GoSem.ClaimJoined
import GoSem.ClaimMapViews
import Derived.JoinedTies
import Derived.KernelRfl
namespace Go.Proofs.YtikmfpjcdcckeaaGreatDoor
/- THE CELL 'sum', in the pinned program and in every row, IS THE sha256 OF THE DUMP (.gsa) THAT YtikmfpjcdcckeaaGreatDoorProg.lean LOADS. Nothing in Lean hashes anything: it is a label: what it is worth is what the hold of that sum in a sandbox is worth. -/
noncomputable def Tryz.pinned : Pinned := { name := "ytikmfpjcdcckeaagreatdoor", sum := "499afd71be360fd109c3d16fddd5d008dbcf38467b5c8fc6f699b9e292e81d22", checked := Tryz.checked }
namespace Rows
def none {H : Type} : Left H := { results := [], args := [] }

/- WHAT THE LISTED PACKAGE-LEVEL VARIABLES READ AS WHEN THE CALL BEGINS. Each datum BY PROGRAM (the guide's laid-datum.mjs) off the statement by which the dump's own 'gosem.cut.vars' lays the variable. In a bare row this is a premise. The card (YtikmfpjcdcckeaaGreatDoorCards.lean) ties it to the program's text. -/
def laid_math_bits_deBruijn32tab {H : Type} : DataW H := .agg [.lit (.int .u8 0), .lit (.int .u8 1), .lit (.int .u8 28), .lit (.int .u8 2), .lit (.int .u8 29), .lit (.int .u8 14), .lit (.int .u8 24), .lit (.int .u8 3), .lit (.int .u8 30), .lit (.int .u8 22), .lit (.int .u8 20), .lit (.int .u8 15), .lit (.int .u8 25), .lit (.int .u8 17), .lit (.int .u8 4), .lit (.int .u8 8), .lit (.int .u8 31), .lit (.int .u8 27), .lit (.int .u8 13), .lit (.int .u8 23), .lit (.int .u8 21), .lit (.int .u8 19), .lit (.int .u8 16), .lit (.int .u8 7), .lit (.int .u8 26), .lit (.int .u8 12), .lit (.int .u8 18), .lit (.int .u8 6), .lit (.int .u8 11), .lit (.int .u8 5), .lit (.int .u8 10), .lit (.int .u8 9)]
def laid_math_bits_deBruijn64tab {H : Type} : DataW H := .agg [.lit (.int .u8 0), .lit (.int .u8 1), .lit (.int .u8 56), .lit (.int .u8 2), .lit (.int .u8 57), .lit (.int .u8 49), .lit (.int .u8 28), .lit (.int .u8 3), .lit (.int .u8 61), .lit (.int .u8 58), .lit (.int .u8 42), .lit (.int .u8 50), .lit (.int .u8 38), .lit (.int .u8 29), .lit (.int .u8 17), .lit (.int .u8 4), .lit (.int .u8 62), .lit (.int .u8 47), .lit (.int .u8 59), .lit (.int .u8 36), .lit (.int .u8 45), .lit (.int .u8 43), .lit (.int .u8 51), .lit (.int .u8 22), .lit (.int .u8 53), .lit (.int .u8 39), .lit (.int .u8 33), .lit (.int .u8 30), .lit (.int .u8 24), .lit (.int .u8 18), .lit (.int .u8 12), .lit (.int .u8 5), .lit (.int .u8 63), .lit (.int .u8 55), .lit (.int .u8 48), .lit (.int .u8 27), .lit (.int .u8 60), .lit (.int .u8 41), .lit (.int .u8 37), .lit (.int .u8 16), .lit (.int .u8 46), .lit (.int .u8 35), .lit (.int .u8 44), .lit (.int .u8 21), .lit (.int .u8 52), .lit (.int .u8 32), .lit (.int .u8 23), .lit (.int .u8 11), .lit (.int .u8 54), .lit (.int .u8 26), .lit (.int .u8 40), .lit (.int .u8 15), .lit (.int .u8 34), .lit (.int .u8 20), .lit (.int .u8 31), .lit (.int .u8 10), .lit (.int .u8 25), .lit (.int .u8 14), .lit (.int .u8 19), .lit (.int .u8 9), .lit (.int .u8 13), .lit (.int .u8 8), .lit (.int .u8 7), .lit (.int .u8 6)]

/-- 'walkmilllaw05.TenterHangs': WHATEVER THE INPUT: true; the input reads as it did. -/
def tenterHangsSpec : ChangeSpec := { name := "tenterHangs", fn := fun _ => fun
  | [d] => { results := [.lit (.bool true)], args := [d] }
  | _ => none }
def tenterHangsRow : OpenClaim := { program := "ytikmfpjcdcckeaagreatdoor", sum := "499afd71be360fd109c3d16fddd5d008dbcf38467b5c8fc6f699b9e292e81d22", func := "walkmill/walkmilllaw05.TenterHangs", spec := "tenterHangs", unfollowed := true, recurses := true, named := ["math/bits.deBruijn32tab", "math/bits.deBruijn64tab"], plainKeys := false, apart := false, laid := [("math/bits.deBruijn32tab", laid_math_bits_deBruijn32tab), ("math/bits.deBruijn64tab", laid_math_bits_deBruijn64tab)] }
def TenterHangsSaid : Prop := tenterHangsRow.holds Tryz.pinned (OpenSpec.ofChange tenterHangsSpec)

/-- ITS FALSE NEIGHBOUR: 'it returns false'. Refute it at one input. -/
def tenterHangsWrong : ChangeSpec := { name := "tenterHangs", fn := fun _ => fun
  | [d] => { results := [.lit (.bool false)], args := [d] }
  | _ => none }
def TenterHangsWrongFalsely : Prop := tenterHangsRow.holds Tryz.pinned (OpenSpec.ofChange tenterHangsWrong)

/-- 'walkmilllaw05.TenterStretched': WHATEVER THE INPUT: true; the input reads as it did. -/
def tenterStretchedSpec : ChangeSpec := { name := "tenterStretched", fn := fun _ => fun
  | [d1, d2, d3] => { results := [.lit (.bool true)], args := [d1, d2, d3] }
  | _ => none }
def tenterStretchedRow : OpenClaim := { program := "ytikmfpjcdcckeaagreatdoor", sum := "499afd71be360fd109c3d16fddd5d008dbcf38467b5c8fc6f699b9e292e81d22", func := "walkmill/walkmilllaw05.TenterStretched", spec := "tenterStretched", unfollowed := true, recurses := true, named := ["math/bits.deBruijn32tab", "math/bits.deBruijn64tab"], plainKeys := false, apart := false, laid := [("math/bits.deBruijn32tab", laid_math_bits_deBruijn32tab), ("math/bits.deBruijn64tab", laid_math_bits_deBruijn64tab)] }
def TenterStretchedSaid : Prop := tenterStretchedRow.holds Tryz.pinned (OpenSpec.ofChange tenterStretchedSpec)

/-- ITS FALSE NEIGHBOUR: 'it returns false'. Refute it at one input. -/
def tenterStretchedWrong : ChangeSpec := { name := "tenterStretched", fn := fun _ => fun
  | [d1, d2, d3] => { results := [.lit (.bool false)], args := [d1, d2, d3] }
  | _ => none }
def TenterStretchedWrongFalsely : Prop := tenterStretchedRow.holds Tryz.pinned (OpenSpec.ofChange tenterStretchedWrong)

/-- 'walkmilllaw05.TenterFills': WHATEVER THE INPUT: true; the input reads as it did. -/
def tenterFillsSpec : ChangeSpec := { name := "tenterFills", fn := fun _ => fun
  | [d] => { results := [.lit (.bool true)], args := [d] }
  | _ => none }
def tenterFillsRow : OpenClaim := { program := "ytikmfpjcdcckeaagreatdoor", sum := "499afd71be360fd109c3d16fddd5d008dbcf38467b5c8fc6f699b9e292e81d22", func := "walkmill/walkmilllaw05.TenterFills", spec := "tenterFills", unfollowed := true, recurses := true, named := ["math/bits.deBruijn32tab", "math/bits.deBruijn64tab"], plainKeys := false, apart := false, laid := [("math/bits.deBruijn32tab", laid_math_bits_deBruijn32tab), ("math/bits.deBruijn64tab", laid_math_bits_deBruijn64tab)] }
def TenterFillsSaid : Prop := tenterFillsRow.holds Tryz.pinned (OpenSpec.ofChange tenterFillsSpec)

/-- ITS FALSE NEIGHBOUR: 'it returns false'. Refute it at one input. -/
def tenterFillsWrong : ChangeSpec := { name := "tenterFills", fn := fun _ => fun
  | [d] => { results := [.lit (.bool false)], args := [d] }
  | _ => none }
def TenterFillsWrongFalsely : Prop := tenterFillsRow.holds Tryz.pinned (OpenSpec.ofChange tenterFillsWrong)

/-- 'walkmilllaw05.TenterAgainst': WHATEVER THE INPUT: true; the input reads as it did. -/
def tenterAgainstSpec : ChangeSpec := { name := "tenterAgainst", fn := fun _ => fun
  | [d] => { results := [.lit (.bool true)], args := [d] }
  | _ => none }
def tenterAgainstRow : OpenClaim := { program := "ytikmfpjcdcckeaagreatdoor", sum := "499afd71be360fd109c3d16fddd5d008dbcf38467b5c8fc6f699b9e292e81d22", func := "walkmill/walkmilllaw05.TenterAgainst", spec := "tenterAgainst", unfollowed := true, recurses := true, named := ["math/bits.deBruijn32tab", "math/bits.deBruijn64tab"], plainKeys := false, apart := false, laid := [("math/bits.deBruijn32tab", laid_math_bits_deBruijn32tab), ("math/bits.deBruijn64tab", laid_math_bits_deBruijn64tab)] }
def TenterAgainstSaid : Prop := tenterAgainstRow.holds Tryz.pinned (OpenSpec.ofChange tenterAgainstSpec)

/-- ITS FALSE NEIGHBOUR: 'it returns false'. Refute it at one input. -/
def tenterAgainstWrong : ChangeSpec := { name := "tenterAgainst", fn := fun _ => fun
  | [d] => { results := [.lit (.bool false)], args := [d] }
  | _ => none }
def TenterAgainstWrongFalsely : Prop := tenterAgainstRow.holds Tryz.pinned (OpenSpec.ofChange tenterAgainstWrong)

/-- 'walkmilllaw05.TenterTights': WHATEVER THE INPUT: true; the input reads as it did. -/
def tenterTightsSpec : ChangeSpec := { name := "tenterTights", fn := fun _ => fun
  | [d1, d2, d3] => { results := [.lit (.bool true)], args := [d1, d2, d3] }
  | _ => none }
def tenterTightsRow : OpenClaim := { program := "ytikmfpjcdcckeaagreatdoor", sum := "499afd71be360fd109c3d16fddd5d008dbcf38467b5c8fc6f699b9e292e81d22", func := "walkmill/walkmilllaw05.TenterTights", spec := "tenterTights", unfollowed := true, recurses := true, named := ["math/bits.deBruijn32tab", "math/bits.deBruijn64tab"], plainKeys := false, apart := false, laid := [("math/bits.deBruijn32tab", laid_math_bits_deBruijn32tab), ("math/bits.deBruijn64tab", laid_math_bits_deBruijn64tab)] }
def TenterTightsSaid : Prop := tenterTightsRow.holds Tryz.pinned (OpenSpec.ofChange tenterTightsSpec)

/-- ITS FALSE NEIGHBOUR: 'it returns false'. Refute it at one input. -/
def tenterTightsWrong : ChangeSpec := { name := "tenterTights", fn := fun _ => fun
  | [d1, d2, d3] => { results := [.lit (.bool false)], args := [d1, d2, d3] }
  | _ => none }
def TenterTightsWrongFalsely : Prop := tenterTightsRow.holds Tryz.pinned (OpenSpec.ofChange tenterTightsWrong)

/-- 'walkmilllaw05.TenterDries': WHATEVER THE INPUT: true; the input reads as it did. -/
def tenterDriesSpec : ChangeSpec := { name := "tenterDries", fn := fun _ => fun
  | [d1, d2, d3] => { results := [.lit (.bool true)], args := [d1, d2, d3] }
  | _ => none }
def tenterDriesRow : OpenClaim := { program := "ytikmfpjcdcckeaagreatdoor", sum := "499afd71be360fd109c3d16fddd5d008dbcf38467b5c8fc6f699b9e292e81d22", func := "walkmill/walkmilllaw05.TenterDries", spec := "tenterDries", unfollowed := true, recurses := true, named := ["math/bits.deBruijn32tab", "math/bits.deBruijn64tab"], plainKeys := false, apart := false, laid := [("math/bits.deBruijn32tab", laid_math_bits_deBruijn32tab), ("math/bits.deBruijn64tab", laid_math_bits_deBruijn64tab)] }
def TenterDriesSaid : Prop := tenterDriesRow.holds Tryz.pinned (OpenSpec.ofChange tenterDriesSpec)

/-- ITS FALSE NEIGHBOUR: 'it returns false'. Refute it at one input. -/
def tenterDriesWrong : ChangeSpec := { name := "tenterDries", fn := fun _ => fun
  | [d1, d2, d3] => { results := [.lit (.bool false)], args := [d1, d2, d3] }
  | _ => none }
def TenterDriesWrongFalsely : Prop := tenterDriesRow.holds Tryz.pinned (OpenSpec.ofChange tenterDriesWrong)

/-- 'walkmilllaw05.TenterNeeds': WHATEVER THE INPUT: true; the input reads as it did. -/
def tenterNeedsSpec : ChangeSpec := { name := "tenterNeeds", fn := fun _ => fun
  | [d1, d2, d3] => { results := [.lit (.bool true)], args := [d1, d2, d3] }
  | _ => none }
def tenterNeedsRow : OpenClaim := { program := "ytikmfpjcdcckeaagreatdoor", sum := "499afd71be360fd109c3d16fddd5d008dbcf38467b5c8fc6f699b9e292e81d22", func := "walkmill/walkmilllaw05.TenterNeeds", spec := "tenterNeeds", unfollowed := true, recurses := true, named := ["math/bits.deBruijn32tab", "math/bits.deBruijn64tab"], plainKeys := false, apart := false, laid := [("math/bits.deBruijn32tab", laid_math_bits_deBruijn32tab), ("math/bits.deBruijn64tab", laid_math_bits_deBruijn64tab)] }
def TenterNeedsSaid : Prop := tenterNeedsRow.holds Tryz.pinned (OpenSpec.ofChange tenterNeedsSpec)

/-- ITS FALSE NEIGHBOUR: 'it returns false'. Refute it at one input. -/
def tenterNeedsWrong : ChangeSpec := { name := "tenterNeeds", fn := fun _ => fun
  | [d1, d2, d3] => { results := [.lit (.bool false)], args := [d1, d2, d3] }
  | _ => none }
def TenterNeedsWrongFalsely : Prop := tenterNeedsRow.holds Tryz.pinned (OpenSpec.ofChange tenterNeedsWrong)

/-- 'walkmilllaw05.TenterLates': WHATEVER THE INPUT: true; the input reads as it did. -/
def tenterLatesSpec : ChangeSpec := { name := "tenterLates", fn := fun _ => fun
  | [d1, d2] => { results := [.lit (.bool true)], args := [d1, d2] }
  | _ => none }
def tenterLatesRow : OpenClaim := { program := "ytikmfpjcdcckeaagreatdoor", sum := "499afd71be360fd109c3d16fddd5d008dbcf38467b5c8fc6f699b9e292e81d22", func := "walkmill/walkmilllaw05.TenterLates", spec := "tenterLates", unfollowed := true, recurses := true, named := ["math/bits.deBruijn32tab", "math/bits.deBruijn64tab"], plainKeys := false, apart := false, laid := [("math/bits.deBruijn32tab", laid_math_bits_deBruijn32tab), ("math/bits.deBruijn64tab", laid_math_bits_deBruijn64tab)] }
def TenterLatesSaid : Prop := tenterLatesRow.holds Tryz.pinned (OpenSpec.ofChange tenterLatesSpec)

/-- ITS FALSE NEIGHBOUR: 'it returns false'. Refute it at one input. -/
def tenterLatesWrong : ChangeSpec := { name := "tenterLates", fn := fun _ => fun
  | [d1, d2] => { results := [.lit (.bool false)], args := [d1, d2] }
  | _ => none }
def TenterLatesWrongFalsely : Prop := tenterLatesRow.holds Tryz.pinned (OpenSpec.ofChange tenterLatesWrong)

/-- 'walkmilllaw05.TenterDry': WHATEVER THE INPUT: true; the input reads as it did. -/
def tenterDrySpec : ChangeSpec := { name := "tenterDry", fn := fun _ => fun
  | [d1, d2, d3] => { results := [.lit (.bool true)], args := [d1, d2, d3] }
  | _ => none }
def tenterDryRow : OpenClaim := { program := "ytikmfpjcdcckeaagreatdoor", sum := "499afd71be360fd109c3d16fddd5d008dbcf38467b5c8fc6f699b9e292e81d22", func := "walkmill/walkmilllaw05.TenterDry", spec := "tenterDry", unfollowed := true, recurses := true, named := ["math/bits.deBruijn32tab", "math/bits.deBruijn64tab"], plainKeys := false, apart := false, laid := [("math/bits.deBruijn32tab", laid_math_bits_deBruijn32tab), ("math/bits.deBruijn64tab", laid_math_bits_deBruijn64tab)] }
def TenterDrySaid : Prop := tenterDryRow.holds Tryz.pinned (OpenSpec.ofChange tenterDrySpec)

/-- ITS FALSE NEIGHBOUR: 'it returns false'. Refute it at one input. -/
def tenterDryWrong : ChangeSpec := { name := "tenterDry", fn := fun _ => fun
  | [d1, d2, d3] => { results := [.lit (.bool false)], args := [d1, d2, d3] }
  | _ => none }
def TenterDryWrongFalsely : Prop := tenterDryRow.holds Tryz.pinned (OpenSpec.ofChange tenterDryWrong)

/- THE SECOND FORM. 'bulk': how many values and letters a reading holds, each counted each time it is reached (what is shared counts as often as it is met; a slice's spare places count too). A statement '..UptoSaid' is the law's where the arguments, and the package variables that the reading takes, are together of bulk at most 1048576: NARROWER than '..Said'. Prove '..Said' where nothing that the law and all that it calls make is longer than what came in: it says more and counts as full. Else prove '..UptoSaid'. A law counts once. -/
mutual
def uptoBulk {H : Type} : DataW H → Nat
  | .lit (.string bytes) => bytes.length + 1
  | .lit _ => 1
  | .nil => 1
  | .ptr d => uptoBulk d + 1
  | .slice elems spare => uptoBulkAll elems + uptoBulkAll spare + 1
  | .agg parts => uptoBulkAll parts + 1
  | .iface _ d => uptoBulk d + 1
  | .map entries => uptoBulkEntries entries + 1
  | .held _ => 1
def uptoBulkAll {H : Type} : List (DataW H) → Nat
  | [] => 0
  | d :: r => uptoBulk d + uptoBulkAll r
def uptoBulkEntries {H : Type} : List (Lit × DataW H) → Nat
  | [] => 0
  | x :: r => uptoBulkEntry x + uptoBulkEntries r
def uptoBulkEntry {H : Type} : Lit × DataW H → Nat
  | (.string bytes, d) => bytes.length + uptoBulk d + 1
  | (_, d) => uptoBulk d + 1
 end
def uptoSmall : (H : Type) → List (DataW H) → Bool := fun _ ds => decide (uptoBulkAll ds ≤ 1048576)
def OpenSpec.upto (s : _root_.Go.ChangeSpec) : _root_.Go.OpenSpec := { _root_.Go.OpenSpec.ofChange s with cond := some uptoSmall }

/-- 'walkmilllaw05.TenterHangs', WHERE WHAT IT READS IS OF BULK AT MOST 1048576: true; the input reads as it did. -/
def tenterHangsUptoRow : OpenClaim := { program := "ytikmfpjcdcckeaagreatdoor", sum := "499afd71be360fd109c3d16fddd5d008dbcf38467b5c8fc6f699b9e292e81d22", func := "walkmill/walkmilllaw05.TenterHangs", spec := "tenterHangs", unfollowed := true, recurses := true, named := ["math/bits.deBruijn32tab", "math/bits.deBruijn64tab"], plainKeys := false, apart := false, laid := [("math/bits.deBruijn32tab", laid_math_bits_deBruijn32tab), ("math/bits.deBruijn64tab", laid_math_bits_deBruijn64tab)], narrowed := true }
def TenterHangsUptoSaid : Prop := tenterHangsUptoRow.holds Tryz.pinned (OpenSpec.upto tenterHangsSpec)

/-- 'walkmilllaw05.TenterStretched', WHERE WHAT IT READS IS OF BULK AT MOST 1048576: true; the input reads as it did. -/
def tenterStretchedUptoRow : OpenClaim := { program := "ytikmfpjcdcckeaagreatdoor", sum := "499afd71be360fd109c3d16fddd5d008dbcf38467b5c8fc6f699b9e292e81d22", func := "walkmill/walkmilllaw05.TenterStretched", spec := "tenterStretched", unfollowed := true, recurses := true, named := ["math/bits.deBruijn32tab", "math/bits.deBruijn64tab"], plainKeys := false, apart := false, laid := [("math/bits.deBruijn32tab", laid_math_bits_deBruijn32tab), ("math/bits.deBruijn64tab", laid_math_bits_deBruijn64tab)], narrowed := true }
def TenterStretchedUptoSaid : Prop := tenterStretchedUptoRow.holds Tryz.pinned (OpenSpec.upto tenterStretchedSpec)

/-- 'walkmilllaw05.TenterFills', WHERE WHAT IT READS IS OF BULK AT MOST 1048576: true; the input reads as it did. -/
def tenterFillsUptoRow : OpenClaim := { program := "ytikmfpjcdcckeaagreatdoor", sum := "499afd71be360fd109c3d16fddd5d008dbcf38467b5c8fc6f699b9e292e81d22", func := "walkmill/walkmilllaw05.TenterFills", spec := "tenterFills", unfollowed := true, recurses := true, named := ["math/bits.deBruijn32tab", "math/bits.deBruijn64tab"], plainKeys := false, apart := false, laid := [("math/bits.deBruijn32tab", laid_math_bits_deBruijn32tab), ("math/bits.deBruijn64tab", laid_math_bits_deBruijn64tab)], narrowed := true }
def TenterFillsUptoSaid : Prop := tenterFillsUptoRow.holds Tryz.pinned (OpenSpec.upto tenterFillsSpec)

/-- 'walkmilllaw05.TenterAgainst', WHERE WHAT IT READS IS OF BULK AT MOST 1048576: true; the input reads as it did. -/
def tenterAgainstUptoRow : OpenClaim := { program := "ytikmfpjcdcckeaagreatdoor", sum := "499afd71be360fd109c3d16fddd5d008dbcf38467b5c8fc6f699b9e292e81d22", func := "walkmill/walkmilllaw05.TenterAgainst", spec := "tenterAgainst", unfollowed := true, recurses := true, named := ["math/bits.deBruijn32tab", "math/bits.deBruijn64tab"], plainKeys := false, apart := false, laid := [("math/bits.deBruijn32tab", laid_math_bits_deBruijn32tab), ("math/bits.deBruijn64tab", laid_math_bits_deBruijn64tab)], narrowed := true }
def TenterAgainstUptoSaid : Prop := tenterAgainstUptoRow.holds Tryz.pinned (OpenSpec.upto tenterAgainstSpec)

/-- 'walkmilllaw05.TenterTights', WHERE WHAT IT READS IS OF BULK AT MOST 1048576: true; the input reads as it did. -/
def tenterTightsUptoRow : OpenClaim := { program := "ytikmfpjcdcckeaagreatdoor", sum := "499afd71be360fd109c3d16fddd5d008dbcf38467b5c8fc6f699b9e292e81d22", func := "walkmill/walkmilllaw05.TenterTights", spec := "tenterTights", unfollowed := true, recurses := true, named := ["math/bits.deBruijn32tab", "math/bits.deBruijn64tab"], plainKeys := false, apart := false, laid := [("math/bits.deBruijn32tab", laid_math_bits_deBruijn32tab), ("math/bits.deBruijn64tab", laid_math_bits_deBruijn64tab)], narrowed := true }
def TenterTightsUptoSaid : Prop := tenterTightsUptoRow.holds Tryz.pinned (OpenSpec.upto tenterTightsSpec)

/-- 'walkmilllaw05.TenterDries', WHERE WHAT IT READS IS OF BULK AT MOST 1048576: true; the input reads as it did. -/
def tenterDriesUptoRow : OpenClaim := { program := "ytikmfpjcdcckeaagreatdoor", sum := "499afd71be360fd109c3d16fddd5d008dbcf38467b5c8fc6f699b9e292e81d22", func := "walkmill/walkmilllaw05.TenterDries", spec := "tenterDries", unfollowed := true, recurses := true, named := ["math/bits.deBruijn32tab", "math/bits.deBruijn64tab"], plainKeys := false, apart := false, laid := [("math/bits.deBruijn32tab", laid_math_bits_deBruijn32tab), ("math/bits.deBruijn64tab", laid_math_bits_deBruijn64tab)], narrowed := true }
def TenterDriesUptoSaid : Prop := tenterDriesUptoRow.holds Tryz.pinned (OpenSpec.upto tenterDriesSpec)

/-- 'walkmilllaw05.TenterNeeds', WHERE WHAT IT READS IS OF BULK AT MOST 1048576: true; the input reads as it did. -/
def tenterNeedsUptoRow : OpenClaim := { program := "ytikmfpjcdcckeaagreatdoor", sum := "499afd71be360fd109c3d16fddd5d008dbcf38467b5c8fc6f699b9e292e81d22", func := "walkmill/walkmilllaw05.TenterNeeds", spec := "tenterNeeds", unfollowed := true, recurses := true, named := ["math/bits.deBruijn32tab", "math/bits.deBruijn64tab"], plainKeys := false, apart := false, laid := [("math/bits.deBruijn32tab", laid_math_bits_deBruijn32tab), ("math/bits.deBruijn64tab", laid_math_bits_deBruijn64tab)], narrowed := true }
def TenterNeedsUptoSaid : Prop := tenterNeedsUptoRow.holds Tryz.pinned (OpenSpec.upto tenterNeedsSpec)

/-- 'walkmilllaw05.TenterLates', WHERE WHAT IT READS IS OF BULK AT MOST 1048576: true; the input reads as it did. -/
def tenterLatesUptoRow : OpenClaim := { program := "ytikmfpjcdcckeaagreatdoor", sum := "499afd71be360fd109c3d16fddd5d008dbcf38467b5c8fc6f699b9e292e81d22", func := "walkmill/walkmilllaw05.TenterLates", spec := "tenterLates", unfollowed := true, recurses := true, named := ["math/bits.deBruijn32tab", "math/bits.deBruijn64tab"], plainKeys := false, apart := false, laid := [("math/bits.deBruijn32tab", laid_math_bits_deBruijn32tab), ("math/bits.deBruijn64tab", laid_math_bits_deBruijn64tab)], narrowed := true }
def TenterLatesUptoSaid : Prop := tenterLatesUptoRow.holds Tryz.pinned (OpenSpec.upto tenterLatesSpec)

/-- 'walkmilllaw05.TenterDry', WHERE WHAT IT READS IS OF BULK AT MOST 1048576: true; the input reads as it did. -/
def tenterDryUptoRow : OpenClaim := { program := "ytikmfpjcdcckeaagreatdoor", sum := "499afd71be360fd109c3d16fddd5d008dbcf38467b5c8fc6f699b9e292e81d22", func := "walkmill/walkmilllaw05.TenterDry", spec := "tenterDry", unfollowed := true, recurses := true, named := ["math/bits.deBruijn32tab", "math/bits.deBruijn64tab"], plainKeys := false, apart := false, laid := [("math/bits.deBruijn32tab", laid_math_bits_deBruijn32tab), ("math/bits.deBruijn64tab", laid_math_bits_deBruijn64tab)], narrowed := true }
def TenterDryUptoSaid : Prop := tenterDryUptoRow.holds Tryz.pinned (OpenSpec.upto tenterDrySpec)

end Rows
end Go.Proofs.YtikmfpjcdcckeaaGreatDoor
