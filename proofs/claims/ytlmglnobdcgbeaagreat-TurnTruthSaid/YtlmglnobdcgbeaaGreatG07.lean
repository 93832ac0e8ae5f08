/- Part 7 of what the law's proof needs: words, walks of functions and plain facts. -/
import Derived.Test.YtlmglnobdcgbeaaGreatChecked
import Derived.Test.YtlmglnobdcgbeaaGreatG06
set_option linter.unusedVariables false
set_option linter.unusedSimpArgs false
namespace Go.Proofs.YtlmglnobdcgbeaaGreat.P
open Go Go.RowKit
noncomputable def G0 : D.Glob := fun _ => none
def isYes : Option (D.AV × D.AH) → Bool
  | some (.lit (.bool true), _) => true
  | _ => false
def ci (l : List Int) : List D.AV := l.map fun n => .lit (.int .i64 n)
def dayM : List (List D.AV × TypeId) := [(ci [0, 0, 4, 6, 0, 0, 3, 3, 1, 0, 5, 8, 1, 2, 2, 4], 67), (ci [1, 0], 3)]
def seenM : List (List D.AV × TypeId) := dayM ++ [(ci [3, 2, 0, 1], 3)]
def dayA : D.AV := .agg [.slice 0 0 4 (some 4), .slice 1 0 2 (some 2)]
noncomputable abbrev dC := D.dCall Tryz.prog G0 10000 100
set_option maxRecDepth 1000000
def sc0 : D.Sc := ⟨20, [dayA], dayM, .tuple [.slice 0 0 4 none, .lit (.int .i64 0)], some (ci [2, 0, 1, 3], 3, .grow)⟩
theorem sc0_ok : sc0.okB dC = true := by kernel_rfl
def sc1 : D.Sc := ⟨25, dayA :: ci [1], dayM, .tuple [.slice 0 0 4 (some 4), .lit (.int .i64 0)], some (ci [5, 8, 9, 14, 0, 0, 12, 17], 42, .exact)⟩
theorem sc1_ok : sc1.okB dC = true := by kernel_rfl
def sc2 : D.Sc := ⟨26, dayA :: ci [2], dayM, .tuple [.lit (.int .i64 1), .lit (.int .i64 6), .lit (.int .i64 0)], none⟩
theorem sc2_ok : sc2.okB dC = true := by kernel_rfl
def sc3 : D.Sc := ⟨27, dayA :: ci [2], dayM, .tuple [.agg [.lit (.int .i64 7), .lit (.int .i64 12)], .lit (.int .i64 0)], none⟩
theorem sc3_ok : sc3.okB dC = true := by kernel_rfl
def sc4 : D.Sc := ⟨33, dayA :: ci [1], dayM, .tuple [.lit (.int .i64 3), .lit (.int .i64 0)], none⟩
theorem sc4_ok : sc4.okB dC = true := by kernel_rfl
def sc5 : D.Sc := ⟨35, dayA :: ci [1, 6], dayM, .tuple [.slice 0 0 2 none, .lit (.int .i64 0)], some (ci [0, 2], 3, .grow)⟩
theorem sc5_ok : sc5.okB dC = true := by kernel_rfl
def sc6 : D.Sc := ⟨37, [dayA, .slice 2 0 4 (some 4)], seenM, .tuple [.slice 0 0 1 none, .lit (.int .i64 0)], some (ci [3], 3, .grow)⟩
theorem sc6_ok : sc6.okB dC = true := by kernel_rfl
def sc7 : D.Sc := ⟨40, dayA :: ci [1, 0, 1], dayM, .tuple [.lit (.int .i64 0), .lit (.int .i64 0), .lit (.int .i64 7)], none⟩
theorem sc7_ok : sc7.okB dC = true := by kernel_rfl
def sc8 : D.Sc := ⟨43, dayA :: ci [2, 6, 3], dayM, .tuple [.lit (.int .i64 500), .lit (.int .i64 0)], none⟩
theorem sc8_ok : sc8.okB dC = true := by kernel_rfl
def sc9 : D.Sc := ⟨46, dayA :: ci [2, 6], dayM, .tuple [.slice 0 0 2 none, .lit (.int .i64 0)], some (ci [0, 1], 3, .grow)⟩
theorem sc9_ok : sc9.okB dC = true := by kernel_rfl
def scs : List D.Sc := [sc0, sc1, sc2, sc3, sc4, sc5, sc6, sc7, sc8, sc9]
theorem scs_ok : ∀ s ∈ scs, s.okB dC = true := by
  intro s hs
  simp only [scs, List.mem_cons, List.not_mem_nil, or_false] at hs
  rcases hs with rfl | rfl | rfl | rfl | rfl | rfl | rfl | rfl | rfl | rfl
  · exact sc0_ok
  · exact sc1_ok
  · exact sc2_ok
  · exact sc3_ok
  · exact sc4_ok
  · exact sc5_ok
  · exact sc6_ok
  · exact sc7_ok
  · exact sc8_ok
  · exact sc9_ok
theorem known_yes : isYes (D.callF Tryz.prog G0 (D.withSc scs dC) (D.dRound Tryz.prog G0 10000 100) 10000 17 [] ⟨0, .tip⟩) = true := by kernel_rfl
def aD0.f : Option Bool := some true
theorem aD0.calls (r : Bool) (w : World) (h : aD0.f = some r) : Calls Tryz.prog 17 #[] w fun e w' => e = .returned (.bool r) ∧ Below w.heap.size w w' := by
  obtain rfl : true = r := Option.some.inj h
  have hy := known_yes
  generalize hd : D.callF Tryz.prog G0 (D.withSc scs dC) (D.dRound Tryz.prog G0 10000 100) 10000 17 [] ⟨0, .tip⟩ = res at hy
  unfold isYes at hy
  split at hy
  · rename_i K
    exact D.den_calls_sc (Tryz.checked.mixed) scs_ok (args := []) rfl hd w fun g vs hg => by cases hg
  · cases hy
end Go.Proofs.YtlmglnobdcgbeaaGreat.P
