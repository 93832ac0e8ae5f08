/- Part 6 of what the law's proof needs: words, walks of functions and plain facts. -/
import Derived.Test.YtikmfpjcdcckeaaDoorChecked
import Derived.Test.YtikmfpjcdcckeaaDoorC05
set_option linter.unusedVariables false
set_option linter.unusedSimpArgs false
namespace Go.Proofs.YtikmfpjcdcckeaaDoor.P
open Go Go.RowKit
def tab64 : Array Value := ([0, 1, 56, 2, 57, 49, 28, 3, 61, 58, 42, 50, 38, 29, 17, 4, 62, 47, 59, 36, 45, 43, 51, 22, 53, 39, 33, 30, 24, 18, 12, 5, 63, 55, 48, 27, 60, 41, 37, 16, 46, 35, 44, 21, 52, 32, 23, 11, 54, 26, 40, 15, 34, 20, 31, 10, 25, 14, 19, 9, 13, 8, 7, 6].map (Value.int .u8)).toArray
noncomputable def G0 : D.Glob := fun g => if g = 1 then some tab64 else none
def isYes : Option (D.AV × D.AH) → Bool
  | some (.lit (.bool true), _) => true
  | _ => false
set_option maxRecDepth 1000000 in
theorem known_yes : isYes (D.dCall Tryd.prog G0 10000 100 15 [] ⟨0, .tip⟩) = true := by kernel_rfl
structure LaidT (w : World) : Prop where
  tab : D.GlobAt w 1 tab64
theorem LaidT.below {w w' : World} (h : LaidT w) (hb : Below w.heap.size w w') : LaidT w' := by
  obtain ⟨xs, e, fz, h1, h2⟩ := h.tab
  exact ⟨xs, e, fz, by rw [hb.block 1 (Array.getElem?_eq_some_iff.1 h1).1]; exact h1, h2⟩
def walkmilllaw05_known.f : Option Bool := some true
theorem walkmilllaw05_known.calls (r : Bool) (w : World) (h : walkmilllaw05_known.f = some r) (hL : LaidT w) : Calls Tryd.prog 15 #[] w fun e w' => e = .returned (.bool r) ∧ Below w.heap.size w w' := by
  obtain rfl : true = r := Option.some.inj h
  have hy := known_yes
  generalize hd : D.dCall Tryd.prog G0 10000 100 15 [] ⟨0, .tip⟩ = res at hy
  unfold isYes at hy
  split at hy
  · rename_i K
    refine D.den_calls (Tryd.checked.mixed) (args := []) rfl hd w fun g vs hg => ?_
    unfold G0 at hg
    split at hg
    · rename_i e_; subst e_; cases hg; exact hL.tab
    · cases hg
  · cases hy
end Go.Proofs.YtikmfpjcdcckeaaDoor.P
