/- Part 6 of what the law's proof needs beyond its base: words, walks of functions and plain facts. -/
import Derived.Test.YtjaapkkpmegkfaaGreatI05
set_option linter.unusedVariables false
set_option linter.unusedSimpArgs false
namespace Go.Proofs.YtjaapkkpmegkfaaGreat.P
open Go.RowKit Go.Proofs.YtjaapkkpmegkfaaGreatW.PrintWords Go.Proofs.YtjaapkkpmegkfaaGreatW.PrintLast Go.Proofs.YtjaapkkpmegkfaaGreatW.PrintMore
attribute [local go_sem] JG JH JY JX Jv Ju JJ JK
mutual
def Qao.j0 : Nat → List (List Int) → Int → List S100 → List Int → Int → Int → Bool → Int → Int → Int → Int → Int → Option Bool
 | 0, _, _, _, _, _, _, _, _, _, _, _, _ => none
 | k + 1, x1, x2, x7, x9, x10, x11, x66, x111000, x111001, x111002, x111003, x111004 => if x66 = true then (some false) else (if x11 = 0 then ((Qav.f x7).bind fun t119 => ((Qa0.f x9).bind fun t122 => ((Q0.f k t119 x111000 x111001 x111002 x111003 x111004 t122).bind fun bt125 => ((Qau.f k x7 x9).bind fun t129 => (if t129 = true then (if bt125.2.2.2 = 0 then (if bt125.1 = true then (Qao.j1 k x1 x2 x7 x9 x10 x11 bt125.2.2.1 x111000 x111001 x111002 x111003 x111004) else (Qao.j1 k x1 x2 x7 x9 x10 x11 true x111000 x111001 x111002 x111003 x111004)) else (Qao.j1 k x1 x2 x7 x9 x10 x11 true x111000 x111001 x111002 x111003 x111004)) else (Qao.j1 k x1 x2 x7 x9 x10 x11 true x111000 x111001 x111002 x111003 x111004)))))) else (Qao.j2 k x1 x2 x7 x10 x11 x111000 x111001 x111002 x111003 x111004))
def Qao.j2 : Nat → List (List Int) → Int → List S100 → Int → Int → Int → Int → Int → Int → Int → Option Bool
 | 0, _, _, _, _, _, _, _, _, _, _ => none
 | k + 1, x1, x2, x7, x10, x11, x111000, x111001, x111002, x111003, x111004 => Qao.l0 k x1 x2 x7 x10 x11 0 x111000 x111001 x111002 x111003 x111004
def Qao.l0 : Nat → List (List Int) → Int → List S100 → Int → Int → Int → Int → Int → Int → Int → Int → Option Bool
 | 0, _, _, _, _, _, _, _, _, _, _, _ => none
 | k + 1, x1, x2, x7, x10, x11, x18, x111000, x111001, x111002, x111003, x111004 => if x18 < (x1.length : Int) then (Qao.j4 k x1 x2 x7 x10 x11 x18 (decide (x18 < 12)) x111000 x111001 x111002 x111003 x111004) else (Qao.j4 k x1 x2 x7 x10 x11 x18 false x111000 x111001 x111002 x111003 x111004)
def Qao.j4 : Nat → List (List Int) → Int → List S100 → Int → Int → Int → Bool → Int → Int → Int → Int → Int → Option Bool
 | 0, _, _, _, _, _, _, _, _, _, _, _, _ => none
 | k + 1, x1, x2, x7, x10, x11, x18, x111, x111000, x111001, x111002, x111003, x111004 => if x111 = true then (if 0 ≤ x18 then (if x18 < (x1.length : Int) then ((Qar.f k x7 (Qbe x1 x18)).bind fun t133 => ((Qav.f x7).bind fun t136 => ((Qa0.f t133).bind fun t139 => ((Q0.f k t136 x111000 x111001 x111002 x111003 x111004 t139).bind fun bt142 => ((Qaw.f k x7 t133).bind fun bt146 => (if bt142.2.2.2 = 0 then (if bt142.1 = true then (if bt142.2.2.1 = true then (Qao.j5 k x1 x2 x7 x10 x11 x18 false x111000 x111001 x111002 x111003 x111004) else (if x11 = 0 then (Qao.j5 k x1 x2 x7 x10 x11 x18 (decide (bt146.1 < x10)) x111000 x111001 x111002 x111003 x111004) else (Qao.j5 k x1 x2 x7 x10 x11 x18 true x111000 x111001 x111002 x111003 x111004))) else (Qao.j5 k x1 x2 x7 x10 x11 x18 false x111000 x111001 x111002 x111003 x111004)) else (Qao.j5 k x1 x2 x7 x10 x11 x18 true x111000 x111001 x111002 x111003 x111004))))))) else (none)) else (none)) else (if (x7.length : Int) = 0 then (none) else ((Qav.f x7).bind fun t148 => ((Q7.f k t148 x111000 x111001 x111002 x111003 x111004 (Int.tmod (wrap64 (x2)) (x7.length : Int))).bind fun bt151 => ((Qav.f x7).bind fun t153 => (if 0 ≤ (Int.tmod (wrap64 (x2)) (x7.length : Int)) then (if (Int.tmod (wrap64 (x2)) (x7.length : Int)) < (t153.length : Int) then ((Qav.f (t153.set ((Int.tmod (wrap64 (x2)) (x7.length : Int)) : Int).toNat (⟨(⟨(Qf t153 (Int.tmod (wrap64 (x2)) (x7.length : Int))).f0.f0, (Qf t153 (Int.tmod (wrap64 (x2)) (x7.length : Int))).f0.f1⟩ : S24), (Qf t153 (Int.tmod (wrap64 (x2)) (x7.length : Int))).f1, (Qf t153 (Int.tmod (wrap64 (x2)) (x7.length : Int))).f2, 0⟩ : S100))).bind fun t157 => ((Jb.f k t157 x111000 x111001 x111002 x111003 x111004).bind fun bt160 => (if bt151.2 = 0 then (if bt160.2.2 = 0 then (if bt151.1 < 0 then (Qao.j6 k x7 (Int.tmod (wrap64 (x2)) (x7.length : Int)) bt151.1 bt151.2 bt160.2.1 bt160.2.2 true x111000 x111001 x111002 x111003 x111004) else (Qao.j6 k x7 (Int.tmod (wrap64 (x2)) (x7.length : Int)) bt151.1 bt151.2 bt160.2.1 bt160.2.2 (decide (bt151.1 > 500)) x111000 x111001 x111002 x111003 x111004)) else (if bt160.2.2 = 9 then (if bt151.1 < 0 then (Qao.j6 k x7 (Int.tmod (wrap64 (x2)) (x7.length : Int)) bt151.1 bt151.2 bt160.2.1 bt160.2.2 true x111000 x111001 x111002 x111003 x111004) else (Qao.j6 k x7 (Int.tmod (wrap64 (x2)) (x7.length : Int)) bt151.1 bt151.2 bt160.2.1 bt160.2.2 (decide (bt151.1 > 500)) x111000 x111001 x111002 x111003 x111004)) else (Qao.j6 k x7 (Int.tmod (wrap64 (x2)) (x7.length : Int)) bt151.1 bt151.2 bt160.2.1 bt160.2.2 true x111000 x111001 x111002 x111003 x111004))) else (if bt151.2 = 9 then (if bt151.1 = 0 then (if bt160.2.2 = 0 then (if bt151.1 < 0 then (Qao.j6 k x7 (Int.tmod (wrap64 (x2)) (x7.length : Int)) bt151.1 bt151.2 bt160.2.1 bt160.2.2 true x111000 x111001 x111002 x111003 x111004) else (Qao.j6 k x7 (Int.tmod (wrap64 (x2)) (x7.length : Int)) bt151.1 bt151.2 bt160.2.1 bt160.2.2 (decide (bt151.1 > 500)) x111000 x111001 x111002 x111003 x111004)) else (if bt160.2.2 = 9 then (if bt151.1 < 0 then (Qao.j6 k x7 (Int.tmod (wrap64 (x2)) (x7.length : Int)) bt151.1 bt151.2 bt160.2.1 bt160.2.2 true x111000 x111001 x111002 x111003 x111004) else (Qao.j6 k x7 (Int.tmod (wrap64 (x2)) (x7.length : Int)) bt151.1 bt151.2 bt160.2.1 bt160.2.2 (decide (bt151.1 > 500)) x111000 x111001 x111002 x111003 x111004)) else (Qao.j6 k x7 (Int.tmod (wrap64 (x2)) (x7.length : Int)) bt151.1 bt151.2 bt160.2.1 bt160.2.2 true x111000 x111001 x111002 x111003 x111004))) else (Qao.j6 k x7 (Int.tmod (wrap64 (x2)) (x7.length : Int)) bt151.1 bt151.2 bt160.2.1 bt160.2.2 true x111000 x111001 x111002 x111003 x111004)) else (Qao.j6 k x7 (Int.tmod (wrap64 (x2)) (x7.length : Int)) bt151.1 bt151.2 bt160.2.1 bt160.2.2 true x111000 x111001 x111002 x111003 x111004))))) else (none)) else (none))))))
def Qao.j5 : Nat → List (List Int) → Int → List S100 → Int → Int → Int → Bool → Int → Int → Int → Int → Int → Option Bool
 | 0, _, _, _, _, _, _, _, _, _, _, _, _ => none
 | k + 1, x1, x2, x7, x10, x11, x18, x154, x111000, x111001, x111002, x111003, x111004 => if x154 = true then (some false) else (Qao.l0 k x1 x2 x7 x10 x11 (wrap64 (x18 + 1)) x111000 x111001 x111002 x111003 x111004)
def Qao.j6 : Nat → List S100 → Int → Int → Int → Int → Int → Bool → Int → Int → Int → Int → Int → Option Bool
 | 0, _, _, _, _, _, _, _, _, _, _, _, _ => none
 | k + 1, x7, x26, x27, x28, x31, x32, x207, x111000, x111001, x111002, x111003, x111004 => if x207 = true then (some false) else (Qao.l1 k x7 x26 x27 x28 x31 x32 0 x111000 x111001 x111002 x111003 x111004)
def Qao.l1 : Nat → List S100 → Int → Int → Int → Int → Int → Int → Int → Int → Int → Int → Int → Option Bool
 | 0, _, _, _, _, _, _, _, _, _, _, _, _ => none
 | k + 1, x7, x26, x27, x28, x31, x32, x33, x111000, x111001, x111002, x111003, x111004 => if x33 < 2 then ((Qav.f x7).bind fun t166 => (if 0 ≤ x26 then (if x26 < (t166.length : Int) then ((some (t166.set (x26 : Int).toNat (⟨(⟨(Qf t166 x26).f0.f0, (Qf t166 x26).f0.f1⟩ : S24), wrap64 (x27 + x33), (Qf t166 x26).f2, (Qf t166 x26).f3⟩ : S100) : List S100)).bind fun y169 => (if x28 = 0 then (Qao.j8 k x7 x26 x27 x28 x31 x32 x33 y169 x111000 x111001 x111002 x111003 x111004) else (Qao.j8 k x7 x26 x27 x28 x31 x32 x33 (y169.set (x26 : Int).toNat (⟨(⟨(Qf y169 x26).f0.f0, (Qf y169 x26).f0.f1⟩ : S24), 0, (Qf y169 x26).f2, (Qf y169 x26).f3⟩ : S100)) x111000 x111001 x111002 x111003 x111004))) else (none)) else (none))) else ((Qd.f k).bind fun t165 => (some t165))
def Qao.j8 : Nat → List S100 → Int → Int → Int → Int → Int → Int → List S100 → Int → Int → Int → Int → Int → Option Bool
 | 0, _, _, _, _, _, _, _, _, _, _, _, _, _ => none
 | k + 1, x7, x26, x27, x28, x31, x32, x33, x34, x111000, x111001, x111002, x111003, x111004 => if 0 ≤ x26 then (if x26 < (x34.length : Int) then (if ((Qf x34 x26).f1) > 500 then (Qao.l1 k x7 x26 x27 x28 x31 x32 (wrap64 (x33 + 1)) x111000 x111001 x111002 x111003 x111004) else ((Qav.f x34).bind fun t172 => ((Jb.f k t172 x111000 x111001 x111002 x111003 x111004).bind fun bt175 => (if bt175.2.2 = 0 then (if x32 = 0 then (Qao.j9 k x7 x26 x27 x28 x31 x32 x33 x34 bt175.1 bt175.2.2 (decide (bt175.2.1 < x31)) x111000 x111001 x111002 x111003 x111004) else (Qao.j9 k x7 x26 x27 x28 x31 x32 x33 x34 bt175.1 bt175.2.2 true x111000 x111001 x111002 x111003 x111004)) else (Qao.j9 k x7 x26 x27 x28 x31 x32 x33 x34 bt175.1 bt175.2.2 false x111000 x111001 x111002 x111003 x111004))))) else (none)) else (none)
def Qao.j9 : Nat → List S100 → Int → Int → Int → Int → Int → Int → List S100 → List Int → Int → Bool → Int → Int → Int → Int → Int → Option Bool
 | 0, _, _, _, _, _, _, _, _, _, _, _, _, _, _, _, _ => none
 | k + 1, x7, x26, x27, x28, x31, x32, x33, x34, x35, x37, x38, x111000, x111001, x111002, x111003, x111004 => if x37 = 0 then (if x28 = 0 then (if (x38 != (x33 == 0)) = true then (Qao.j10 k x7 x26 x27 x28 x31 x32 x33 true x111000 x111001 x111002 x111003 x111004) else (if x38 = true then ((Qau.f k x34 x35).bind fun t180 => (if t180 = true then (if 0 ≤ x26 then (if x26 < (x35.length : Int) then (Qao.j10 k x7 x26 x27 x28 x31 x32 x33 ((rd x35 x26) == 0) x111000 x111001 x111002 x111003 x111004) else (none)) else (none)) else (Qao.j10 k x7 x26 x27 x28 x31 x32 x33 true x111000 x111001 x111002 x111003 x111004))) else (Qao.j10 k x7 x26 x27 x28 x31 x32 x33 false x111000 x111001 x111002 x111003 x111004))) else (if (x38 != false) = true then (Qao.j10 k x7 x26 x27 x28 x31 x32 x33 true x111000 x111001 x111002 x111003 x111004) else (if x38 = true then ((Qau.f k x34 x35).bind fun t182 => (if t182 = true then (if 0 ≤ x26 then (if x26 < (x35.length : Int) then (Qao.j10 k x7 x26 x27 x28 x31 x32 x33 ((rd x35 x26) == 0) x111000 x111001 x111002 x111003 x111004) else (none)) else (none)) else (Qao.j10 k x7 x26 x27 x28 x31 x32 x33 true x111000 x111001 x111002 x111003 x111004))) else (Qao.j10 k x7 x26 x27 x28 x31 x32 x33 false x111000 x111001 x111002 x111003 x111004)))) else (if x37 = 9 then (if x28 = 0 then (if (x38 != (x33 == 0)) = true then (Qao.j10 k x7 x26 x27 x28 x31 x32 x33 true x111000 x111001 x111002 x111003 x111004) else (if x38 = true then ((Qau.f k x34 x35).bind fun t184 => (if t184 = true then (if 0 ≤ x26 then (if x26 < (x35.length : Int) then (Qao.j10 k x7 x26 x27 x28 x31 x32 x33 ((rd x35 x26) == 0) x111000 x111001 x111002 x111003 x111004) else (none)) else (none)) else (Qao.j10 k x7 x26 x27 x28 x31 x32 x33 true x111000 x111001 x111002 x111003 x111004))) else (Qao.j10 k x7 x26 x27 x28 x31 x32 x33 false x111000 x111001 x111002 x111003 x111004))) else (if (x38 != false) = true then (Qao.j10 k x7 x26 x27 x28 x31 x32 x33 true x111000 x111001 x111002 x111003 x111004) else (if x38 = true then ((Qau.f k x34 x35).bind fun t186 => (if t186 = true then (if 0 ≤ x26 then (if x26 < (x35.length : Int) then (Qao.j10 k x7 x26 x27 x28 x31 x32 x33 ((rd x35 x26) == 0) x111000 x111001 x111002 x111003 x111004) else (none)) else (none)) else (Qao.j10 k x7 x26 x27 x28 x31 x32 x33 true x111000 x111001 x111002 x111003 x111004))) else (Qao.j10 k x7 x26 x27 x28 x31 x32 x33 false x111000 x111001 x111002 x111003 x111004)))) else (Qao.j10 k x7 x26 x27 x28 x31 x32 x33 true x111000 x111001 x111002 x111003 x111004))
def Qao.j10 : Nat → List S100 → Int → Int → Int → Int → Int → Int → Bool → Int → Int → Int → Int → Int → Option Bool
 | 0, _, _, _, _, _, _, _, _, _, _, _, _, _ => none
 | k + 1, x7, x26, x27, x28, x31, x32, x33, x283, x111000, x111001, x111002, x111003, x111004 => if x283 = true then (some false) else (Qao.l1 k x7 x26 x27 x28 x31 x32 (wrap64 (x33 + 1)) x111000 x111001 x111002 x111003 x111004)
def Qao.j1 : Nat → List (List Int) → Int → List S100 → List Int → Int → Int → Bool → Int → Int → Int → Int → Int → Option Bool
 | 0, _, _, _, _, _, _, _, _, _, _, _, _ => none
 | k + 1, x1, x2, x7, x9, x10, x11, x94, x111000, x111001, x111002, x111003, x111004 => if x94 = true then (some false) else ((Qaw.f k x7 x9).bind fun bt130 => (if bt130.1 = x10 then (Qao.j2 k x1 x2 x7 x10 x11 x111000 x111001 x111002 x111003 x111004) else (some false)))
end
def Qao.f (k : Nat) (l0_0 : List S89) (a0_1 a0_2 a0_3 a0_4 a0_5 : Int) (l1 : List (List Int)) (a2 : Int) : Option Bool := (Qaq.f k l0_0 a0_1 a0_2 a0_3 a0_4 a0_5).bind fun bt102 => ((Qav.f bt102.1).bind fun t111 => ((Jb.f k t111 bt102.2.1 bt102.2.2.1 bt102.2.2.2.1 bt102.2.2.2.2.1 bt102.2.2.2.2.2).bind fun bt114 => (if bt114.2.2 = 0 then (Qao.j0 k l1 a2 bt102.1 bt114.1 bt114.2.1 bt114.2.2 false bt102.2.1 bt102.2.2.1 bt102.2.2.2.1 bt102.2.2.2.2.1 bt102.2.2.2.2.2) else (if bt114.2.2 = 9 then (if (bt114.1.length : Int) = 0 then (Qao.j0 k l1 a2 bt102.1 bt114.1 bt114.2.1 bt114.2.2 (bt114.2.1 != 0) bt102.2.1 bt102.2.2.1 bt102.2.2.2.1 bt102.2.2.2.2.1 bt102.2.2.2.2.2) else (Qao.j0 k l1 a2 bt102.1 bt114.1 bt114.2.1 bt114.2.2 true bt102.2.1 bt102.2.2.1 bt102.2.2.2.1 bt102.2.2.2.2.1 bt102.2.2.2.2.2)) else (Qao.j0 k l1 a2 bt102.1 bt114.1 bt114.2.1 bt114.2.2 true bt102.2.1 bt102.2.2.1 bt102.2.2.2.1 bt102.2.2.2.2.1 bt102.2.2.2.2.2)))))
theorem Qao.dead_j0 : ∀ k y0 y1 y2 y3 y4 y5 y7 y8 y9 y10 y11 r, Qao.j0 k y0 y1 y2 y3 y4 y5 true y7 y8 y9 y10 y11 = some r → r = true → False := by
 intro k y0 y1 y2 y3 y4 y5 y7 y8 y9 y10 y11 r h hr
 cases k with
 | zero => simp [Qao.j0] at h
 | succ k => exact absurd ((Option.some.inj (show (some false : Option Bool) = some r from h)).trans hr) (by simp)
theorem Qao.dead_j1 : ∀ k y0 y1 y2 y3 y4 y5 y7 y8 y9 y10 y11 r, Qao.j1 k y0 y1 y2 y3 y4 y5 true y7 y8 y9 y10 y11 = some r → r = true → False := by
 intro k y0 y1 y2 y3 y4 y5 y7 y8 y9 y10 y11 r h hr
 cases k with
 | zero => simp [Qao.j1] at h
 | succ k => exact absurd ((Option.some.inj (show (some false : Option Bool) = some r from h)).trans hr) (by simp)
theorem Qao.dead_j10 : ∀ k y0 y1 y2 y3 y4 y5 y6 y8 y9 y10 y11 y12 r, Qao.j10 k y0 y1 y2 y3 y4 y5 y6 true y8 y9 y10 y11 y12 = some r → r = true → False := by
 intro k y0 y1 y2 y3 y4 y5 y6 y8 y9 y10 y11 y12 r h hr
 cases k with
 | zero => simp [Qao.j10] at h
 | succ k => exact absurd ((Option.some.inj (show (some false : Option Bool) = some r from h)).trans hr) (by simp)
theorem Qao.dead_j5 : ∀ k y0 y1 y2 y3 y4 y5 y7 y8 y9 y10 y11 r, Qao.j5 k y0 y1 y2 y3 y4 y5 true y7 y8 y9 y10 y11 = some r → r = true → False := by
 intro k y0 y1 y2 y3 y4 y5 y7 y8 y9 y10 y11 r h hr
 cases k with
 | zero => simp [Qao.j5] at h
 | succ k => exact absurd ((Option.some.inj (show (some false : Option Bool) = some r from h)).trans hr) (by simp)
theorem Qao.dead_j6 : ∀ k y0 y1 y2 y3 y4 y5 y7 y8 y9 y10 y11 r, Qao.j6 k y0 y1 y2 y3 y4 y5 true y7 y8 y9 y10 y11 = some r → r = true → False := by
 intro k y0 y1 y2 y3 y4 y5 y7 y8 y9 y10 y11 r h hr
 cases k with
 | zero => simp [Qao.j6] at h
 | succ k => exact absurd ((Option.some.inj (show (some false : Option Bool) = some r from h)).trans hr) (by simp)
def Qao.T2 : Bool × List (List Nat × List Nat) := (true, [([], []), ([0], [0]), ([], []), ([1, 2, 1], [1, 2]), ([3], [3]), ([4], [4]), ([4], [4]), ([4], [4]), ([5, 3, 0, 1, 2, 3, 4, 5], [5]), ([6, 8, 0, 1, 2, 3, 4, 5, 6, 8], [6]), ([7, 9, 0, 1, 2, 3, 4, 5, 6, 7, 8, 9], [7])])
def Qao.B2 : List Nat := [0, 1, 0, 7, 15, 31, 31, 31, 63, 383, 1023]
theorem Qao.tab2 : rtab .any (ZG Tryz.f11 2) = Qao.T2 := by kernel_rfl
theorem Qao.bits2 : J0 Qao.T2.2 Qao.B2 = true := by kernel_rfl
def Qao.T6 : Bool × List (List Nat × List Nat) := (true, [([], []), ([0], [0]), ([], []), ([], []), ([3, 1], [3]), ([1, 2, 4, 4], [1, 2, 4]), ([5], [5]), ([6], [6]), ([6], [6]), ([6], [6]), ([6], [6]), ([7, 5, 0, 1, 2, 3, 4, 5, 6, 7], [7]), ([8, 11, 0, 1, 2, 3, 4, 5, 6, 7, 8, 11], [8]), ([9, 12, 0, 1, 2, 3, 4, 5, 6, 7, 8, 9, 11, 12], [9]), ([10, 13, 0, 1, 2, 3, 4, 5, 6, 7, 8, 9, 10, 11, 12, 13], [10])])
def Qao.B6 : List Nat := [0, 1, 0, 0, 11, 31, 63, 127, 127, 127, 127, 255, 2559, 7167, 16383]
theorem Qao.tab6 : rtab .any (ZG Tryz.f11 6) = Qao.T6 := by kernel_rfl
theorem Qao.bits6 : J0 Qao.T6.2 Qao.B6 = true := by kernel_rfl
def Qao.T16 : Bool × List (List Nat × List Nat) := (true, [([], []), ([0], [0]), ([], []), ([], []), ([3, 1], [3]), ([1, 2, 4, 4], [1, 2, 4]), ([5], [5]), ([6], [6]), ([6], [6]), ([6], [6]), ([6], [6]), ([7, 5, 0, 1, 2, 3, 4, 5, 6, 7], [7]), ([8, 11, 0, 1, 2, 3, 4, 5, 6, 7, 8, 11], [8]), ([9, 12, 0, 1, 2, 3, 4, 5, 6, 7, 8, 9, 11, 12], [9]), ([10, 13, 0, 1, 2, 3, 4, 5, 6, 7, 8, 9, 10, 11, 12, 13], [10])])
def Qao.B16 : List Nat := [0, 1, 0, 0, 11, 31, 63, 127, 127, 127, 127, 255, 2559, 7167, 16383]
theorem Qao.tab16 : rtab .any (ZG Tryz.f11 16) = Qao.T16 := by kernel_rfl
theorem Qao.bits16 : J0 Qao.T16.2 Qao.B16 = true := by kernel_rfl
def Qao.T21 : Bool × List (List Nat × List Nat) := (true, [([], []), ([0], [0]), ([], []), ([], []), ([1, 2, 3, 1], [1, 2, 3]), ([4], [4]), ([5], [5]), ([5], [5]), ([6, 4, 0, 1, 2, 3, 4, 5, 6], [6]), ([7, 8, 0, 1, 2, 3, 4, 5, 6, 7, 8], [7])])
def Qao.B21 : List Nat := [0, 1, 0, 0, 15, 31, 63, 63, 127, 511]
theorem Qao.tab21 : rtab .any (ZG Tryz.f11 21) = Qao.T21 := by kernel_rfl
theorem Qao.bits21 : J0 Qao.T21.2 Qao.B21 = true := by kernel_rfl
def Qao.T24 : Bool × List (List Nat × List Nat) := (true, [([], []), ([0], [0]), ([], []), ([1, 2, 1], [1, 2]), ([3], [3]), ([4], [4]), ([4], [4]), ([4], [4]), ([5, 3, 0, 1, 2, 3, 4, 5], [5]), ([6, 8, 0, 1, 2, 3, 4, 5, 6, 8], [6]), ([7, 9, 0, 1, 2, 3, 4, 5, 6, 7, 8, 9], [7])])
def Qao.B24 : List Nat := [0, 1, 0, 7, 15, 31, 31, 31, 63, 383, 1023]
theorem Qao.tab24 : rtab .any (ZG Tryz.f11 24) = Qao.T24 := by kernel_rfl
theorem Qao.bits24 : J0 Qao.T24.2 Qao.B24 = true := by kernel_rfl
def Qao.T35 : Bool × List (List Nat × List Nat) := (true, [([], []), ([0], [0]), ([], []), ([1, 2, 1], [1, 2]), ([3], [3]), ([4], [4]), ([4], [4]), ([4], [4]), ([5, 3, 0, 1, 2, 3, 4, 5], [5]), ([6, 8, 0, 1, 2, 3, 4, 5, 6, 8], [6]), ([7, 9, 0, 1, 2, 3, 4, 5, 6, 7, 8, 9], [7])])
def Qao.B35 : List Nat := [0, 1, 0, 7, 15, 31, 31, 31, 63, 383, 1023]
theorem Qao.tab35 : rtab .any (ZG Tryz.f11 35) = Qao.T35 := by kernel_rfl
theorem Qao.bits35 : J0 Qao.T35.2 Qao.B35 = true := by kernel_rfl
set_option maxHeartbeats 8000000 in
set_option maxRecDepth 100000 in
theorem Qao.calls_true (k : Nat) (A0_0 : Option Addr) (c0_0 : Nat) (l0_0 : List S89) (a0_1 a0_2 a0_3 a0_4 a0_5 : Int) (A1 : Option Addr) (c1 : Nat) (l1 : List (List Int)) (a2 : Int) (r : Bool) (w : World) (hr0_0 : Kd.C k89 w A0_0 l0_0.length l0_0) (hc0_0 : l0_0.length ≤ c0_0) (hr1 : Kd.C (Kd.slice 5 (Kd.int .u8)) w A1 l1.length l1) (hc1 : l1.length ≤ c1) (hrt : r = true) (h : Qao.f k l0_0 a0_1 a0_2 a0_3 a0_4 a0_5 l1 a2 = some r) :
  Calls Tryz.prog 11 #[.agg #[.slice A0_0 l0_0.length c0_0, .int .u8 a0_1, .int .u8 a0_2, .int .u8 a0_3, .int .u8 a0_4, .int .u8 a0_5], .slice A1 l1.length c1, .int .u8 a2] w fun e w' => e = .returned (.bool r) ∧ Below w.heap.size w w' := by
 have hu91 := Tryz.underlying91; have hu26 := Tryz.underlying26; have HRT := Qa.mk hrt; clear hrt; have HR0_0 := Qa.mk hr0_0; have HC0_0 := Qa.mk hc0_0; clear hr0_0 hc0_0; have HR1 := Qa.mk hr1; have HC1 := Qa.mk hc1; clear hr1 hc1; have HB := Qa.mk (Below.refl w.heap.size w); have H : ((Qaq.f k l0_0 a0_1 a0_2 a0_3 a0_4 a0_5).bind fun bt102 => ((Qav.f bt102.1).bind fun t111 => ((Jb.f k t111 bt102.2.1 bt102.2.2.1 bt102.2.2.2.1 bt102.2.2.2.2.1 bt102.2.2.2.2.2).bind fun bt114 => (if bt114.2.2 = 0 then (Qao.j0 k l1 a2 bt102.1 bt114.1 bt114.2.1 bt114.2.2 false bt102.2.1 bt102.2.2.1 bt102.2.2.2.1 bt102.2.2.2.2.1 bt102.2.2.2.2.2) else (if bt114.2.2 = 9 then (if (bt114.1.length : Int) = 0 then (Qao.j0 k l1 a2 bt102.1 bt114.1 bt114.2.1 bt114.2.2 (bt114.2.1 != 0) bt102.2.1 bt102.2.2.1 bt102.2.2.2.1 bt102.2.2.2.2.1 bt102.2.2.2.2.2) else (Qao.j0 k l1 a2 bt102.1 bt114.1 bt114.2.1 bt114.2.2 true bt102.2.1 bt102.2.2.1 bt102.2.2.2.1 bt102.2.2.2.2.1 bt102.2.2.2.2.2)) else (Qao.j0 k l1 a2 bt102.1 bt114.1 bt114.2.1 bt114.2.2 true bt102.2.1 bt102.2.2.1 bt102.2.2.2.1 bt102.2.2.2.2.1 bt102.2.2.2.2.2)))))) = some r := h; clear h; obtain ⟨⟨t102, t105, t106, t107, t108, t109⟩, A4, H⟩ := bi H; obtain ⟨t111, A5, H⟩ := bi H; obtain ⟨⟨t114, t117, t118⟩, A6, H⟩ := bi H; have HC7 := Qa.mk H; clear H; go_enter Tryz.func11, Tryz.ntmps11
 try go_wp2_with (first | ((with_reducible refine gd 3 ?_); (try (refine QG (by rfl) ?_; dsimp only)); refine bx 3 #[.slice A0_0 l0_0.length c0_0, .int .u8 a0_1, .int .u8 a0_2, .int .u8 a0_3, .int .u8 a0_4, .int .u8 a0_5] 91 ?_; intro gb101 hg w8 BK101 hb; have GW101 := gs HB hg; replace HB := bs HB hb; clear hb hg; obtain ⟨hcz9_0, hcz9_1, hcz9_2, hcz9_3, hcz9_4, hcz9_5, hfz9_0, hfz9_1, hfz9_2, hfz9_3, hfz9_4, hfz9_5⟩ := cf6 BK101) | ((with_reducible refine gc 52 rfl ?_); refine gL 41 Tryz.func52 #[.agg #[.slice A0_0 l0_0.length c0_0, .int .u8 a0_1, .int .u8 a0_2, .int .u8 a0_3, .int .u8 a0_4, .int .u8 a0_5]] ?_; (with_reducible refine (Qaq.calls k _ _ l0_0 a0_1 a0_2 a0_3 a0_4 a0_5 t102 t105 t106 t107 t108 t109 _ ?side1 ?side2 A4.out).mono ?_); (case side1 => exact pC (Kd.C_below HR0_0.out HB.out)); (case side2 => exact HC0_0.out); rintro e w10 ⟨v103, rfl, ho0, hb⟩; refine ⟨_, rfl, ?_⟩; have HO104 := rl ho0 HB; replace BK101 := bb BK101 hb; replace HB := bs HB hb; clear hb ho0) | ((with_reducible refine gd 8 ?_); (try (refine QG (by rfl) ?_; dsimp only)); refine bx 8 #[.int .i64 0, .int .i64 0, .int .i64 0, .int .i64 0, .int .i64 0] 26 ?_; intro gb110 hg w11 hbox hb; replace HO104 := rb HO104 hb; have BK110 := hbox; have GW110 := gs HB hg; replace HB := bs HB hb; have NB101_110 := nl BK101 hg; have NB110_101 := nr BK101 hg; replace BK101 := bb BK101 hb; clear hb hg; have hnb12 := NB110_101.out; have hnc12 := NB101_110.out; obtain ⟨hcz13_0, hcz13_1, hcz13_2, hcz13_3, hcz13_4, hfz13_0, hfz13_1, hfz13_2, hfz13_3, hfz13_4⟩ := cf5 BK110))
 have n0_ : Qa (Kd.R k100 100 (((((w11.setCell ⟨gb110, 0, none⟩ (.int .i64 t105)).setCell ⟨gb110, 1, none⟩ (.int .i64 t106)).setCell ⟨gb110, 2, none⟩ (.int .i64 t107)).setCell ⟨gb110, 3, none⟩ (.int .i64 t108)).setCell ⟨gb110, 4, none⟩ (.int .i64 t109)) w.heap.size (fun _ => True) v103 t102) := ⟨by (with_reducible repeat (first | apply Kd.R_alloc | apply Kd.R_drewN | apply Kd.R_drew)); exact Kd.R_mono (Rf5 (g := gb110) (Kd.R_types HO104.out BK110.out (by decide))) (fun _ hk => trivial)⟩; have n1_ : Qa ((((((w11.setCell ⟨gb110, 0, none⟩ (.int .i64 t105)).setCell ⟨gb110, 1, none⟩ (.int .i64 t106)).setCell ⟨gb110, 2, none⟩ (.int .i64 t107)).setCell ⟨gb110, 3, none⟩ (.int .i64 t108)).setCell ⟨gb110, 4, none⟩ (.int .i64 t109)).heap[gb101]? = some (.cells #[.slice A0_0 l0_0.length c0_0, .int .u8 a0_1, .int .u8 a0_2, .int .u8 a0_3, .int .u8 a0_4, .int .u8 a0_5] 91 (0, 0))) := ⟨pF BK101⟩; have n2_ : Qa ((((((w11.setCell ⟨gb110, 0, none⟩ (.int .i64 t105)).setCell ⟨gb110, 1, none⟩ (.int .i64 t106)).setCell ⟨gb110, 2, none⟩ (.int .i64 t107)).setCell ⟨gb110, 3, none⟩ (.int .i64 t108)).setCell ⟨gb110, 4, none⟩ (.int .i64 t109)).heap[gb110]? = some (.cells #[.int .i64 t105, .int .i64 t106, .int .i64 t107, .int .i64 t108, .int .i64 t109] 26 (0, 0))) := ⟨by refine pB ?_; refine Qg (cs := #[.int .i64 t105, .int .i64 t106, .int .i64 t107, .int .i64 t108, .int .i64 0]) ?_ 4 _ rfl; refine pB ?_; refine Qg (cs := #[.int .i64 t105, .int .i64 t106, .int .i64 t107, .int .i64 0, .int .i64 0]) ?_ 3 _ rfl; refine pB ?_; refine Qg (cs := #[.int .i64 t105, .int .i64 t106, .int .i64 0, .int .i64 0, .int .i64 0]) ?_ 2 _ rfl; refine pB ?_; refine Qg (cs := #[.int .i64 t105, .int .i64 0, .int .i64 0, .int .i64 0, .int .i64 0]) ?_ 1 _ rfl; refine pB ?_; refine Qg (cs := #[.int .i64 0, .int .i64 0, .int .i64 0, .int .i64 0, .int .i64 0]) ?_ 0 _ rfl; (with_reducible repeat (first | refine Qt ?_ _ | refine Qh ?_ | refine Qap ?_ _)); exact BK110.out⟩; have n3_ : Qa (Below w.heap.size w (((((w11.setCell ⟨gb110, 0, none⟩ (.int .i64 t105)).setCell ⟨gb110, 1, none⟩ (.int .i64 t106)).setCell ⟨gb110, 2, none⟩ (.int .i64 t107)).setCell ⟨gb110, 3, none⟩ (.int .i64 t108)).setCell ⟨gb110, 4, none⟩ (.int .i64 t109))) := ⟨pE HB⟩
 (try clear HO104)
 (try clear BK101)
 (try clear BK110)
 (try clear HB)
 generalize (((((w11.setCell ⟨gb110, 0, none⟩ (.int .i64 t105)).setCell ⟨gb110, 1, none⟩ (.int .i64 t106)).setCell ⟨gb110, 2, none⟩ (.int .i64 t107)).setCell ⟨gb110, 3, none⟩ (.int .i64 t108)).setCell ⟨gb110, 4, none⟩ (.int .i64 t109)) = w14 at n0_ n1_ n2_ n3_ ⊢; have HO104 := n0_; have BK101 := n1_; have BK110 := n2_; have HB := n3_; clear n0_ n1_ n2_ n3_; replace HO104 := Qa.mk (Kd.R_drew HO104.out); replace BK101 := Qa.mk (Qh BK101.out); replace BK110 := Qa.mk (Qh BK110.out); replace HB := Qa.mk (QM HB.out); obtain ⟨Ao16, co16, eo16⟩ := Kd.R_slice HO104.out
 (first | subst eo16 | (injection eo16 with f1_ f2_ f3_; have f4_ := f1_.symm; have f5_ := f3_.symm; clear f1_ f2_ f3_; subst f4_; subst f5_))
 refine JS (n := 11) (S := fun w' => w'.cell? ⟨gb110, 0, none⟩ = some (.int .i64 t105) ∧ w'.cell? ⟨gb110, 1, none⟩ = some (.int .i64 t106) ∧ w'.cell? ⟨gb110, 2, none⟩ = some (.int .i64 t107) ∧ w'.cell? ⟨gb110, 3, none⟩ = some (.int .i64 t108) ∧ w'.cell? ⟨gb110, 4, none⟩ = some (.int .i64 t109)) (ds := []) #[false, false, false, false, false, false, false, false, false, false, false] (by kernel_rfl) rfl rfl ⟨cz0 BK110, cz1 BK110, cz2 BK110, cz3 BK110, cz4 BK110⟩ (fun hHeld => ?_); refine Jk Qao.tab2 Qao.bits2 (fun HT_ HW_ => ?_); generalize w14.drew = w15 at HO104 BK101 BK110 HB hHeld ⊢; refine pu 0 45 ?_; refine tk 2 47 hHeld ?_; refine on 1 (fun K hK => ?_); refine gO Tryz.func54 #[.slice Ao16 t102.length co16] ?_
 with_reducible refine (Qav.calls _ _ t102 t111 _ ?side1 ?side2 A5.out).mono ?_
 (case side1 => exact pC (Kd.R_reads' HO104.out).2.2)
 (case side2 => exact (Kd.R_reads' HO104.out).2.1)
 rintro e w17 ⟨v112, rfl, ho0, hb⟩; refine ⟨_, rfl, ?_⟩; have HO113 := Qa.mk (Kd.R_lower (Kd.R_new' ho0 (Kd.R_lt (pR HO104.out))) (Qr (pE HB))); replace HO104 := re HO104 ho0 hb; replace BK101 := bb BK101 hb; replace BK110 := bb BK110 hb; replace HB := bs HB hb
 (try clear hb)
 (try clear hb2)
 (try clear hk)
 (try clear hi)
 (try clear ho0)
 obtain ⟨Ao18, co18, eo18⟩ := Kd.R_slice HO113.out
 (first | subst eo18 | (injection eo18 with f1_ f2_ f3_; have f4_ := f1_.symm; have f5_ := f3_.symm; clear f1_ f2_ f3_; subst f4_; subst f5_))
 refine hK.out _ _ ⟨cz0 BK110, cz1 BK110, cz2 BK110, cz3 BK110, cz4 BK110⟩ (fun hHeld => ?_); clear hK K; refine QY (a' := ?_) ?_ ?_
 rotate_left
 ·
  show Act.put _ (some 46) _ = _; simp only [Act.put, List.setIfInBounds_toArray, List.set_cons_zero, List.set_cons_succ, QR, QU]; rfl
 refine on 3 (fun K hK => ?_); refine gO Tryz.func32 #[.slice Ao18 t111.length co18, .agg #[.int .i64 t105, .int .i64 t106, .int .i64 t107, .int .i64 t108, .int .i64 t109]] ?_
 with_reducible refine (Jb.calls k _ _ t111 t105 t106 t107 t108 t109 t114 t117 t118 _ ?side1 ?side2 A6.out).mono ?_
 (case side1 => exact pC (Kd.R_reads' HO113.out).2.2)
 (case side2 => exact (Kd.R_reads' HO113.out).2.1)
 rintro e w19 ⟨v115, rfl, ho0, hb⟩; refine ⟨_, rfl, ?_⟩; replace HO104 := rb HO104 hb; replace HO113 := rb HO113 hb; have HO116 := rl ho0 HB; replace BK101 := bb BK101 hb; replace BK110 := bb BK110 hb; replace HB := bs HB hb
 (try clear hb)
 (try clear hb2)
 (try clear hk)
 (try clear hi)
 (try clear ho0)
 refine hK.out _ _ ⟨cz0 BK110, cz1 BK110, cz2 BK110, cz3 BK110, cz4 BK110⟩ (fun hHeld => ?_); clear hK K; refine QY (a' := ?_) ?_ ?_
 rotate_left
 ·
  show Act.put _ (some 48) _ = _; simp only [Act.put, List.setIfInBounds_toArray, List.set_cons_zero, List.set_cons_succ, QR, QU]; rfl
 refine pu 4 44 ?_; refine pu 5 49 ?_; refine pu 6 50 ?_; refine pu 7 51 ?_; refine pu 8 9 ?_; refine pu 9 10 ?_; refine pu 10 11 ?_; refine JD (JM HT_.out (by kernel_rfl)) ?_; go_upto_region 3 with (fail)
 go_cut [66] (fun v66 wc => ∃ (kq : Nat) (x66_6 : Bool), v66 = .bool x66_6 ∧ Qa (Qao.j0 kq l1 a2 t102 t114 t117 t118 x66_6 t105 t106 t107 t108 t109 = some r) ∧ Qa (kq ≤ k) ∧ Qa (Kd.R k100 100 wc w.heap.size (fun _ => True) (.slice Ao16 t102.length co16) t102) ∧ Qa (Kd.R (Kd.int .i64) 3 wc w.heap.size (fun _ => True) v115 t114) ∧ Qa (wc.heap[gb101]? = some (.cells #[(.slice A0_0 l0_0.length c0_0), .int .u8 a0_1, .int .u8 a0_2, .int .u8 a0_3, .int .u8 a0_4, .int .u8 a0_5] 91 (0, 0))) ∧ Qa (wc.heap[gb110]? = some (.cells #[.int .i64 t105, .int .i64 t106, .int .i64 t107, .int .i64 t108, .int .i64 t109] 26 (0, 0))) ∧ Qa (Below w.heap.size w wc))
 case first =>
  have H := HC7.out; clear HC7; by_cases c20 : t118 = 0
  ·
   rw [if_pos c20] at H; have c20b0 : (t118 == 0) = true := beq_iff_eq.mpr c20; have c20b1 : (t118 != 0) = false := bne_eq_false_iff_eq.mpr c20; clear c20
   (first | rw [c20b0] | (simp only [QR, QU]; rw [c20b0]) | skip)
   have H' := Qa.mk H; clear H; go_wp2
   go_meet
   case rel => exact ⟨_, (false), eS, H', ⟨by first | omega | exact Nat.le_refl _⟩, ⟨by (with_reducible repeat (first | apply Kd.R_alloc | apply Kd.R_drewN | apply Kd.R_drew)); exact Kd.R_mono HO104.out (fun _ hk => trivial)⟩, ⟨by (with_reducible repeat (first | apply Kd.R_alloc | apply Kd.R_drewN | apply Kd.R_drew)); exact HO116.out⟩, ⟨pB BK101.out⟩, ⟨pB BK110.out⟩, ⟨pE HB⟩⟩
  ·
   rw [if_neg c20] at H; have c20b0 : (t118 == 0) = false := beq_eq_false_iff_ne.mpr c20; have c20b1 : (t118 != 0) = true := bne_iff_ne.mpr c20
   (first | rw [c20b0] | (simp only [QR, QU]; rw [c20b0]) | skip)
   by_cases c21 : t118 = 9
   ·
    rw [if_pos c21] at H; have c21b0 : (t118 == 9) = true := beq_iff_eq.mpr c21; have c21b1 : (t118 != 9) = false := bne_eq_false_iff_eq.mpr c21; clear c21; by_cases c22 : (t114.length : Int) = 0
    ·
     rw [if_pos c22] at H; have c22b0 : ((t114.length : Int) == 0) = true := beq_iff_eq.mpr c22; have c22b1 : ((t114.length : Int) != 0) = false := bne_eq_false_iff_eq.mpr c22; clear c22; have H' := Qa.mk H; clear H; obtain ⟨Ao23, co23, eo23⟩ := Kd.R_slice HO116.out; subst eo23; go_wp2
     go_meet
     case rel => exact ⟨_, ((t117 != 0)), eS, H', ⟨by first | omega | exact Nat.le_refl _⟩, ⟨by (with_reducible repeat (first | apply Kd.R_alloc | apply Kd.R_drewN | apply Kd.R_drew)); exact Kd.R_mono HO104.out (fun _ hk => trivial)⟩, ⟨by (with_reducible repeat (first | apply Kd.R_alloc | apply Kd.R_drewN | apply Kd.R_drew)); exact HO116.out⟩, ⟨pB BK101.out⟩, ⟨pB BK110.out⟩, ⟨pE HB⟩⟩
    ·
     rw [if_neg c22] at H; have c22b0 : ((t114.length : Int) == 0) = false := beq_eq_false_iff_ne.mpr c22; have c22b1 : ((t114.length : Int) != 0) = true := bne_iff_ne.mpr c22; have c22b2 : ¬ (t114 = []) := fun h_ => c22 (by rw [h_]; rfl)
     exact (Qao.dead_j0 _ _ _ _ _ _ _ _ _ _ _ _ _ H HRT.out).elim
   ·
    rw [if_neg c21] at H; have c21b0 : (t118 == 9) = false := beq_eq_false_iff_ne.mpr c21; have c21b1 : (t118 != 9) = true := bne_iff_ne.mpr c21; exact (Qao.dead_j0 _ _ _ _ _ _ _ _ _ _ _ _ _ H HRT.out).elim
 case rest =>
  as_aux_lemma =>
  clear HC7
  (try clear c1); (try clear hcz13_0); (try clear hcz13_1); (try clear hcz13_2); (try clear hcz13_3); (try clear hcz13_4); (try clear hcz9_0); (try clear hcz9_1); (try clear hcz9_2); (try clear hcz9_3); (try clear hcz9_4); (try clear hcz9_5); (try clear hfz13_0); (try clear hfz13_1); (try clear hfz13_2); (try clear hfz13_3); (try clear hfz13_4); (try clear hfz9_0); (try clear hfz9_1); (try clear hfz9_2); (try clear hfz9_3); (try clear hfz9_4); (try clear hfz9_5)
  obtain ⟨kq, x66_6, rfl, HA, HJ6, HO_7, HO_9, BK101, BK110, HB⟩ := hcut
  cases kq with
  | zero => exact absurd HA.out (by simp [Qao.j0])
  | succ kj6 =>
   have H := HA.out; clear HA; simp only [Qao.j0] at H; by_cases c24 : x66_6 = true
   ·
    subst c24; rw [if_pos rfl] at H; exact absurd ((Option.some.inj H).trans HRT.out) (by simp)
   ·
    replace c24 := Bool.eq_false_iff.mpr c24; subst c24; rw [if_neg (show ¬ (false = true) by decide)] at H; have HC25 := Qa.mk H; clear H
    go_upto_if 68 with (fail)
    go_cut [] (fun wc => ∃ (kq : Nat), Qa (Qao.j2 kq l1 a2 t102 t117 t118 t105 t106 t107 t108 t109 = some r) ∧ Qa (kq ≤ kj6) ∧ Qa (Kd.R k100 100 wc w.heap.size (fun _ => True) (.slice Ao16 t102.length co16) t102) ∧ Qa (wc.heap[gb101]? = some (.cells #[(.slice A0_0 l0_0.length c0_0), .int .u8 a0_1, .int .u8 a0_2, .int .u8 a0_3, .int .u8 a0_4, .int .u8 a0_5] 91 (0, 0))) ∧ Qa (wc.heap[gb110]? = some (.cells #[.int .i64 t105, .int .i64 t106, .int .i64 t107, .int .i64 t108, .int .i64 t109] 26 (0, 0))) ∧ Qa (Below w.heap.size w wc))
    case first =>
     have H := HC25.out; clear HC25; by_cases c26 : t118 = 0
     ·
      rw [if_pos c26] at H; have c26b0 : (t118 == 0) = true := beq_iff_eq.mpr c26; have c26b1 : (t118 != 0) = false := bne_eq_false_iff_eq.mpr c26; clear c26
      (first | rw [c26b0] | (simp only [QR, QU]; rw [c26b0]) | skip)
      obtain ⟨t119, A27, H⟩ := bi H; obtain ⟨t122, A28, H⟩ := bi H; obtain ⟨⟨t125, t126, t127, t128⟩, A29, H⟩ := bi H; have HC30 := Qa.mk H; clear H
      try go_wp2
      replace HO_7 := Qa.mk (Kd.R_drew HO_7.out); replace HO_9 := Qa.mk (Kd.R_drew HO_9.out); replace BK101 := Qa.mk (Qh BK101.out); replace BK110 := Qa.mk (Qh BK110.out); replace HB := Qa.mk (QM HB.out); refine JS (n := 15) (S := fun w' => w'.cell? ⟨gb110, 0, none⟩ = some (.int .i64 t105) ∧ w'.cell? ⟨gb110, 1, none⟩ = some (.int .i64 t106) ∧ w'.cell? ⟨gb110, 2, none⟩ = some (.int .i64 t107) ∧ w'.cell? ⟨gb110, 3, none⟩ = some (.int .i64 t108) ∧ w'.cell? ⟨gb110, 4, none⟩ = some (.int .i64 t109)) (ds := []) #[false, false, false, false, false, false, false, false, false, false, false, false, false, false, false] (by kernel_rfl) rfl rfl ⟨cz0 BK110, cz1 BK110, cz2 BK110, cz3 BK110, cz4 BK110⟩ (fun hHeld => ?_); refine Jk Qao.tab6 Qao.bits6 (fun HT_ HW_ => ?_); generalize wc.drew = w31 at HO_7 HO_9 BK101 BK110 HB hHeld ⊢; refine pu 0 70 ?_; refine pu 3 73 ?_; refine tk 2 72 hHeld ?_; refine on 1 (fun K hK => ?_); refine gO Tryz.func54 #[.slice Ao16 t102.length co16] ?_
      with_reducible refine (Qav.calls _ _ t102 t119 _ ?side1 ?side2 A27.out).mono ?_
      (case side1 => exact pC (Kd.R_reads' HO_7.out).2.2)
      (case side2 => exact (Kd.R_reads' HO_7.out).2.1)
      rintro e w32 ⟨v120, rfl, ho0, hb⟩; refine ⟨_, rfl, ?_⟩; replace HO_9 := rb HO_9 hb; have HO121 := Qa.mk (Kd.R_lower (Kd.R_new' ho0 (Kd.R_lt (pR HO_7.out))) (Qr (pE HB))); replace HO_7 := re HO_7 ho0 hb; replace BK101 := bb BK101 hb; replace BK110 := bb BK110 hb; replace HB := bs HB hb
      (try clear hb)
      (try clear hb2)
      (try clear hk)
      (try clear hi)
      (try clear ho0)
      obtain ⟨Ao33, co33, eo33⟩ := Kd.R_slice HO_9.out
      (first | subst eo33 | (injection eo33 with f1_ f2_ f3_; have f4_ := f1_.symm; have f5_ := f3_.symm; clear f1_ f2_ f3_; subst f4_; subst f5_))
      refine hK.out _ _ ⟨cz0 BK110, cz1 BK110, cz2 BK110, cz3 BK110, cz4 BK110⟩ (fun hHeld => ?_); clear hK K; refine QY (a' := ?_) ?_ ?_
      rotate_left
      ·
       show Act.put _ (some 71) _ = _; simp only [Act.put, List.setIfInBounds_toArray, List.set_cons_zero, List.set_cons_succ, QR, QU]; rfl
      refine on 4 (fun K hK => ?_); refine gO Tryz.func55 #[.slice Ao33 t114.length co33] ?_
      with_reducible refine (Qa0.calls _ _ t114 t122 _ ?side1 ?side2 A28.out).mono ?_
      (case side1 => exact pC (Kd.R_reads' HO_9.out).2.2)
      (case side2 => exact (Kd.R_reads' HO_9.out).2.1)
      rintro e w34 ⟨v123, rfl, ho0, hb⟩; refine ⟨_, rfl, ?_⟩; replace HO_7 := rb HO_7 hb; replace HO121 := rb HO121 hb; have HO124 := Qa.mk (Kd.R_lower (Kd.R_new' ho0 (Kd.R_lt (pR HO_9.out))) (Qr (pE HB))); replace HO_9 := re HO_9 ho0 hb; replace BK101 := bb BK101 hb; replace BK110 := bb BK110 hb; replace HB := bs HB hb
      (try clear hb)
      (try clear hb2)
      (try clear hk)
      (try clear hi)
      (try clear ho0)
      obtain ⟨Ao35, co35, eo35⟩ := Kd.R_slice HO121.out
      (first | subst eo35 | (injection eo35 with f1_ f2_ f3_; have f4_ := f1_.symm; have f5_ := f3_.symm; clear f1_ f2_ f3_; subst f4_; subst f5_))
      obtain ⟨Ao36, co36, eo36⟩ := Kd.R_slice HO124.out
      (first | subst eo36 | (injection eo36 with f1_ f2_ f3_; have f4_ := f1_.symm; have f5_ := f3_.symm; clear f1_ f2_ f3_; subst f4_; subst f5_))
      refine hK.out _ _ ⟨cz0 BK110, cz1 BK110, cz2 BK110, cz3 BK110, cz4 BK110⟩ (fun hHeld => ?_); clear hK K; refine QY (a' := ?_) ?_ ?_
      rotate_left
      ·
       show Act.put _ (some 74) _ = _; simp only [Act.put, List.setIfInBounds_toArray, List.set_cons_zero, List.set_cons_succ, QR, QU]; rfl
      refine on 5 (fun K hK => ?_); refine gO Tryz.func20 #[.slice Ao35 t119.length co35, .agg #[.int .i64 t105, .int .i64 t106, .int .i64 t107, .int .i64 t108, .int .i64 t109], .slice Ao36 t122.length co36] ?_
      with_reducible refine (Q0.calls kj6 _ _ t119 t105 t106 t107 t108 t109 _ _ t122 t125 t126 t127 t128 _ ?side1 ?side2 ?side3 ?side4 A29.out).mono ?_
      (case side1 => exact pC (Kd.R_reads' HO121.out).2.2)
      (case side2 => exact (Kd.R_reads' HO121.out).2.1)
      (case side3 => exact pC (Kd.R_reads' HO124.out).2.2)
      (case side4 => exact (Kd.R_reads' HO124.out).2.1)
      rintro e w37 ⟨rfl, hb⟩; refine ⟨_, rfl, ?_⟩; replace HO_7 := rb HO_7 hb; replace HO_9 := rb HO_9 hb; replace HO121 := rb HO121 hb; replace HO124 := rb HO124 hb; replace BK101 := bb BK101 hb; replace BK110 := bb BK110 hb; replace HB := bs HB hb
      (try clear hb)
      (try clear hb2)
      (try clear hk)
      (try clear hi)
      refine hK.out _ _ ⟨cz0 BK110, cz1 BK110, cz2 BK110, cz3 BK110, cz4 BK110⟩ (fun hHeld => ?_); clear hK K; refine QY (a' := ?_) ?_ ?_
      rotate_left
      ·
       show Act.put _ (some 75) _ = _; simp only [Act.put, List.setIfInBounds_toArray, List.set_cons_zero, List.set_cons_succ, QR, QU]; rfl
      refine pu 6 69 ?_; refine pu 7 76 ?_; refine pu 8 77 ?_; refine pu 9 78 ?_; refine pu 10 79 ?_; refine pu 11 12 ?_; refine pu 12 13 ?_; refine pu 13 14 ?_; refine pu 14 15 ?_; refine JD (JM HT_.out (by kernel_rfl)) ?_; go_upto_region 7 with (fail)
      go_cut [94] (fun v94 wc => ∃ (kq : Nat) (x94_29 : Bool), v94 = .bool x94_29 ∧ Qa (Qao.j1 kq l1 a2 t102 t114 t117 t118 x94_29 t105 t106 t107 t108 t109 = some r) ∧ Qa (kq ≤ kj6) ∧ Qa (Kd.R k100 100 wc w.heap.size (fun _ => True) (.slice Ao16 t102.length co16) t102) ∧ Qa (Kd.R (Kd.int .i64) 3 wc w.heap.size (fun _ => True) (.slice Ao33 t114.length co33) t114) ∧ Qa (wc.heap[gb101]? = some (.cells #[(.slice A0_0 l0_0.length c0_0), .int .u8 a0_1, .int .u8 a0_2, .int .u8 a0_3, .int .u8 a0_4, .int .u8 a0_5] 91 (0, 0))) ∧ Qa (wc.heap[gb110]? = some (.cells #[.int .i64 t105, .int .i64 t106, .int .i64 t107, .int .i64 t108, .int .i64 t109] 26 (0, 0))) ∧ Qa (Below w.heap.size w wc))
      case first =>
       have H := HC30.out; clear HC30; obtain ⟨t129, A38, H⟩ := bi H; by_cases c39 : t129 = true
       ·
        subst c39; rw [if_pos rfl] at H; by_cases c40 : t128 = 0
        ·
         rw [if_pos c40] at H; have c40b0 : (t128 == 0) = true := beq_iff_eq.mpr c40; have c40b1 : (t128 != 0) = false := bne_eq_false_iff_eq.mpr c40; clear c40
         (first | rw [c40b0] | (simp only [QR, QU]; rw [c40b0]) | skip)
         by_cases c41 : t125 = true
         ·
          subst c41; rw [if_pos rfl] at H; have H' := Qa.mk H; clear H; go_wp2_with (first | ((with_reducible refine gc 60 rfl ?_); refine gL 82 Tryz.func60 #[.slice Ao16 t102.length co16, .slice Ao33 t114.length co33] ?_; (with_reducible refine (Qau.calls kj6 _ _ t102 _ _ t114 true _ ?side1 ?side2 ?side3 ?side4 A38.out).mono ?_); (case side1 => exact pC (Kd.R_reads' HO_7.out).2.2); (case side2 => exact (Kd.R_reads' HO_7.out).2.1); (case side3 => exact pC (Kd.R_reads' HO_9.out).2.2); (case side4 => exact (Kd.R_reads' HO_9.out).2.1); rintro e w' ⟨rfl, ⟨nd, rfl⟩⟩; refine ⟨_, rfl, ?_⟩))
          go_meet
          case rel => exact ⟨_, (t127), eS, H', ⟨by have := HJ6.out; first | omega | exact Nat.le_refl _⟩, ⟨by (with_reducible repeat (first | apply Kd.R_alloc | apply Kd.R_drewN | apply Kd.R_drew)); exact Kd.R_mono HO_7.out (fun _ hk => trivial)⟩, ⟨by (with_reducible repeat (first | apply Kd.R_alloc | apply Kd.R_drewN | apply Kd.R_drew)); exact Kd.R_mono HO_9.out (fun _ hk => trivial)⟩, ⟨pB BK101.out⟩, ⟨pB BK110.out⟩, ⟨pE HB⟩⟩
         ·
          replace c41 := Bool.eq_false_iff.mpr c41; subst c41; rw [if_neg (show ¬ (false = true) by decide)] at H; exact (Qao.dead_j1 _ _ _ _ _ _ _ _ _ _ _ _ _ H HRT.out).elim
        ·
         rw [if_neg c40] at H; have c40b0 : (t128 == 0) = false := beq_eq_false_iff_ne.mpr c40; have c40b1 : (t128 != 0) = true := bne_iff_ne.mpr c40
         (first | rw [c40b0] | (simp only [QR, QU]; rw [c40b0]) | skip)
         exact (Qao.dead_j1 _ _ _ _ _ _ _ _ _ _ _ _ _ H HRT.out).elim
       ·
        replace c39 := Bool.eq_false_iff.mpr c39; subst c39; rw [if_neg (show ¬ (false = true) by decide)] at H; exact (Qao.dead_j1 _ _ _ _ _ _ _ _ _ _ _ _ _ H HRT.out).elim
      case rest =>
       as_aux_lemma =>
       clear HC30
       (try clear c24); (try clear c26b0); (try clear c26b1)
       obtain ⟨kq, x94_29, rfl, HA, HJ29, HO_7, HO_9, BK101, BK110, HB⟩ := hcut
       cases kq with
       | zero => exact absurd HA.out (by simp [Qao.j1])
       | succ kj29 =>
        have H := HA.out; clear HA; simp only [Qao.j1] at H; by_cases c42 : x94_29 = true
        ·
         subst c42; rw [if_pos rfl] at H; exact absurd ((Option.some.inj H).trans HRT.out) (by simp)
        ·
         replace c42 := Bool.eq_false_iff.mpr c42; subst c42; rw [if_neg (show ¬ (false = true) by decide)] at H; obtain ⟨⟨t130, t131⟩, A43, H⟩ := bi H; by_cases c44 : t130 = t117
         ·
          rw [if_pos c44] at H; have c44b0 : (t130 == t117) = true := beq_iff_eq.mpr c44; have c44b1 : (t130 != t117) = false := bne_eq_false_iff_eq.mpr c44; clear c44; have H' := Qa.mk H; clear H; go_wp2_with (first | ((with_reducible refine gc 59 rfl ?_); refine gL 98 Tryz.func59 #[.slice Ao16 t102.length co16, .slice Ao33 t114.length co33] ?_; (with_reducible refine (Qaw.calls kj29 _ _ t102 _ _ t114 t130 t131 _ ?side1 ?side2 ?side3 ?side4 A43.out).mono ?_); (case side1 => exact pC (Kd.R_reads' HO_7.out).2.2); (case side2 => exact (Kd.R_reads' HO_7.out).2.1); (case side3 => exact pC (Kd.R_reads' HO_9.out).2.2); (case side4 => exact (Kd.R_reads' HO_9.out).2.1); rintro e w' ⟨rfl, ⟨nd, rfl⟩⟩; refine ⟨_, rfl, ?_⟩))
          go_meet
          case rel => exact ⟨_, H', ⟨by have := HJ6.out; have := HJ29.out; first | omega | exact Nat.le_refl _⟩, ⟨by (with_reducible repeat (first | apply Kd.R_alloc | apply Kd.R_drewN | apply Kd.R_drew)); exact HO_7.out⟩, ⟨pB BK101.out⟩, ⟨pB BK110.out⟩, ⟨pE HB⟩⟩
         ·
          rw [if_neg c44] at H; have c44b0 : (t130 == t117) = false := beq_eq_false_iff_ne.mpr c44; have c44b1 : (t130 != t117) = true := bne_iff_ne.mpr c44; exact absurd ((Option.some.inj H).trans HRT.out) (by simp)
     ·
      rw [if_neg c26] at H; have c26b0 : (t118 == 0) = false := beq_eq_false_iff_ne.mpr c26; have c26b1 : (t118 != 0) = true := bne_iff_ne.mpr c26
      (first | rw [c26b0] | (simp only [QR, QU]; rw [c26b0]) | skip)
      have H' := Qa.mk H; clear H; go_wp2
      go_meet
      case rel => exact ⟨_, H', ⟨by have := HJ6.out; first | omega | exact Nat.le_refl _⟩, ⟨by (with_reducible repeat (first | apply Kd.R_alloc | apply Kd.R_drewN | apply Kd.R_drew)); exact HO_7.out⟩, ⟨pB BK101.out⟩, ⟨pB BK110.out⟩, ⟨pE HB⟩⟩
    case rest =>
     as_aux_lemma =>
     clear HC25; try clear c24
     obtain ⟨kq, HA, HJ24, HO_7, BK101, BK110, HB⟩ := hcut
     cases kq with
     | zero => exact absurd HA.out (by simp [Qao.j2])
     | succ kj24 =>
      have H := HA.out; clear HA; simp only [Qao.j2] at H; have H' := Qa.mk H; clear H; go_wp2
      go_loopg [18] kj24 (fun kq v18 w' => ∃ (x18_3 : Int), v18 = .int .i64 x18_3 ∧ Qa (Qao.l0 kq l1 a2 t102 t117 t118 x18_3 t105 t106 t107 t108 t109 = some r) ∧ Qa (kq ≤ kj24) ∧ Qa (Kd.R k100 100 w' w.heap.size (fun _ => True) (.slice Ao16 t102.length co16) t102) ∧ Qa (w'.heap[gb101]? = some (.cells #[(.slice A0_0 l0_0.length c0_0), .int .u8 a0_1, .int .u8 a0_2, .int .u8 a0_3, .int .u8 a0_4, .int .u8 a0_5] 91 (0, 0))) ∧ Qa (w'.heap[gb110]? = some (.cells #[.int .i64 t105, .int .i64 t106, .int .i64 t107, .int .i64 t108, .int .i64 t109] 26 (0, 0))) ∧ Qa (Below w.heap.size w w'))
      case atStart => exact ⟨(0), eS, H', ⟨Nat.le_refl _⟩, ⟨by (with_reducible repeat (first | apply Kd.R_alloc | apply Kd.R_drewN | apply Kd.R_drew)); exact HO_7.out⟩, ⟨pB BK101.out⟩, ⟨pB BK110.out⟩, ⟨pE HB⟩⟩
      case round =>
       as_aux_lemma =>
       clear H'; obtain ⟨x18_3, rfl, HA, HK3, HO_7, BK101, BK110, HB⟩ := hrel
       cases gk with
       | zero => exact absurd HA.out (by simp [Qao.l0])
       | succ k3 =>
        have H := HA.out; clear HA; simp only [Qao.l0] at H; have HC45 := Qa.mk H; clear H; go_upto_region 13 with (fail)
        go_cut [111] (fun v111 wc => ∃ (kq : Nat) (x111_44 : Bool), v111 = .bool x111_44 ∧ Qa (Qao.j4 kq l1 a2 t102 t117 t118 x18_3 x111_44 t105 t106 t107 t108 t109 = some r) ∧ Qa (kq ≤ k3) ∧ Qa (Kd.R k100 100 wc w.heap.size (fun _ => True) (.slice Ao16 t102.length co16) t102) ∧ Qa (wc.heap[gb101]? = some (.cells #[(.slice A0_0 l0_0.length c0_0), .int .u8 a0_1, .int .u8 a0_2, .int .u8 a0_3, .int .u8 a0_4, .int .u8 a0_5] 91 (0, 0))) ∧ Qa (wc.heap[gb110]? = some (.cells #[.int .i64 t105, .int .i64 t106, .int .i64 t107, .int .i64 t108, .int .i64 t109] 26 (0, 0))) ∧ Qa (Below w.heap.size w wc))
        case first =>
         have H := HC45.out; clear HC45; by_cases c46 : x18_3 < (l1.length : Int)
         ·
          rw [if_pos c46] at H; have c46b0 : decide (x18_3 < (l1.length : Int)) = true := decide_eq_true c46; clear c46
          (first | rw [c46b0] | (simp only [QR, QU]; rw [c46b0]) | skip)
          have H' := Qa.mk H; clear H; go_wp2
          go_meet
          case rel => exact ⟨_, (decide (x18_3 < 12)), eS, H', ⟨by have := HJ6.out; have := HJ24.out; have := HK3.out; first | omega | exact Nat.le_refl _⟩, ⟨by (with_reducible repeat (first | apply Kd.R_alloc | apply Kd.R_drewN | apply Kd.R_drew)); exact HO_7.out⟩, ⟨pB BK101.out⟩, ⟨pB BK110.out⟩, ⟨pE HB⟩⟩
         ·
          rw [if_neg c46] at H; have c46b0 : decide (x18_3 < (l1.length : Int)) = false := decide_eq_false c46; clear c46
          (first | rw [c46b0] | (simp only [QR, QU]; rw [c46b0]) | skip)
          have H' := Qa.mk H; clear H; go_wp2
          go_meet
          case rel => exact ⟨_, (false), eS, H', ⟨by have := HJ6.out; have := HJ24.out; have := HK3.out; first | omega | exact Nat.le_refl _⟩, ⟨by (with_reducible repeat (first | apply Kd.R_alloc | apply Kd.R_drewN | apply Kd.R_drew)); exact HO_7.out⟩, ⟨pB BK101.out⟩, ⟨pB BK110.out⟩, ⟨pE HB⟩⟩
        case rest =>
         as_aux_lemma =>
         clear HC45; obtain ⟨kq, x111_44, rfl, HA, HJ44, HO_7, BK101, BK110, HB⟩ := hcut
         cases kq with
         | zero => exact absurd HA.out (by simp [Qao.j4])
         | succ kj44 =>
          have H := HA.out; clear HA; simp only [Qao.j4] at H; by_cases c47 : x111_44 = true
          ·
           subst c47; rw [if_pos rfl] at H; by_cases c48 : 0 ≤ x18_3
           ·
            rw [if_pos c48] at H; have c48b0 : decide (0 ≤ x18_3) = true := decide_eq_true c48; clear c48; by_cases c49 : x18_3 < (l1.length : Int)
            ·
             rw [if_pos c49] at H; have c49b0 : decide (x18_3 < (l1.length : Int)) = true := decide_eq_true c49; clear c49; obtain ⟨t133, A50, H⟩ := bi H; obtain ⟨t136, A51, H⟩ := bi H; obtain ⟨t139, A52, H⟩ := bi H; obtain ⟨⟨t142, t143, t144, t145⟩, A53, H⟩ := bi H; obtain ⟨⟨t146, t147⟩, A54, H⟩ := bi H; have HC55 := Qa.mk H; clear H; have p132 : 0 ≤ (x18_3 : Int) := dT; have q132 : x18_3 < (l1.length : Int) := dT; obtain ⟨ad132, A132_0, c132_0, e132, hx132_0, hl132_0, hi132_0⟩ := at_L12 HR1.out x18_3 p132 q132
             cases e132
             replace hx132_0 := cut_ HB hx132_0; have HR132_0 := Qa.mk hi132_0; have HC132_0 := Qa.mk hl132_0; clear hi132_0 hl132_0; replace p132 := eq_true p132; replace q132 := eq_true q132
             try go_wp2_with (first | ((with_reducible refine gc 53 rfl ?_); refine gL 119 Tryz.func53 #[.slice Ao16 t102.length co16, .slice A132_0 (Qbe l1 x18_3).length c132_0] ?_; (with_reducible refine (Qar.calls kj44 _ _ t102 _ _ (Qbe l1 x18_3) t133 _ ?side1 ?side2 ?side3 ?side4 A50.out).mono ?_); (case side1 => exact pC (Kd.R_reads' HO_7.out).2.2); (case side2 => exact (Kd.R_reads' HO_7.out).2.1); (case side3 => exact pC (Kd.C_below HR132_0.out HB.out)); (case side4 => exact HC132_0.out); rintro e w56 ⟨v134, rfl, ho0, hb⟩; refine ⟨_, rfl, ?_⟩; replace HO_7 := rb HO_7 hb; have HO135 := rl ho0 HB; replace BK101 := bb BK101 hb; replace BK110 := bb BK110 hb; replace HB := bs HB hb; clear hb ho0))
             replace HO_7 := Qa.mk (Kd.R_drew HO_7.out); replace HO135 := Qa.mk (Kd.R_drew HO135.out); replace BK101 := Qa.mk (Qh BK101.out); replace BK110 := Qa.mk (Qh BK110.out); replace HB := Qa.mk (QM HB.out); refine JS (n := 15) (S := fun w' => w'.cell? ⟨gb110, 0, none⟩ = some (.int .i64 t105) ∧ w'.cell? ⟨gb110, 1, none⟩ = some (.int .i64 t106) ∧ w'.cell? ⟨gb110, 2, none⟩ = some (.int .i64 t107) ∧ w'.cell? ⟨gb110, 3, none⟩ = some (.int .i64 t108) ∧ w'.cell? ⟨gb110, 4, none⟩ = some (.int .i64 t109)) (ds := []) #[false, false, false, false, false, false, false, false, false, false, false, false, false, false, false] (by kernel_rfl) rfl rfl ⟨cz0 BK110, cz1 BK110, cz2 BK110, cz3 BK110, cz4 BK110⟩ (fun hHeld => ?_); refine Jk Qao.tab16 Qao.bits16 (fun HT_ HW_ => ?_); generalize w56.drew = w57 at HO_7 HO135 BK101 BK110 HB hHeld ⊢; refine pu 0 121 ?_; refine pu 3 124 ?_; refine tk 2 123 hHeld ?_; refine on 1 (fun K hK => ?_); refine gO Tryz.func54 #[.slice Ao16 t102.length co16] ?_
             with_reducible refine (Qav.calls _ _ t102 t136 _ ?side1 ?side2 A51.out).mono ?_
             (case side1 => exact pC (Kd.R_reads' HO_7.out).2.2)
             (case side2 => exact (Kd.R_reads' HO_7.out).2.1)
             rintro e w58 ⟨v137, rfl, ho0, hb⟩; refine ⟨_, rfl, ?_⟩; replace HO135 := rb HO135 hb; have HO138 := Qa.mk (Kd.R_lower (Kd.R_new' ho0 (Kd.R_lt (pR HO_7.out))) (Qr (pE HB))); replace HO_7 := re HO_7 ho0 hb; replace BK101 := bb BK101 hb; replace BK110 := bb BK110 hb; replace HB := bs HB hb
             (try clear hb)
             (try clear hb2)
             (try clear hk)
             (try clear hi)
             (try clear ho0)
             obtain ⟨Ao59, co59, eo59⟩ := Kd.R_slice HO135.out
             (first | subst eo59 | (injection eo59 with f1_ f2_ f3_; have f4_ := f1_.symm; have f5_ := f3_.symm; clear f1_ f2_ f3_; subst f4_; subst f5_))
             refine hK.out _ _ ⟨cz0 BK110, cz1 BK110, cz2 BK110, cz3 BK110, cz4 BK110⟩ (fun hHeld => ?_); clear hK K; refine QY (a' := ?_) ?_ ?_
             rotate_left
             ·
              show Act.put _ (some 122) _ = _; simp only [Act.put, List.setIfInBounds_toArray, List.set_cons_zero, List.set_cons_succ, QR, QU]; rfl
             refine on 4 (fun K hK => ?_); refine gO Tryz.func55 #[.slice Ao59 t133.length co59] ?_
             with_reducible refine (Qa0.calls _ _ t133 t139 _ ?side1 ?side2 A52.out).mono ?_
             (case side1 => exact pC (Kd.R_reads' HO135.out).2.2)
             (case side2 => exact (Kd.R_reads' HO135.out).2.1)
             rintro e w60 ⟨v140, rfl, ho0, hb⟩; refine ⟨_, rfl, ?_⟩; replace HO_7 := rb HO_7 hb; replace HO138 := rb HO138 hb; have HO141 := Qa.mk (Kd.R_lower (Kd.R_new' ho0 (Kd.R_lt (pR HO135.out))) (Qr (pE HB))); replace HO135 := re HO135 ho0 hb; replace BK101 := bb BK101 hb; replace BK110 := bb BK110 hb; replace HB := bs HB hb
             (try clear hb)
             (try clear hb2)
             (try clear hk)
             (try clear hi)
             (try clear ho0)
             obtain ⟨Ao61, co61, eo61⟩ := Kd.R_slice HO138.out
             (first | subst eo61 | (injection eo61 with f1_ f2_ f3_; have f4_ := f1_.symm; have f5_ := f3_.symm; clear f1_ f2_ f3_; subst f4_; subst f5_))
             obtain ⟨Ao62, co62, eo62⟩ := Kd.R_slice HO141.out
             (first | subst eo62 | (injection eo62 with f1_ f2_ f3_; have f4_ := f1_.symm; have f5_ := f3_.symm; clear f1_ f2_ f3_; subst f4_; subst f5_))
             refine hK.out _ _ ⟨cz0 BK110, cz1 BK110, cz2 BK110, cz3 BK110, cz4 BK110⟩ (fun hHeld => ?_); clear hK K; refine QY (a' := ?_) ?_ ?_
             rotate_left
             ·
              show Act.put _ (some 125) _ = _; simp only [Act.put, List.setIfInBounds_toArray, List.set_cons_zero, List.set_cons_succ, QR, QU]; rfl
             refine on 5 (fun K hK => ?_); refine gO Tryz.func20 #[.slice Ao61 t136.length co61, .agg #[.int .i64 t105, .int .i64 t106, .int .i64 t107, .int .i64 t108, .int .i64 t109], .slice Ao62 t139.length co62] ?_
             with_reducible refine (Q0.calls kj44 _ _ t136 t105 t106 t107 t108 t109 _ _ t139 t142 t143 t144 t145 _ ?side1 ?side2 ?side3 ?side4 A53.out).mono ?_
             (case side1 => exact pC (Kd.R_reads' HO138.out).2.2)
             (case side2 => exact (Kd.R_reads' HO138.out).2.1)
             (case side3 => exact pC (Kd.R_reads' HO141.out).2.2)
             (case side4 => exact (Kd.R_reads' HO141.out).2.1)
             rintro e w63 ⟨rfl, hb⟩; refine ⟨_, rfl, ?_⟩; replace HO_7 := rb HO_7 hb; replace HO135 := rb HO135 hb; replace HO138 := rb HO138 hb; replace HO141 := rb HO141 hb; replace BK101 := bb BK101 hb; replace BK110 := bb BK110 hb; replace HB := bs HB hb
             (try clear hb)
             (try clear hb2)
             (try clear hk)
             (try clear hi)
             refine hK.out _ _ ⟨cz0 BK110, cz1 BK110, cz2 BK110, cz3 BK110, cz4 BK110⟩ (fun hHeld => ?_); clear hK K; refine QY (a' := ?_) ?_ ?_
             rotate_left
             ·
              show Act.put _ (some 126) _ = _; simp only [Act.put, List.setIfInBounds_toArray, List.set_cons_zero, List.set_cons_succ, QR, QU]; rfl
             refine pu 6 120 ?_; refine pu 7 127 ?_; refine pu 8 128 ?_; refine pu 9 129 ?_; refine pu 10 130 ?_; refine pu 11 20 ?_; refine pu 12 21 ?_; refine pu 13 22 ?_; refine pu 14 23 ?_; refine JD (JM HT_.out (by kernel_rfl)) ?_; go_upto_region 18 with (first | ((with_reducible refine gc 59 rfl ?_); refine gL 134 Tryz.func59 #[.slice Ao16 t102.length co16, .slice Ao59 t133.length co59] ?_; (with_reducible refine (Qaw.calls kj44 _ _ t102 _ _ t133 t146 t147 _ ?side1 ?side2 ?side3 ?side4 A54.out).mono ?_); (case side1 => exact pC (Kd.R_reads' HO_7.out).2.2); (case side2 => exact (Kd.R_reads' HO_7.out).2.1); (case side3 => exact pC (Kd.R_reads' HO135.out).2.2); (case side4 => exact (Kd.R_reads' HO135.out).2.1); rintro e w' ⟨rfl, ⟨nd, rfl⟩⟩; refine ⟨_, rfl, ?_⟩))
             (try simp only [Act.put, List.setIfInBounds_toArray, List.set_cons_zero, List.set_cons_succ])
             go_cut [154] (fun v154 wc => ∃ (kq : Nat) (x154_54 : Bool), v154 = .bool x154_54 ∧ Qa (Qao.j5 kq l1 a2 t102 t117 t118 x18_3 x154_54 t105 t106 t107 t108 t109 = some r) ∧ Qa (kq ≤ kj44) ∧ Qa (Kd.R k100 100 wc w.heap.size (fun _ => True) (.slice Ao16 t102.length co16) t102) ∧ Qa (wc.heap[gb101]? = some (.cells #[(.slice A0_0 l0_0.length c0_0), .int .u8 a0_1, .int .u8 a0_2, .int .u8 a0_3, .int .u8 a0_4, .int .u8 a0_5] 91 (0, 0))) ∧ Qa (wc.heap[gb110]? = some (.cells #[.int .i64 t105, .int .i64 t106, .int .i64 t107, .int .i64 t108, .int .i64 t109] 26 (0, 0))) ∧ Qa (Below w.heap.size w wc))
             case first =>
              have H := HC55.out; clear HC55; by_cases c64 : t145 = 0
              ·
               rw [if_pos c64] at H; have c64b0 : (t145 == 0) = true := beq_iff_eq.mpr c64; have c64b1 : (t145 != 0) = false := bne_eq_false_iff_eq.mpr c64; clear c64
               (first | rw [c64b0] | (simp only [QR, QU]; rw [c64b0]) | skip)
               by_cases c65 : t142 = true
               ·
                subst c65; rw [if_pos rfl] at H; by_cases c66 : t144 = true
                ·
                 subst c66; rw [if_pos rfl] at H; have H' := Qa.mk H; clear H; go_wp2
                 go_meet
                 case rel => exact ⟨_, (false), eS, H', ⟨by have := HJ6.out; have := HJ24.out; have := HK3.out; have := HJ44.out; first | omega | exact Nat.le_refl _⟩, ⟨by (with_reducible repeat (first | apply Kd.R_alloc | apply Kd.R_drewN | apply Kd.R_drew)); exact Kd.R_mono HO_7.out (fun _ hk => trivial)⟩, ⟨pB BK101.out⟩, ⟨pB BK110.out⟩, ⟨pE HB⟩⟩
                ·
                 replace c66 := Bool.eq_false_iff.mpr c66; subst c66; rw [if_neg (show ¬ (false = true) by decide)] at H; by_cases c67 : t118 = 0
                 ·
                  rw [if_pos c67] at H; have c67b0 : (t118 == 0) = true := beq_iff_eq.mpr c67; have c67b1 : (t118 != 0) = false := bne_eq_false_iff_eq.mpr c67; clear c67; have H' := Qa.mk H; clear H; go_wp2
                  go_meet
                  case rel => exact ⟨_, (decide (t146 < t117)), eS, H', ⟨by have := HJ6.out; have := HJ24.out; have := HK3.out; have := HJ44.out; first | omega | exact Nat.le_refl _⟩, ⟨by (with_reducible repeat (first | apply Kd.R_alloc | apply Kd.R_drewN | apply Kd.R_drew)); exact Kd.R_mono HO_7.out (fun _ hk => trivial)⟩, ⟨pB BK101.out⟩, ⟨pB BK110.out⟩, ⟨pE HB⟩⟩
                 ·
                  rw [if_neg c67] at H; have c67b0 : (t118 == 0) = false := beq_eq_false_iff_ne.mpr c67; have c67b1 : (t118 != 0) = true := bne_iff_ne.mpr c67; exact (Qao.dead_j5 _ _ _ _ _ _ _ _ _ _ _ _ _ H HRT.out).elim
               ·
                replace c65 := Bool.eq_false_iff.mpr c65; subst c65; rw [if_neg (show ¬ (false = true) by decide)] at H; have H' := Qa.mk H; clear H; go_wp2
                go_meet
                case rel => exact ⟨_, (false), eS, H', ⟨by have := HJ6.out; have := HJ24.out; have := HK3.out; have := HJ44.out; first | omega | exact Nat.le_refl _⟩, ⟨by (with_reducible repeat (first | apply Kd.R_alloc | apply Kd.R_drewN | apply Kd.R_drew)); exact Kd.R_mono HO_7.out (fun _ hk => trivial)⟩, ⟨pB BK101.out⟩, ⟨pB BK110.out⟩, ⟨pE HB⟩⟩
              ·
               rw [if_neg c64] at H; have c64b0 : (t145 == 0) = false := beq_eq_false_iff_ne.mpr c64; have c64b1 : (t145 != 0) = true := bne_iff_ne.mpr c64
               (first | rw [c64b0] | (simp only [QR, QU]; rw [c64b0]) | skip)
               exact (Qao.dead_j5 _ _ _ _ _ _ _ _ _ _ _ _ _ H HRT.out).elim
             case rest =>
              as_aux_lemma =>
              clear HC55
              (try clear c47); (try clear c48b0); (try clear c49b0); (try clear hx132_0); (try clear p132); (try clear q132)
              obtain ⟨kq, x154_54, rfl, HA, HJ54, HO_7, BK101, BK110, HB⟩ := hcut
              cases kq with
              | zero => exact absurd HA.out (by simp [Qao.j5])
              | succ kj54 =>
               have H := HA.out; clear HA; simp only [Qao.j5] at H; by_cases c68 : x154_54 = true
               ·
                subst c68; rw [if_pos rfl] at H; exact absurd ((Option.some.inj H).trans HRT.out) (by simp)
               ·
                replace c68 := Bool.eq_false_iff.mpr c68; subst c68; rw [if_neg (show ¬ (false = true) by decide)] at H; have H' := Qa.mk H; clear H; go_wp2
                go_roundg kj54
                case measure => have := HJ6.out; have := HJ24.out; have := HK3.out; have := HJ44.out; have := HJ54.out; omega
                case rel => exact ⟨(wrap64 (x18_3 + 1)), eS, H', ⟨by have := HJ6.out; have := HJ24.out; have := HK3.out; have := HJ44.out; have := HJ54.out; omega⟩, ⟨by (with_reducible repeat (first | apply Kd.R_alloc | apply Kd.R_drewN | apply Kd.R_drew)); exact HO_7.out⟩, ⟨pB BK101.out⟩, ⟨pB BK110.out⟩, ⟨pE HB⟩⟩
            ·
             rw [if_neg c49] at H; exact absurd H (by simp)
           ·
            rw [if_neg c48] at H; exact absurd H (by simp)
          ·
           replace c47 := Bool.eq_false_iff.mpr c47; subst c47; rw [if_neg (show ¬ (false = true) by decide)] at H; by_cases c69 : (t102.length : Int) = 0
           ·
            rw [if_pos c69] at H; exact absurd H (by simp)
           ·
            rw [if_neg c69] at H; have c69b0 : ((t102.length : Int) == 0) = false := beq_eq_false_iff_ne.mpr c69; have c69b1 : ((t102.length : Int) != 0) = true := bne_iff_ne.mpr c69; have c69b2 : ¬ (t102 = []) := fun h_ => c69 (by rw [h_]; rfl)
            obtain ⟨t148, A70, H⟩ := bi H; obtain ⟨⟨t151, t152⟩, A71, H⟩ := bi H; obtain ⟨t153, A72, H⟩ := bi H; obtain ⟨ji73, hji73⟩ : ∃ j_ : Int, (Int.tmod (wrap64 (a2)) (t102.length : Int)) = j_ := ⟨_, rfl⟩
            replace H : (if 0 ≤ (ji73) then (if (ji73) < (t153.length : Int) then ((Qav.f (t153.set ((ji73) : Int).toNat (⟨(⟨(Qf t153 (ji73)).f0.f0, (Qf t153 (ji73)).f0.f1⟩ : S24), (Qf t153 (ji73)).f1, (Qf t153 (ji73)).f2, 0⟩ : S100))).bind fun t157 => ((Jb.f kj44 t157 t105 t106 t107 t108 t109).bind fun bt160 => (if t152 = 0 then (if bt160.2.2 = 0 then (if t151 < 0 then (Qao.j6 kj44 t102 ji73 t151 t152 bt160.2.1 bt160.2.2 true t105 t106 t107 t108 t109) else (Qao.j6 kj44 t102 ji73 t151 t152 bt160.2.1 bt160.2.2 (decide (t151 > 500)) t105 t106 t107 t108 t109)) else (if bt160.2.2 = 9 then (if t151 < 0 then (Qao.j6 kj44 t102 ji73 t151 t152 bt160.2.1 bt160.2.2 true t105 t106 t107 t108 t109) else (Qao.j6 kj44 t102 ji73 t151 t152 bt160.2.1 bt160.2.2 (decide (t151 > 500)) t105 t106 t107 t108 t109)) else (Qao.j6 kj44 t102 ji73 t151 t152 bt160.2.1 bt160.2.2 true t105 t106 t107 t108 t109))) else (if t152 = 9 then (if t151 = 0 then (if bt160.2.2 = 0 then (if t151 < 0 then (Qao.j6 kj44 t102 ji73 t151 t152 bt160.2.1 bt160.2.2 true t105 t106 t107 t108 t109) else (Qao.j6 kj44 t102 ji73 t151 t152 bt160.2.1 bt160.2.2 (decide (t151 > 500)) t105 t106 t107 t108 t109)) else (if bt160.2.2 = 9 then (if t151 < 0 then (Qao.j6 kj44 t102 ji73 t151 t152 bt160.2.1 bt160.2.2 true t105 t106 t107 t108 t109) else (Qao.j6 kj44 t102 ji73 t151 t152 bt160.2.1 bt160.2.2 (decide (t151 > 500)) t105 t106 t107 t108 t109)) else (Qao.j6 kj44 t102 ji73 t151 t152 bt160.2.1 bt160.2.2 true t105 t106 t107 t108 t109))) else (Qao.j6 kj44 t102 ji73 t151 t152 bt160.2.1 bt160.2.2 true t105 t106 t107 t108 t109)) else (Qao.j6 kj44 t102 ji73 t151 t152 bt160.2.1 bt160.2.2 true t105 t106 t107 t108 t109))))) else (none)) else (none)) = some r := by first | (rw [hji73] at H; exact H) | (simp only [hji73] at H ⊢; exact H)
            (try rw [hji73] at A70)
            (try rw [hji73] at A71)
            (try rw [hji73] at A72)
            by_cases c74 : 0 ≤ (ji73)
            ·
             rw [if_pos c74] at H; have c74b0 : decide (0 ≤ (ji73)) = true := decide_eq_true c74; clear c74; by_cases c75 : (ji73) < (t153.length : Int)
             ·
              rw [if_pos c75] at H; have c75b0 : decide ((ji73) < (t153.length : Int)) = true := decide_eq_true c75; clear c75; obtain ⟨y156, hy156⟩ : ∃ y_ : List S100, y_ = (t153.set ((ji73) : Int).toNat (⟨(⟨(Qf t153 (ji73)).f0.f0, (Qf t153 (ji73)).f0.f1⟩ : S24), (Qf t153 (ji73)).f1, (Qf t153 (ji73)).f2, 0⟩ : S100)) := ⟨_, rfl⟩
              replace H : Option.bind (Qav.f y156) _ = some r := yy hy156 H; have Ny156 := Qa.mk hy156; clear hy156; obtain ⟨t157, A77, H⟩ := bi H; obtain ⟨⟨t160, t163, t164⟩, A78, H⟩ := bi H; have HC79 := Qa.mk H; clear H
              try go_wp2
              replace HO_7 := Qa.mk (Kd.R_drew HO_7.out); replace BK101 := Qa.mk (Qh BK101.out); replace BK110 := Qa.mk (Qh BK110.out); replace HB := Qa.mk (QM HB.out); refine JS (n := 10) (S := fun w' => w'.cell? ⟨gb110, 0, none⟩ = some (.int .i64 t105) ∧ w'.cell? ⟨gb110, 1, none⟩ = some (.int .i64 t106) ∧ w'.cell? ⟨gb110, 2, none⟩ = some (.int .i64 t107) ∧ w'.cell? ⟨gb110, 3, none⟩ = some (.int .i64 t108) ∧ w'.cell? ⟨gb110, 4, none⟩ = some (.int .i64 t109)) (ds := []) #[false, false, false, false, false, false, false, false, false, false] (by kernel_rfl) rfl rfl ⟨cz0 BK110, cz1 BK110, cz2 BK110, cz3 BK110, cz4 BK110⟩ (fun hHeld => ?_); refine Jk Qao.tab21 Qao.bits21 (fun HT_ HW_ => ?_); generalize wc.drew = w80 at HO_7 BK101 BK110 HB hHeld ⊢; refine pu 0 161 ?_; refine pu 3 164 ?_; refine tk 2 163 hHeld ?_; refine on 1 (fun K hK => ?_); refine gO Tryz.func54 #[.slice Ao16 t102.length co16] ?_
              with_reducible refine (Qav.calls _ _ t102 t148 _ ?side1 ?side2 A70.out).mono ?_
              (case side1 => exact pC (Kd.R_reads' HO_7.out).2.2)
              (case side2 => exact (Kd.R_reads' HO_7.out).2.1)
              rintro e w81 ⟨v149, rfl, ho0, hb⟩; refine ⟨_, rfl, ?_⟩; have HO150 := Qa.mk (Kd.R_lower (Kd.R_new' ho0 (Kd.R_lt (pR HO_7.out))) (Qr (pE HB))); replace HO_7 := re HO_7 ho0 hb; replace BK101 := bb BK101 hb; replace BK110 := bb BK110 hb; replace HB := bs HB hb
              (try clear hb)
              (try clear hb2)
              (try clear hk)
              (try clear hi)
              (try clear ho0)
              obtain ⟨Ao82, co82, eo82⟩ := Kd.R_slice HO150.out
              (first | subst eo82 | (injection eo82 with f1_ f2_ f3_; have f4_ := f1_.symm; have f5_ := f3_.symm; clear f1_ f2_ f3_; subst f4_; subst f5_))
              refine hK.out _ _ ⟨cz0 BK110, cz1 BK110, cz2 BK110, cz3 BK110, cz4 BK110⟩ (fun hHeld => ?_); clear hK K; refine QY (a' := ?_) ?_ ?_
              rotate_left
              ·
               show Act.put _ (some 162) _ = _; simp only [Act.put, List.setIfInBounds_toArray, List.set_cons_zero, List.set_cons_succ, QR, QU]; rfl
              refine on 4 (fun K hK => ?_); refine Xx Tryz.func35 (by kernel_rfl) rfl #[.slice Ao82 t148.length co82, .agg #[.int .i64 t105, .int .i64 t106, .int .i64 t107, .int .i64 t108, .int .i64 t109], .int .i64 ji73] (by rfl) rfl rfl (by (try simp only [List.map_toArray, List.map_cons, List.map_nil]); first | done | (simp only [hji73]; rfl) | rfl | (simp only [List.length_drop, List.length_take]; rfl)) ?_
              with_reducible refine (Q7.calls kj44 _ _ t148 t105 t106 t107 t108 t109 ji73 t151 t152 _ ?side1 ?side2 A71.out).mono ?_
              (case side1 => exact pC (Kd.R_reads' HO150.out).2.2)
              (case side2 => exact (Kd.R_reads' HO150.out).2.1)
              rintro e w83 ⟨rfl, hb⟩; refine ⟨_, rfl, ?_⟩; replace HO_7 := rb HO_7 hb; replace HO150 := rb HO150 hb; replace BK101 := bb BK101 hb; replace BK110 := bb BK110 hb; replace HB := bs HB hb
              (try clear hb)
              (try clear hb2)
              (try clear hk)
              (try clear hi)
              refine hK.out _ _ ⟨cz0 BK110, cz1 BK110, cz2 BK110, cz3 BK110, cz4 BK110⟩ (fun hHeld => ?_); clear hK K; refine QY (a' := ?_) ?_ ?_
              rotate_left
              ·
               show Act.put _ (some 165) _ = _; simp only [Act.put, List.setIfInBounds_toArray, List.set_cons_zero, List.set_cons_succ, QR, QU]; rfl
              refine pu 5 160 ?_; refine pu 6 166 ?_; refine pu 7 167 ?_; refine pu 8 27 ?_; refine pu 9 28 ?_; refine JD (JM HT_.out (by kernel_rfl)) ?_
              try go_wp2_with (first | ((with_reducible refine gc 54 rfl ?_); refine gL 169 Tryz.func54 #[.slice Ao16 t102.length co16] ?_; (with_reducible refine (Qav.calls _ _ t102 t153 _ ?side1 ?side2 A72.out).mono ?_); (case side1 => exact pC (Kd.R_reads' HO_7.out).2.2); (case side2 => exact (Kd.R_reads' HO_7.out).2.1); rintro e w84 ⟨v154, rfl, ho0, hb⟩; refine ⟨_, rfl, ?_⟩; have HO155 := Qa.mk (Kd.R_lower (Kd.R_new' (Kd.R_new' ho0 (Kd.R_lt (pR HO_7.out))) (Kd.R_lt (pR HO150.out))) (Qr (pE HB))); replace HO_7 := re HO_7 ho0 hb; replace HO150 := re HO150 ho0 hb; replace BK101 := bb BK101 hb; replace BK110 := bb BK110 hb; replace HB := bs HB hb; clear hb ho0; have p76 : 0 ≤ ((ji73) : Int) := dT; have q76 : ((ji73) : Int) < ((t153.length : Int) : Int) := dT; obtain ⟨go76, co76, eo76, gb76, gl76, cl76, HG76⟩ := Kd.R_form HO155.out (by omega); (first | cases eo76 | (injection eo76 with ea_ en_ ec_; (first | subst ea_ | (injection ea_ with ea_; subst ea_)); subst ec_; clear en_)); have GB76 := Qa.mk gb76; have GG76 := Qa.mk HG76; clear gb76 gl76 HG76; obtain ⟨ce76, hcl76, hM76, hcc76, hfr76⟩ := Kd.R_elem HO155.out z100 ((ji73) : Int) p76 q76; obtain rfl := ZH hM76; have hx76_0 : w84.cell? ⟨go76, ((ji73) : Int).toNat * 5, none⟩ = some (.int .i64 ((Qf t153 (ji73)).f0.f0)) := hcc76 0 _ rfl; have hx76_1 : w84.cell? ⟨go76, ((ji73) : Int).toNat * 5 + 1, none⟩ = some (.int .i64 ((Qf t153 (ji73)).f0.f1)) := hcc76 1 _ rfl; have hx76_2 : w84.cell? ⟨go76, ((ji73) : Int).toNat * 5 + 2, none⟩ = some (.int .i64 ((Qf t153 (ji73)).f1)) := hcc76 2 _ rfl; have hx76_3 : w84.cell? ⟨go76, ((ji73) : Int).toNat * 5 + 3, none⟩ = some (.int .i64 ((Qf t153 (ji73)).f2)) := hcc76 3 _ rfl; have hx76_4 : w84.cell? ⟨go76, ((ji73) : Int).toNat * 5 + 4, none⟩ = some (.int .i64 ((Qf t153 (ji73)).f3)) := hcc76 4 _ rfl; have hf76_0 : w84.frozen? ⟨go76, ((ji73) : Int).toNat * 5, none⟩ = false := hfr76 0; have hf76_1 : w84.frozen? ⟨go76, ((ji73) : Int).toNat * 5 + 1, none⟩ = false := hfr76 1; have hf76_2 : w84.frozen? ⟨go76, ((ji73) : Int).toNat * 5 + 2, none⟩ = false := hfr76 2; have hf76_3 : w84.frozen? ⟨go76, ((ji73) : Int).toNat * 5 + 3, none⟩ = false := hfr76 3; have hf76_4 : w84.frozen? ⟨go76, ((ji73) : Int).toNat * 5 + 4, none⟩ = false := hfr76 4; clear hcl76 hcc76 hfr76 hM76; replace p76 := eq_true p76; replace q76 := eq_true q76; have n_ := Qa.mk (Kd.R_mono (ok' := (fun k_ => some k_ ≠ (.slice Ao16 t102.length co16 : Value).ownBlock ∧ some k_ ≠ (.slice Ao82 t148.length co82 : Value).ownBlock)) HO155.out (fun k_ hk => ⟨hk.1.2, hk.2⟩)); clear HO155; have HO155 := n_; clear n_; have HX85 := Qa.mk (show Kd.R k100 100 w84 w.heap.size (fun k_ => some k_ ≠ (.slice Ao16 t102.length co16 : Value).ownBlock ∧ some k_ ≠ (.slice Ao82 t148.length co82 : Value).ownBlock) (.slice (some ⟨go76, 0, none⟩) t153.length co76) t153 from (pR HO155.out)); obtain ⟨ce85, hcl85, hM85, hcc85, hfr85⟩ := Kd.R_elem HX85.out z100 ((ji73) : Int) (dT) (by have h_ : ((ji73) : Int) < ((t153.length : Int) : Int) := dT; first | exact h_ | (have e_ := (Kd.R_reads' HO155.out).1; omega) | simpa using h_); obtain rfl := ZH hM85; have HP85 := Kd.R_seg HX85.out ((ji73) : Int) (dT) (by have h_ : ((ji73) : Int) < ((t153.length : Int) : Int) := dT; first | exact h_ | (have e_ := (Kd.R_reads' HO155.out).1; omega) | simpa using h_) (seg := [.int .i64 0]) (j := 4) hcl85 hcc85 (show 5 ≤ 5 from by decide) (x' := (⟨(⟨(Qf t153 (ji73)).f0.f0, (Qf t153 (ji73)).f0.f1⟩ : S24), (Qf t153 (ji73)).f1, (Qf t153 (ji73)).f2, 0⟩ : S100)) (ZM _ _ _ (⟨(⟨(Qf t153 (ji73)).f0.f0, (Qf t153 (ji73)).f0.f1⟩ : S24), (Qf t153 (ji73)).f1, (Qf t153 (ji73)).f2, 0⟩ : S100) ) (fun _ hk => hk); have hx85_4 := hcc85 4 _ rfl; (try simp only [show (k100).sz = 5 from rfl, Nat.mul_one, Nat.add_zero] at hx85_4); have hf85_4 := hfr85 4; (try simp only [show (k100).sz = 5 from rfl, Nat.mul_one, Nat.add_zero] at hf85_4); clear hcl85 hcc85 hfr85 hM85) | ((with_reducible refine Z3 (t := 3) (p := 173) rfl ?_); refine ZX (t := 3) (p := 173) (v := ?vo_w86) (w1 := (w84.setCell ⟨go76, ((ji73) : Int).toNat * 5 + 4, none⟩ (.int .i64 0))) ?hg ?ho ?hn ?hr ?_; (case ho => rfl); (case hg => rfl); (case hn => rfl); (case hr => first | (go_simp; done) | (go_simp; rfl)); intro w86 hw; have hg : w84.grownBy w86 (some go76) := (by rw [hw]; exact HP85.2); have hp_ : Kd.R k100 100 w86 w.heap.size (fun k_ => some k_ ≠ (.slice Ao16 t102.length co16 : Value).ownBlock ∧ some k_ ≠ (.slice Ao82 t148.length co82 : Value).ownBlock) (.slice (some ⟨go76, 0, none⟩) t153.length co76) y156 := (by rw [hw, Ny156.out]; exact HP85.1); clear HP85; replace HO_7 := Qa.mk (Kd.R_after (v := (.slice (some ⟨go76, 0, none⟩) t153.length co76)) (v1 := (.slice (some ⟨go76, 0, none⟩) t153.length co76)) (ok := (fun k_ => some k_ ≠ (.slice Ao82 t148.length co82 : Value).ownBlock)) (by refine pR ?_; exact Kd.R_mono HO_7.out (fun _ hk => ⟨hk.1.2, hk.2⟩)) hg (.inl rfl)); replace BK101 := Qa.mk (Ja (g := gb101) (o := .cells #[.slice A0_0 l0_0.length c0_0, .int .u8 a0_1, .int .u8 a0_2, .int .u8 a0_3, .int .u8 a0_4, .int .u8 a0_5] 91 (0, 0)) (pB BK101.out) hg (Kd.R_ne HO155.out BK101.out (by decide))); replace BK110 := Qa.mk (Ja (g := gb110) (o := .cells #[.int .i64 t105, .int .i64 t106, .int .i64 t107, .int .i64 t108, .int .i64 t109] 26 (0, 0)) (pB BK110.out) hg (Kd.R_ne HO155.out BK110.out (by decide))); replace HO150 := Qa.mk (Kd.R_after (v := (.slice (some ⟨go76, 0, none⟩) t153.length co76)) (v1 := (.slice (some ⟨go76, 0, none⟩) t153.length co76)) (ok := (fun k_ => some k_ ≠ (.slice Ao16 t102.length co16 : Value).ownBlock)) (by refine pR ?_; exact Kd.R_mono HO150.out (fun _ hk => ⟨hk.1.2, hk.2⟩)) hg (.inl rfl)); replace HO155 := Qa.mk (hp_); replace HB := Qa.mk ((by rw [hw]; exact Q3 (HB.out) GB76.out : Below w.heap.size w w86)); clear hg hw hp_))
              replace HO_7 := Qa.mk (Kd.R_drew HO_7.out); replace HO150 := Qa.mk (Kd.R_drew HO150.out); replace HO155 := Qa.mk (Kd.R_drew HO155.out); replace BK101 := Qa.mk (Qh BK101.out); replace BK110 := Qa.mk (Qh BK110.out); replace HB := Qa.mk (QM HB.out); refine JS (n := 11) (S := fun w' => w'.cell? ⟨gb110, 0, none⟩ = some (.int .i64 t105) ∧ w'.cell? ⟨gb110, 1, none⟩ = some (.int .i64 t106) ∧ w'.cell? ⟨gb110, 2, none⟩ = some (.int .i64 t107) ∧ w'.cell? ⟨gb110, 3, none⟩ = some (.int .i64 t108) ∧ w'.cell? ⟨gb110, 4, none⟩ = some (.int .i64 t109)) (ds := []) #[false, false, false, false, false, false, false, false, false, false, false] (by kernel_rfl) rfl rfl ⟨cz0 BK110, cz1 BK110, cz2 BK110, cz3 BK110, cz4 BK110⟩ (fun hHeld => ?_); refine Jk Qao.tab24 Qao.bits24 (fun HT_ HW_ => ?_); generalize w86.drew = w87 at HO_7 HO150 HO155 BK101 BK110 HB hHeld ⊢; refine pu 0 175 ?_; refine tk 2 177 hHeld ?_; refine on 1 (fun K hK => ?_); refine Xx Tryz.func54 (by kernel_rfl) rfl #[.slice (some ⟨go76, 0, none⟩) y156.length co76] (by rfl) rfl rfl (by (try simp only [List.map_toArray, List.map_cons, List.map_nil]); first | done | (rw [show y156.length = t153.length from (Kd.R_reads' HO155.out).1.symm] <;> rfl) | rfl | (simp only [List.length_drop, List.length_take]; rfl)) ?_
              with_reducible refine (Qav.calls _ _ y156 t157 _ ?side1 ?side2 A77.out).mono ?_
              (case side1 => exact pC (Kd.R_reads' HO155.out).2.2)
              (case side2 => rw [show y156.length = t153.length from (Kd.R_reads' HO155.out).1.symm]; exact (Kd.R_reads' HO155.out).2.1)
              rintro e w88 ⟨v158, rfl, ho0, hb⟩; refine ⟨_, rfl, ?_⟩; have HO159 := Qa.mk (Kd.R_lower (Kd.R_new' (Kd.R_new' (Kd.R_new' ho0 (Kd.R_lt (pR HO_7.out))) (Kd.R_lt (pR HO150.out))) (Kd.R_lt (pR HO155.out))) (Qr (pE HB))); replace HO_7 := re HO_7 ho0 hb; replace HO150 := re HO150 ho0 hb; replace HO155 := re HO155 ho0 hb; replace BK101 := bb BK101 hb; replace BK110 := bb BK110 hb; replace HB := bs HB hb
              (try clear hb)
              (try clear hb2)
              (try clear hk)
              (try clear hi)
              (try clear ho0)
              obtain ⟨Ao89, co89, eo89⟩ := Kd.R_slice HO159.out
              (first | subst eo89 | (injection eo89 with f1_ f2_ f3_; have f4_ := f1_.symm; have f5_ := f3_.symm; clear f1_ f2_ f3_; subst f4_; subst f5_))
              refine hK.out _ _ ⟨cz0 BK110, cz1 BK110, cz2 BK110, cz3 BK110, cz4 BK110⟩ (fun hHeld => ?_); clear hK K; refine QY (a' := ?_) ?_ ?_
              rotate_left
              ·
               show Act.put _ (some 176) _ = _; simp only [Act.put, List.setIfInBounds_toArray, List.set_cons_zero, List.set_cons_succ, QR, QU]; rfl
              refine on 3 (fun K hK => ?_); refine gO Tryz.func32 #[.slice Ao89 t157.length co89, .agg #[.int .i64 t105, .int .i64 t106, .int .i64 t107, .int .i64 t108, .int .i64 t109]] ?_
              with_reducible refine (Jb.calls kj44 _ _ t157 t105 t106 t107 t108 t109 t160 t163 t164 _ ?side1 ?side2 A78.out).mono ?_
              (case side1 => exact pC (Kd.R_reads' HO159.out).2.2)
              (case side2 => exact (Kd.R_reads' HO159.out).2.1)
              rintro e w90 ⟨v161, rfl, ho0, hb⟩; refine ⟨_, rfl, ?_⟩; replace HO_7 := rb HO_7 hb; replace HO150 := rb HO150 hb; replace HO155 := rb HO155 hb; replace HO159 := rb HO159 hb; have HO162 := rl ho0 HB; replace BK101 := bb BK101 hb; replace BK110 := bb BK110 hb; replace HB := bs HB hb
              (try clear hb)
              (try clear hb2)
              (try clear hk)
              (try clear hi)
              (try clear ho0)
              refine hK.out _ _ ⟨cz0 BK110, cz1 BK110, cz2 BK110, cz3 BK110, cz4 BK110⟩ (fun hHeld => ?_); clear hK K; refine QY (a' := ?_) ?_ ?_
              rotate_left
              ·
               show Act.put _ (some 178) _ = _; simp only [Act.put, List.setIfInBounds_toArray, List.set_cons_zero, List.set_cons_succ, QR, QU]; rfl
              refine pu 4 174 ?_; refine pu 5 179 ?_; refine pu 6 180 ?_; refine pu 7 181 ?_; refine pu 8 30 ?_; refine pu 9 31 ?_; refine pu 10 32 ?_; refine JD (JM HT_.out (by kernel_rfl)) ?_; go_upto_region 25 with (fail)
              go_cut [207] (fun v207 wc => ∃ (kq : Nat) (x207_78 : Bool), v207 = .bool x207_78 ∧ Qa (Qao.j6 kq t102 ji73 t151 t152 t163 t164 x207_78 t105 t106 t107 t108 t109 = some r) ∧ Qa (kq ≤ kj44) ∧ Qa (Kd.R k100 100 wc w.heap.size (fun _ => True) (.slice Ao16 t102.length co16) t102) ∧ Qa (wc.heap[gb101]? = some (.cells #[(.slice A0_0 l0_0.length c0_0), .int .u8 a0_1, .int .u8 a0_2, .int .u8 a0_3, .int .u8 a0_4, .int .u8 a0_5] 91 (0, 0))) ∧ Qa (wc.heap[gb110]? = some (.cells #[.int .i64 t105, .int .i64 t106, .int .i64 t107, .int .i64 t108, .int .i64 t109] 26 (0, 0))) ∧ Qa (Below w.heap.size w wc))
              case first =>
               have H := HC79.out; clear HC79; by_cases c91 : t152 = 0
               ·
                rw [if_pos c91] at H; have c91b0 : (t152 == 0) = true := beq_iff_eq.mpr c91; have c91b1 : (t152 != 0) = false := bne_eq_false_iff_eq.mpr c91; clear c91
                (first | rw [c91b0] | (simp only [QR, QU]; rw [c91b0]) | skip)
                by_cases c92 : t164 = 0
                ·
                 rw [if_pos c92] at H; have c92b0 : (t164 == 0) = true := beq_iff_eq.mpr c92; have c92b1 : (t164 != 0) = false := bne_eq_false_iff_eq.mpr c92; clear c92; by_cases c93 : t151 < 0
                 ·
                  rw [if_pos c93] at H; have c93b0 : decide (t151 < 0) = true := decide_eq_true c93; clear c93; exact (Qao.dead_j6 _ _ _ _ _ _ _ _ _ _ _ _ _ H HRT.out).elim
                 ·
                  rw [if_neg c93] at H; have c93b0 : decide (t151 < 0) = false := decide_eq_false c93; clear c93; have H' := Qa.mk H; clear H; go_wp2
                  go_meet
                  case rel => exact ⟨_, (decide (t151 > 500)), eS, H', ⟨by have := HJ6.out; have := HJ24.out; have := HK3.out; have := HJ44.out; first | omega | exact Nat.le_refl _⟩, ⟨by (with_reducible repeat (first | apply Kd.R_alloc | apply Kd.R_drewN | apply Kd.R_drew)); exact Kd.R_mono HO_7.out (fun _ hk => trivial)⟩, ⟨pB BK101.out⟩, ⟨pB BK110.out⟩, ⟨pE HB⟩⟩
                ·
                 rw [if_neg c92] at H; have c92b0 : (t164 == 0) = false := beq_eq_false_iff_ne.mpr c92; have c92b1 : (t164 != 0) = true := bne_iff_ne.mpr c92; by_cases c94 : t164 = 9
                 ·
                  rw [if_pos c94] at H; have c94b0 : (t164 == 9) = true := beq_iff_eq.mpr c94; have c94b1 : (t164 != 9) = false := bne_eq_false_iff_eq.mpr c94; clear c94; by_cases c95 : t151 < 0
                  ·
                   rw [if_pos c95] at H; have c95b0 : decide (t151 < 0) = true := decide_eq_true c95; clear c95; exact (Qao.dead_j6 _ _ _ _ _ _ _ _ _ _ _ _ _ H HRT.out).elim
                  ·
                   rw [if_neg c95] at H; have c95b0 : decide (t151 < 0) = false := decide_eq_false c95; clear c95; have H' := Qa.mk H; clear H; go_wp2
                   go_meet
                   case rel => exact ⟨_, (decide (t151 > 500)), eS, H', ⟨by have := HJ6.out; have := HJ24.out; have := HK3.out; have := HJ44.out; first | omega | exact Nat.le_refl _⟩, ⟨by (with_reducible repeat (first | apply Kd.R_alloc | apply Kd.R_drewN | apply Kd.R_drew)); exact Kd.R_mono HO_7.out (fun _ hk => trivial)⟩, ⟨pB BK101.out⟩, ⟨pB BK110.out⟩, ⟨pE HB⟩⟩
                 ·
                  rw [if_neg c94] at H; have c94b0 : (t164 == 9) = false := beq_eq_false_iff_ne.mpr c94; have c94b1 : (t164 != 9) = true := bne_iff_ne.mpr c94; exact (Qao.dead_j6 _ _ _ _ _ _ _ _ _ _ _ _ _ H HRT.out).elim
               ·
                rw [if_neg c91] at H; have c91b0 : (t152 == 0) = false := beq_eq_false_iff_ne.mpr c91; have c91b1 : (t152 != 0) = true := bne_iff_ne.mpr c91
                (first | rw [c91b0] | (simp only [QR, QU]; rw [c91b0]) | skip)
                by_cases c96 : t152 = 9
                ·
                 rw [if_pos c96] at H; have c96b0 : (t152 == 9) = true := beq_iff_eq.mpr c96; have c96b1 : (t152 != 9) = false := bne_eq_false_iff_eq.mpr c96; clear c96; by_cases c97 : t151 = 0
                 ·
                  rw [if_pos c97] at H; have c97b0 : (t151 == 0) = true := beq_iff_eq.mpr c97; have c97b1 : (t151 != 0) = false := bne_eq_false_iff_eq.mpr c97; clear c97; by_cases c98 : t164 = 0
                  ·
                   rw [if_pos c98] at H; have c98b0 : (t164 == 0) = true := beq_iff_eq.mpr c98; have c98b1 : (t164 != 0) = false := bne_eq_false_iff_eq.mpr c98; clear c98; by_cases c99 : t151 < 0
                   ·
                    rw [if_pos c99] at H; have c99b0 : decide (t151 < 0) = true := decide_eq_true c99; clear c99; exact (Qao.dead_j6 _ _ _ _ _ _ _ _ _ _ _ _ _ H HRT.out).elim
                   ·
                    rw [if_neg c99] at H; have c99b0 : decide (t151 < 0) = false := decide_eq_false c99; clear c99; have H' := Qa.mk H; clear H; go_wp2
                    go_meet
                    case rel => exact ⟨_, (decide (t151 > 500)), eS, H', ⟨by have := HJ6.out; have := HJ24.out; have := HK3.out; have := HJ44.out; first | omega | exact Nat.le_refl _⟩, ⟨by (with_reducible repeat (first | apply Kd.R_alloc | apply Kd.R_drewN | apply Kd.R_drew)); exact Kd.R_mono HO_7.out (fun _ hk => trivial)⟩, ⟨pB BK101.out⟩, ⟨pB BK110.out⟩, ⟨pE HB⟩⟩
                  ·
                   rw [if_neg c98] at H; have c98b0 : (t164 == 0) = false := beq_eq_false_iff_ne.mpr c98; have c98b1 : (t164 != 0) = true := bne_iff_ne.mpr c98; by_cases c100 : t164 = 9
                   ·
                    rw [if_pos c100] at H; have c100b0 : (t164 == 9) = true := beq_iff_eq.mpr c100; have c100b1 : (t164 != 9) = false := bne_eq_false_iff_eq.mpr c100; clear c100; by_cases c101 : t151 < 0
                    ·
                     rw [if_pos c101] at H; have c101b0 : decide (t151 < 0) = true := decide_eq_true c101; clear c101; exact (Qao.dead_j6 _ _ _ _ _ _ _ _ _ _ _ _ _ H HRT.out).elim
                    ·
                     rw [if_neg c101] at H; have c101b0 : decide (t151 < 0) = false := decide_eq_false c101; clear c101; have H' := Qa.mk H; clear H; go_wp2
                     go_meet
                     case rel => exact ⟨_, (decide (t151 > 500)), eS, H', ⟨by have := HJ6.out; have := HJ24.out; have := HK3.out; have := HJ44.out; first | omega | exact Nat.le_refl _⟩, ⟨by (with_reducible repeat (first | apply Kd.R_alloc | apply Kd.R_drewN | apply Kd.R_drew)); exact Kd.R_mono HO_7.out (fun _ hk => trivial)⟩, ⟨pB BK101.out⟩, ⟨pB BK110.out⟩, ⟨pE HB⟩⟩
                   ·
                    rw [if_neg c100] at H; have c100b0 : (t164 == 9) = false := beq_eq_false_iff_ne.mpr c100; have c100b1 : (t164 != 9) = true := bne_iff_ne.mpr c100; exact (Qao.dead_j6 _ _ _ _ _ _ _ _ _ _ _ _ _ H HRT.out).elim
                 ·
                  rw [if_neg c97] at H; have c97b0 : (t151 == 0) = false := beq_eq_false_iff_ne.mpr c97; have c97b1 : (t151 != 0) = true := bne_iff_ne.mpr c97; exact (Qao.dead_j6 _ _ _ _ _ _ _ _ _ _ _ _ _ H HRT.out).elim
                ·
                 rw [if_neg c96] at H; have c96b0 : (t152 == 9) = false := beq_eq_false_iff_ne.mpr c96; have c96b1 : (t152 != 9) = true := bne_iff_ne.mpr c96; exact (Qao.dead_j6 _ _ _ _ _ _ _ _ _ _ _ _ _ H HRT.out).elim
              case rest =>
               as_aux_lemma =>
               clear HC79
               (try clear c47); (try clear c69); (try clear c69b0); (try clear c69b1); (try clear c69b2); (try clear c74b0); (try clear c75b0); (try clear p76); (try clear q76); (try clear hx76_0); (try clear hx76_1); (try clear hx76_2); (try clear hx76_3); (try clear hx76_4); (try clear hx85_4)
               obtain ⟨kq, x207_78, rfl, HA, HJ78, HO_7, BK101, BK110, HB⟩ := hcut
               cases kq with
               | zero => exact absurd HA.out (by simp [Qao.j6])
               | succ kj78 =>
                have H := HA.out; clear HA; simp only [Qao.j6] at H; by_cases c102 : x207_78 = true
                ·
                 subst c102; rw [if_pos rfl] at H; exact absurd ((Option.some.inj H).trans HRT.out) (by simp)
                ·
                 replace c102 := Bool.eq_false_iff.mpr c102; subst c102; rw [if_neg (show ¬ (false = true) by decide)] at H; have H' := Qa.mk H; clear H; go_wp2
                 go_loopg [33] kj78 (fun kq v33 w' => ∃ (x7_6 : List S100) (x33_6 : Int), v33 = .int .i64 x33_6 ∧ Qa (Qao.l1 kq x7_6 ji73 t151 t152 t163 t164 x33_6 t105 t106 t107 t108 t109 = some r) ∧ Qa (kq ≤ kj78) ∧ Qa (Kd.R k100 100 w' w.heap.size (fun _ => True) (.slice Ao16 t102.length co16) x7_6) ∧ Qa (w'.heap[gb101]? = some (.cells #[(.slice A0_0 l0_0.length c0_0), .int .u8 a0_1, .int .u8 a0_2, .int .u8 a0_3, .int .u8 a0_4, .int .u8 a0_5] 91 (0, 0))) ∧ Qa (w'.heap[gb110]? = some (.cells #[.int .i64 t105, .int .i64 t106, .int .i64 t107, .int .i64 t108, .int .i64 t109] 26 (0, 0))) ∧ Qa (Below w.heap.size w w'))
                 case atStart => exact ⟨(t102), (0), eS, H', ⟨Nat.le_refl _⟩, ⟨by (with_reducible repeat (first | apply Kd.R_alloc | apply Kd.R_drewN | apply Kd.R_drew)); exact HO_7.out⟩, ⟨pB BK101.out⟩, ⟨pB BK110.out⟩, ⟨pE HB⟩⟩
                 case round =>
                  as_aux_lemma =>
                  clear H'; try clear c102
                  obtain ⟨x7_6, x33_6, rfl, HA, HK6, HO_7, BK101, BK110, HB⟩ := hrel; have hl7_6 := (Kd.R_reads' HO_7.out).1; rw [hl7_6] at HO_7
                  (try simp only [hl7_6])
                  (try simp only [hl7_6] at BK101)
                  (try simp only [hl7_6] at BK110)
                  cases gk with
                  | zero => exact absurd HA.out (by simp [Qao.l1])
                  | succ k6 =>
                   have H := HA.out; clear HA; simp only [Qao.l1] at H; by_cases c103 : x33_6 < 2
                   ·
                    rw [if_pos c103] at H; have c103b0 : decide (x33_6 < 2) = true := decide_eq_true c103; clear c103; obtain ⟨t166, A104, H⟩ := bi H; by_cases c105 : 0 ≤ ji73
                    ·
                     rw [if_pos c105] at H; have c105b0 : decide (0 ≤ ji73) = true := decide_eq_true c105; clear c105; by_cases c106 : ji73 < (t166.length : Int)
                     ·
                      rw [if_pos c106] at H; have c106b0 : decide (ji73 < (t166.length : Int)) = true := decide_eq_true c106; clear c106; obtain ⟨y169, hy169⟩ : ∃ y_ : List S100, y_ = (t166.set (ji73 : Int).toNat (⟨(⟨(Qf t166 ji73).f0.f0, (Qf t166 ji73).f0.f1⟩ : S24), wrap64 (t151 + x33_6), (Qf t166 ji73).f2, (Qf t166 ji73).f3⟩ : S100)) := ⟨_, rfl⟩
                      replace H : (if t152 = 0 then (Qao.j8 k6 x7_6 ji73 t151 t152 t163 t164 x33_6 y169 t105 t106 t107 t108 t109) else (Qao.j8 k6 x7_6 ji73 t151 t152 t163 t164 x33_6 (y169.set (ji73 : Int).toNat (⟨(⟨(Qf y169 ji73).f0.f0, (Qf y169 ji73).f0.f1⟩ : S24), 0, (Qf y169 ji73).f2, (Qf y169 ji73).f3⟩ : S100)) t105 t106 t107 t108 t109)) = some r := yy hy169 H; have Ny169 := Qa.mk hy169; clear hy169; have HC108 := Qa.mk H; clear H
                      go_upto_if 222 with (first | ((with_reducible refine gc 54 rfl ?_); refine gL 213 Tryz.func54 #[.slice Ao16 x7_6.length co16] ?_; (with_reducible refine (Qav.calls _ _ x7_6 t166 _ ?side1 ?side2 A104.out).mono ?_); (case side1 => exact pC (Kd.R_reads' HO_7.out).2.2); (case side2 => exact (Kd.R_reads' HO_7.out).2.1); rintro e w109 ⟨v167, rfl, ho0, hb⟩; refine ⟨_, rfl, ?_⟩; have HO168 := Qa.mk (Kd.R_lower (Kd.R_new' ho0 (Kd.R_lt (pR HO_7.out))) (Qr (pE HB))); replace HO_7 := re HO_7 ho0 hb; replace BK101 := bb BK101 hb; replace BK110 := bb BK110 hb; replace HB := bs HB hb; clear hb ho0; have p107 : 0 ≤ (ji73 : Int) := dT; have q107 : (ji73 : Int) < ((t166.length : Int) : Int) := dT; obtain ⟨go107, co107, eo107, gb107, gl107, cl107, HG107⟩ := Kd.R_form HO168.out (by omega); (first | cases eo107 | (injection eo107 with ea_ en_ ec_; (first | subst ea_ | (injection ea_ with ea_; subst ea_)); subst ec_; clear en_)); have GB107 := Qa.mk gb107; have GG107 := Qa.mk HG107; clear gb107 gl107 HG107; obtain ⟨ce107, hcl107, hM107, hcc107, hfr107⟩ := Kd.R_elem HO168.out z100 (ji73 : Int) p107 q107; obtain rfl := ZH hM107; have hx107_0 : w109.cell? ⟨go107, (ji73 : Int).toNat * 5, none⟩ = some (.int .i64 ((Qf t166 ji73).f0.f0)) := hcc107 0 _ rfl; have hx107_1 : w109.cell? ⟨go107, (ji73 : Int).toNat * 5 + 1, none⟩ = some (.int .i64 ((Qf t166 ji73).f0.f1)) := hcc107 1 _ rfl; have hx107_2 : w109.cell? ⟨go107, (ji73 : Int).toNat * 5 + 2, none⟩ = some (.int .i64 ((Qf t166 ji73).f1)) := hcc107 2 _ rfl; have hx107_3 : w109.cell? ⟨go107, (ji73 : Int).toNat * 5 + 3, none⟩ = some (.int .i64 ((Qf t166 ji73).f2)) := hcc107 3 _ rfl; have hx107_4 : w109.cell? ⟨go107, (ji73 : Int).toNat * 5 + 4, none⟩ = some (.int .i64 ((Qf t166 ji73).f3)) := hcc107 4 _ rfl; have hf107_0 : w109.frozen? ⟨go107, (ji73 : Int).toNat * 5, none⟩ = false := hfr107 0; have hf107_1 : w109.frozen? ⟨go107, (ji73 : Int).toNat * 5 + 1, none⟩ = false := hfr107 1; have hf107_2 : w109.frozen? ⟨go107, (ji73 : Int).toNat * 5 + 2, none⟩ = false := hfr107 2; have hf107_3 : w109.frozen? ⟨go107, (ji73 : Int).toNat * 5 + 3, none⟩ = false := hfr107 3; have hf107_4 : w109.frozen? ⟨go107, (ji73 : Int).toNat * 5 + 4, none⟩ = false := hfr107 4; clear hcl107 hcc107 hfr107 hM107; replace p107 := eq_true p107; replace q107 := eq_true q107; have n_ := Qa.mk (Kd.R_mono (ok' := (fun k_ => some k_ ≠ (.slice Ao16 x7_6.length co16 : Value).ownBlock)) HO168.out (fun k_ hk => hk.2)); clear HO168; have HO168 := n_; clear n_; have HX110 := Qa.mk (show Kd.R k100 100 w109 w.heap.size (fun k_ => some k_ ≠ (.slice Ao16 x7_6.length co16 : Value).ownBlock) (.slice (some ⟨go107, 0, none⟩) t166.length co107) t166 from (pR HO168.out)); obtain ⟨ce110, hcl110, hM110, hcc110, hfr110⟩ := Kd.R_elem HX110.out z100 (ji73 : Int) (dT) (by have h_ : (ji73 : Int) < ((t166.length : Int) : Int) := dT; first | exact h_ | (have e_ := (Kd.R_reads' HO168.out).1; omega) | simpa using h_); obtain rfl := ZH hM110; have HP110 := Kd.R_seg HX110.out (ji73 : Int) (dT) (by have h_ : (ji73 : Int) < ((t166.length : Int) : Int) := dT; first | exact h_ | (have e_ := (Kd.R_reads' HO168.out).1; omega) | simpa using h_) (seg := [.int .i64 (wrap64 (t151 + x33_6))]) (j := 2) hcl110 hcc110 (show 3 ≤ 5 from by decide) (x' := (⟨(⟨(Qf t166 ji73).f0.f0, (Qf t166 ji73).f0.f1⟩ : S24), wrap64 (t151 + x33_6), (Qf t166 ji73).f2, (Qf t166 ji73).f3⟩ : S100)) (ZM _ _ _ (⟨(⟨(Qf t166 ji73).f0.f0, (Qf t166 ji73).f0.f1⟩ : S24), wrap64 (t151 + x33_6), (Qf t166 ji73).f2, (Qf t166 ji73).f3⟩ : S100) ) (fun _ hk => hk); have hx110_2 := hcc110 2 _ rfl; (try simp only [show (k100).sz = 5 from rfl, Nat.mul_one, Nat.add_zero] at hx110_2); have hf110_2 := hfr110 2; (try simp only [show (k100).sz = 5 from rfl, Nat.mul_one, Nat.add_zero] at hf110_2); clear hcl110 hcc110 hfr110 hM110) | ((with_reducible refine Z3 (t := 3) (p := 220) rfl ?_); refine ZX (t := 3) (p := 220) (v := ?vo_w111) (w1 := (w109.setCell ⟨go107, (ji73 : Int).toNat * 5 + 2, none⟩ (.int .i64 (wrap64 (t151 + x33_6))))) ?hg ?ho ?hn ?hr ?_; (case ho => rfl); (case hg => rfl); (case hn => rfl); (case hr => first | (go_simp; done) | (go_simp; rfl)); intro w111 hw; have hg : w109.grownBy w111 (some go107) := (by rw [hw]; exact HP110.2); have hp_ : Kd.R k100 100 w111 w.heap.size (fun k_ => some k_ ≠ (.slice Ao16 x7_6.length co16 : Value).ownBlock) (.slice (some ⟨go107, 0, none⟩) t166.length co107) y169 := (by rw [hw, Ny169.out]; exact HP110.1); clear HP110; replace HO_7 := Qa.mk (Kd.R_after (v := (.slice (some ⟨go107, 0, none⟩) t166.length co107)) (v1 := (.slice (some ⟨go107, 0, none⟩) t166.length co107)) (ok := (fun _ => True)) (pR HO_7.out) hg (.inl rfl)); replace BK101 := Qa.mk (Ja (g := gb101) (o := .cells #[.slice A0_0 l0_0.length c0_0, .int .u8 a0_1, .int .u8 a0_2, .int .u8 a0_3, .int .u8 a0_4, .int .u8 a0_5] 91 (0, 0)) (pB BK101.out) hg (Kd.R_ne HO168.out BK101.out (by decide))); replace BK110 := Qa.mk (Ja (g := gb110) (o := .cells #[.int .i64 t105, .int .i64 t106, .int .i64 t107, .int .i64 t108, .int .i64 t109] 26 (0, 0)) (pB BK110.out) hg (Kd.R_ne HO168.out BK110.out (by decide))); replace HO168 := Qa.mk (hp_); replace HB := Qa.mk ((by rw [hw]; exact Q3 (HB.out) GB107.out : Below w.heap.size w w111)); clear hg hw hp_))
                      (try simp only [Act.put, List.setIfInBounds_toArray, List.set_cons_zero, List.set_cons_succ])
                      go_cut [] (fun wc => ∃ (kq : Nat) (x34_107 : List S100), Qa (Qao.j8 kq x7_6 ji73 t151 t152 t163 t164 x33_6 x34_107 t105 t106 t107 t108 t109 = some r) ∧ Qa (kq ≤ k6) ∧ Qa (Kd.R k100 100 wc w.heap.size (fun k_ => some k_ ≠ ((.slice (some ⟨go107, 0, none⟩) t166.length co107) : Value).ownBlock) (.slice Ao16 x7_6.length co16) x7_6) ∧ Qa (Kd.R k100 100 wc w.heap.size (fun k_ => some k_ ≠ ((.slice Ao16 x7_6.length co16) : Value).ownBlock) (.slice (some ⟨go107, 0, none⟩) t166.length co107) x34_107) ∧ Qa (wc.heap[gb101]? = some (.cells #[(.slice A0_0 l0_0.length c0_0), .int .u8 a0_1, .int .u8 a0_2, .int .u8 a0_3, .int .u8 a0_4, .int .u8 a0_5] 91 (0, 0))) ∧ Qa (wc.heap[gb110]? = some (.cells #[.int .i64 t105, .int .i64 t106, .int .i64 t107, .int .i64 t108, .int .i64 t109] 26 (0, 0))) ∧ Qa (Below w.heap.size w wc))
                      case first =>
                       have H := HC108.out; clear HC108; by_cases c112 : t152 = 0
                       ·
                        rw [if_pos c112] at H; have c112b0 : (t152 == 0) = true := beq_iff_eq.mpr c112; have c112b1 : (t152 != 0) = false := bne_eq_false_iff_eq.mpr c112; clear c112
                        (first | rw [c112b0] | (simp only [QR, QU]; rw [c112b0]) | skip)
                        have H' := Qa.mk H; clear H; go_wp2
                        go_meet
                        case rel => exact ⟨_, (y169), H', ⟨by have := HJ6.out; have := HJ24.out; have := HK3.out; have := HJ44.out; have := HJ78.out; have := HK6.out; first | omega | exact Nat.le_refl _⟩, ⟨by (try simp only [hl7_6]); (with_reducible repeat (first | apply Kd.R_alloc | apply Kd.R_drewN | apply Kd.R_drew)); exact Kd.R_mono HO_7.out (fun _ hk => hk.2)⟩, ⟨by (try simp only [hl7_6]); (with_reducible repeat (first | apply Kd.R_alloc | apply Kd.R_drewN | apply Kd.R_drew)); exact HO168.out⟩, ⟨by (try simp only [hl7_6]); (with_reducible repeat (first | refine Qt ?_ _ | refine Qh ?_ | refine Qap ?_ _)); exact BK101.out⟩, ⟨by (try simp only [hl7_6]); (with_reducible repeat (first | refine Qt ?_ _ | refine Qh ?_ | refine Qap ?_ _)); exact BK110.out⟩, ⟨pE HB⟩⟩
                       ·
                        rw [if_neg c112] at H; have c112b0 : (t152 == 0) = false := beq_eq_false_iff_ne.mpr c112; have c112b1 : (t152 != 0) = true := bne_iff_ne.mpr c112
                        (first | rw [c112b0] | (simp only [QR, QU]; rw [c112b0]) | skip)
                        obtain ⟨y170, hy170⟩ : ∃ y_ : List S100, y_ = (y169.set (ji73 : Int).toNat (⟨(⟨(Qf y169 ji73).f0.f0, (Qf y169 ji73).f0.f1⟩ : S24), 0, (Qf y169 ji73).f2, (Qf y169 ji73).f3⟩ : S100)) := ⟨_, rfl⟩
                        replace H : (Qao.j8 k6 x7_6 ji73 t151 t152 t163 t164 x33_6 y170 t105 t106 t107 t108 t109) = some r := yy hy170 H; have Ny170 := Qa.mk hy170; clear hy170; have H' := Qa.mk H; clear H; have p113 : 0 ≤ (ji73 : Int) := dT; have q113 : (ji73 : Int) < ((t166.length : Int) : Int) := dT; obtain ⟨ce113, hcl113, hM113, hcc113, hfr113⟩ := Kd.R_elem HO168.out z100 (ji73 : Int) p113 q113; obtain rfl := ZH hM113; have hx113_0 : w111.cell? ⟨go107, (ji73 : Int).toNat * 5, none⟩ = some (.int .i64 ((Qf y169 ji73).f0.f0)) := hcc113 0 _ rfl; have hx113_1 : w111.cell? ⟨go107, (ji73 : Int).toNat * 5 + 1, none⟩ = some (.int .i64 ((Qf y169 ji73).f0.f1)) := hcc113 1 _ rfl; have hx113_2 : w111.cell? ⟨go107, (ji73 : Int).toNat * 5 + 2, none⟩ = some (.int .i64 ((Qf y169 ji73).f1)) := hcc113 2 _ rfl; have hx113_3 : w111.cell? ⟨go107, (ji73 : Int).toNat * 5 + 3, none⟩ = some (.int .i64 ((Qf y169 ji73).f2)) := hcc113 3 _ rfl; have hx113_4 : w111.cell? ⟨go107, (ji73 : Int).toNat * 5 + 4, none⟩ = some (.int .i64 ((Qf y169 ji73).f3)) := hcc113 4 _ rfl; have hf113_0 : w111.frozen? ⟨go107, (ji73 : Int).toNat * 5, none⟩ = false := hfr113 0; have hf113_1 : w111.frozen? ⟨go107, (ji73 : Int).toNat * 5 + 1, none⟩ = false := hfr113 1; have hf113_2 : w111.frozen? ⟨go107, (ji73 : Int).toNat * 5 + 2, none⟩ = false := hfr113 2; have hf113_3 : w111.frozen? ⟨go107, (ji73 : Int).toNat * 5 + 3, none⟩ = false := hfr113 3; have hf113_4 : w111.frozen? ⟨go107, (ji73 : Int).toNat * 5 + 4, none⟩ = false := hfr113 4; clear hcl113 hcc113 hfr113 hM113; replace p113 := eq_true p113; replace q113 := eq_true q113; have HX114 := Qa.mk (show Kd.R k100 100 w111 w.heap.size (fun k_ => some k_ ≠ (.slice Ao16 x7_6.length co16 : Value).ownBlock) (.slice (some ⟨go107, 0, none⟩) t166.length co107) y169 from (pR HO168.out)); obtain ⟨ce114, hcl114, hM114, hcc114, hfr114⟩ := Kd.R_elem HX114.out z100 (ji73 : Int) (dT) (by have h_ : (ji73 : Int) < ((t166.length : Int) : Int) := dT; first | exact h_ | (have e_ := (Kd.R_reads' HO168.out).1; omega) | simpa using h_); obtain rfl := ZH hM114; have HP114 := Kd.R_seg HX114.out (ji73 : Int) (dT) (by have h_ : (ji73 : Int) < ((t166.length : Int) : Int) := dT; first | exact h_ | (have e_ := (Kd.R_reads' HO168.out).1; omega) | simpa using h_) (seg := [.int .i64 0]) (j := 2) hcl114 hcc114 (show 3 ≤ 5 from by decide) (x' := (⟨(⟨(Qf y169 ji73).f0.f0, (Qf y169 ji73).f0.f1⟩ : S24), 0, (Qf y169 ji73).f2, (Qf y169 ji73).f3⟩ : S100)) (ZM _ _ _ (⟨(⟨(Qf y169 ji73).f0.f0, (Qf y169 ji73).f0.f1⟩ : S24), 0, (Qf y169 ji73).f2, (Qf y169 ji73).f3⟩ : S100) ) (fun _ hk => hk); have hx114_2 := hcc114 2 _ rfl
                        (try simp only [show (k100).sz = 5 from rfl, Nat.mul_one, Nat.add_zero] at hx114_2)
                        have hf114_2 := hfr114 2
                        (try simp only [show (k100).sz = 5 from rfl, Nat.mul_one, Nat.add_zero] at hf114_2)
                        clear hcl114 hcc114 hfr114 hM114; go_wp2_with (first | ((with_reducible refine Z3 (t := 3) (p := 226) rfl ?_); refine ZX (t := 3) (p := 226) (v := ?vo_w115) (w1 := (w111.setCell ⟨go107, (ji73 : Int).toNat * 5 + 2, none⟩ (.int .i64 0))) ?hg ?ho ?hn ?hr ?_; (case ho => rfl); (case hg => rfl); (case hn => rfl); (case hr => first | (go_simp; done) | (go_simp; rfl)); intro w115 hw; have hg : w111.grownBy w115 (some go107) := (by rw [hw]; exact HP114.2); have hp_ : Kd.R k100 100 w115 w.heap.size (fun k_ => some k_ ≠ (.slice Ao16 x7_6.length co16 : Value).ownBlock) (.slice (some ⟨go107, 0, none⟩) t166.length co107) y170 := (by rw [hw, Ny170.out]; exact HP114.1); clear HP114; replace HO_7 := Qa.mk (Kd.R_after (v := (.slice (some ⟨go107, 0, none⟩) t166.length co107)) (v1 := (.slice (some ⟨go107, 0, none⟩) t166.length co107)) (ok := (fun _ => True)) (pR HO_7.out) hg (.inl rfl)); replace BK101 := Qa.mk (Ja (g := gb101) (o := .cells #[.slice A0_0 l0_0.length c0_0, .int .u8 a0_1, .int .u8 a0_2, .int .u8 a0_3, .int .u8 a0_4, .int .u8 a0_5] 91 (0, 0)) (pB BK101.out) hg (Kd.R_ne HO168.out BK101.out (by decide))); replace BK110 := Qa.mk (Ja (g := gb110) (o := .cells #[.int .i64 t105, .int .i64 t106, .int .i64 t107, .int .i64 t108, .int .i64 t109] 26 (0, 0)) (pB BK110.out) hg (Kd.R_ne HO168.out BK110.out (by decide))); replace HO168 := Qa.mk (hp_); replace HB := Qa.mk ((by rw [hw]; exact Q3 (HB.out) GB107.out : Below w.heap.size w w115)); clear hg hw hp_))
                        go_meet
                        case rel => exact ⟨_, (y170), H', ⟨by have := HJ6.out; have := HJ24.out; have := HK3.out; have := HJ44.out; have := HJ78.out; have := HK6.out; first | omega | exact Nat.le_refl _⟩, ⟨by (try simp only [hl7_6]); (with_reducible repeat (first | apply Kd.R_alloc | apply Kd.R_drewN | apply Kd.R_drew)); exact Kd.R_mono HO_7.out (fun _ hk => hk.2)⟩, ⟨by (try simp only [hl7_6]); (with_reducible repeat (first | apply Kd.R_alloc | apply Kd.R_drewN | apply Kd.R_drew)); exact HO168.out⟩, ⟨by (try simp only [hl7_6]); (with_reducible repeat (first | refine Qt ?_ _ | refine Qh ?_ | refine Qap ?_ _)); exact BK101.out⟩, ⟨by (try simp only [hl7_6]); (with_reducible repeat (first | refine Qt ?_ _ | refine Qh ?_ | refine Qap ?_ _)); exact BK110.out⟩, ⟨pE HB⟩⟩
                      case rest =>
                       as_aux_lemma =>
                       clear HC108
                       (try clear c103b0); (try clear c105b0); (try clear c106b0); (try clear p107); (try clear q107); (try clear hx107_0); (try clear hx107_1); (try clear hx107_2); (try clear hx107_3); (try clear hx107_4); (try clear hx110_2)
                       obtain ⟨kq, x34_107, HA, HJ107, HO_7, HO_34, BK101, BK110, HB⟩ := hcut; have hl34_107 := (Kd.R_reads' HO_34.out).1; rw [hl34_107] at HO_34
                       (try simp only [hl34_107])
                       (try simp only [hl34_107] at BK101)
                       (try simp only [hl34_107] at BK110)
                       (try simp only [hl34_107] at HO_7)
                       cases kq with
                       | zero => exact absurd HA.out (by simp [Qao.j8])
                       | succ kj107 =>
                        have H := HA.out; clear HA; simp only [Qao.j8] at H; by_cases c116 : 0 ≤ ji73
                        ·
                         rw [if_pos c116] at H; have c116b0 : decide (0 ≤ ji73) = true := decide_eq_true c116; clear c116; by_cases c117 : ji73 < (x34_107.length : Int)
                         ·
                          rw [if_pos c117] at H; have c117b0 : decide (ji73 < (x34_107.length : Int)) = true := decide_eq_true c117; clear c117; by_cases c118 : ((Qf x34_107 ji73).f1) > 500
                          ·
                           rw [if_pos c118] at H; have c118b0 : decide (500 < ((Qf x34_107 ji73).f1)) = true := decide_eq_true c118; clear c118; have H' := Qa.mk H; clear H; have p171 : 0 ≤ (ji73 : Int) := dT; have q171 : ji73 < (x34_107.length : Int) := dT; obtain ⟨ad171, e171, hx171_0, hx171_1, hx171_2, hx171_3, hx171_4⟩ := Zf (Kd.R_reads' HO_34.out).2.2 ji73 p171 q171; obtain rfl : (⟨go107, 0, none⟩ : Addr) = ad171 := (by injection e171)
                           (first | simp only [JP] at hx171_0 | simp only [add_at] at hx171_0 | simp only [Addr.add, Nat.zero_add] at hx171_0 | skip)
                           (first | simp only [JP] at hx171_1 | simp only [add_at] at hx171_1 | simp only [Addr.add, Nat.zero_add] at hx171_1 | skip)
                           (first | simp only [JP] at hx171_2 | simp only [add_at] at hx171_2 | simp only [Addr.add, Nat.zero_add] at hx171_2 | skip)
                           (first | simp only [JP] at hx171_3 | simp only [add_at] at hx171_3 | simp only [Addr.add, Nat.zero_add] at hx171_3 | skip)
                           (first | simp only [JP] at hx171_4 | simp only [add_at] at hx171_4 | simp only [Addr.add, Nat.zero_add] at hx171_4 | skip)
                           replace p171 := eq_true p171; replace q171 := eq_true q171; go_wp2
                           (try simp only [← hl7_6, ← hl34_107])
                           go_roundg kj107
                           case measure => have := HJ6.out; have := HJ24.out; have := HK3.out; have := HJ44.out; have := HJ78.out; have := HK6.out; have := HJ107.out; omega
                           case rel => exact ⟨(x7_6), (wrap64 (x33_6 + 1)), eS, H', ⟨by have := HJ6.out; have := HJ24.out; have := HK3.out; have := HJ44.out; have := HJ78.out; have := HK6.out; have := HJ107.out; omega⟩, ⟨by (try simp only [hl7_6]); (try simp only [hl34_107]); (with_reducible repeat (first | apply Kd.R_alloc | apply Kd.R_drewN | apply Kd.R_drew)); exact Kd.R_mono HO_7.out (fun _ hk => trivial)⟩, ⟨by (try simp only [hl7_6]); (try simp only [hl34_107]); (with_reducible repeat (first | refine Qt ?_ _ | refine Qh ?_ | refine Qap ?_ _)); exact BK101.out⟩, ⟨by (try simp only [hl7_6]); (try simp only [hl34_107]); (with_reducible repeat (first | refine Qt ?_ _ | refine Qh ?_ | refine Qap ?_ _)); exact BK110.out⟩, ⟨pE HB⟩⟩
                          ·
                           rw [if_neg c118] at H; have c118b0 : decide (500 < ((Qf x34_107 ji73).f1)) = false := decide_eq_false c118; clear c118; obtain ⟨t172, A119, H⟩ := bi H; obtain ⟨⟨t175, t178, t179⟩, A120, H⟩ := bi H; have HC121 := Qa.mk H; clear H; have p171 : 0 ≤ (ji73 : Int) := dT; have q171 : ji73 < (x34_107.length : Int) := dT; obtain ⟨ad171, e171, hx171_0, hx171_1, hx171_2, hx171_3, hx171_4⟩ := Zf (Kd.R_reads' HO_34.out).2.2 ji73 p171 q171; obtain rfl : (⟨go107, 0, none⟩ : Addr) = ad171 := (by injection e171)
                           (first | simp only [JP] at hx171_0 | simp only [add_at] at hx171_0 | simp only [Addr.add, Nat.zero_add] at hx171_0 | skip)
                           (first | simp only [JP] at hx171_1 | simp only [add_at] at hx171_1 | simp only [Addr.add, Nat.zero_add] at hx171_1 | skip)
                           (first | simp only [JP] at hx171_2 | simp only [add_at] at hx171_2 | simp only [Addr.add, Nat.zero_add] at hx171_2 | skip)
                           (first | simp only [JP] at hx171_3 | simp only [add_at] at hx171_3 | simp only [Addr.add, Nat.zero_add] at hx171_3 | skip)
                           (first | simp only [JP] at hx171_4 | simp only [add_at] at hx171_4 | simp only [Addr.add, Nat.zero_add] at hx171_4 | skip)
                           replace p171 := eq_true p171; replace q171 := eq_true q171
                           try go_wp2
                           replace HO_7 := Qa.mk (Kd.R_drew HO_7.out); replace HO_34 := Qa.mk (Kd.R_drew HO_34.out); replace BK101 := Qa.mk (Qh BK101.out); replace BK110 := Qa.mk (Qh BK110.out); replace HB := Qa.mk (QM HB.out); refine JS (n := 11) (S := fun w' => w'.cell? ⟨gb110, 0, none⟩ = some (.int .i64 t105) ∧ w'.cell? ⟨gb110, 1, none⟩ = some (.int .i64 t106) ∧ w'.cell? ⟨gb110, 2, none⟩ = some (.int .i64 t107) ∧ w'.cell? ⟨gb110, 3, none⟩ = some (.int .i64 t108) ∧ w'.cell? ⟨gb110, 4, none⟩ = some (.int .i64 t109)) (ds := []) #[false, false, false, false, false, false, false, false, false, false, false] (by kernel_rfl) rfl rfl ⟨cz0 BK110, cz1 BK110, cz2 BK110, cz3 BK110, cz4 BK110⟩ (fun hHeld => ?_); refine Jk Qao.tab35 Qao.bits35 (fun HT_ HW_ => ?_); generalize wc.drew = w122 at HO_7 HO_34 BK101 BK110 HB hHeld ⊢; refine pu 0 234 ?_; refine tk 2 236 hHeld ?_; refine on 1 (fun K hK => ?_); refine gO Tryz.func54 #[.slice (some ⟨go107, 0, none⟩) x34_107.length co107] ?_
                           with_reducible refine (Qav.calls _ _ x34_107 t172 _ ?side1 ?side2 A119.out).mono ?_
                           (case side1 => exact pC (Kd.R_reads' HO_34.out).2.2)
                           (case side2 => exact (Kd.R_reads' HO_34.out).2.1)
                           rintro e w123 ⟨v173, rfl, ho0, hb⟩; refine ⟨_, rfl, ?_⟩; have HO174 := Qa.mk (Kd.R_lower (Kd.R_new' (Kd.R_new' ho0 (Kd.R_lt (pR HO_7.out))) (Kd.R_lt (pR HO_34.out))) (Qr (pE HB))); replace HO_7 := re HO_7 ho0 hb; replace HO_34 := re HO_34 ho0 hb; replace BK101 := bb BK101 hb; replace BK110 := bb BK110 hb; replace HB := bs HB hb
                           (try clear hb)
                           (try clear hb2)
                           (try clear hk)
                           (try clear hi)
                           (try clear ho0)
                           obtain ⟨Ao124, co124, eo124⟩ := Kd.R_slice HO174.out
                           (first | subst eo124 | (injection eo124 with f1_ f2_ f3_; have f4_ := f1_.symm; have f5_ := f3_.symm; clear f1_ f2_ f3_; subst f4_; subst f5_))
                           refine hK.out _ _ ⟨cz0 BK110, cz1 BK110, cz2 BK110, cz3 BK110, cz4 BK110⟩ (fun hHeld => ?_); clear hK K; refine QY (a' := ?_) ?_ ?_
                           rotate_left
                           ·
                            show Act.put _ (some 235) _ = _; simp only [Act.put, List.setIfInBounds_toArray, List.set_cons_zero, List.set_cons_succ, QR, QU]; rfl
                           refine on 3 (fun K hK => ?_); refine gO Tryz.func32 #[.slice Ao124 t172.length co124, .agg #[.int .i64 t105, .int .i64 t106, .int .i64 t107, .int .i64 t108, .int .i64 t109]] ?_
                           with_reducible refine (Jb.calls kj107 _ _ t172 t105 t106 t107 t108 t109 t175 t178 t179 _ ?side1 ?side2 A120.out).mono ?_
                           (case side1 => exact pC (Kd.R_reads' HO174.out).2.2)
                           (case side2 => exact (Kd.R_reads' HO174.out).2.1)
                           rintro e w125 ⟨v176, rfl, ho0, hb⟩; refine ⟨_, rfl, ?_⟩; replace HO_7 := rb HO_7 hb; replace HO_34 := rb HO_34 hb; replace HO174 := rb HO174 hb; have HO177 := rl ho0 HB; replace BK101 := bb BK101 hb; replace BK110 := bb BK110 hb; replace HB := bs HB hb
                           (try clear hb)
                           (try clear hb2)
                           (try clear hk)
                           (try clear hi)
                           (try clear ho0)
                           refine hK.out _ _ ⟨cz0 BK110, cz1 BK110, cz2 BK110, cz3 BK110, cz4 BK110⟩ (fun hHeld => ?_); clear hK K; refine QY (a' := ?_) ?_ ?_
                           rotate_left
                           ·
                            show Act.put _ (some 237) _ = _; simp only [Act.put, List.setIfInBounds_toArray, List.set_cons_zero, List.set_cons_succ, QR, QU]; rfl
                           refine pu 4 233 ?_; refine pu 5 238 ?_; refine pu 6 239 ?_; refine pu 7 240 ?_; refine pu 8 35 ?_; refine pu 9 36 ?_; refine pu 10 37 ?_; refine JD (JM HT_.out (by kernel_rfl)) ?_; go_upto_region 36 with (fail)
                           go_cut [38] (fun v38 wc => ∃ (kq : Nat) (x38_120 : Bool), v38 = .bool x38_120 ∧ Qa (Qao.j9 kq x7_6 ji73 t151 t152 t163 t164 x33_6 x34_107 t175 t179 x38_120 t105 t106 t107 t108 t109 = some r) ∧ Qa (kq ≤ kj107) ∧ Qa (Kd.R k100 100 wc w.heap.size (fun k_ => some k_ ≠ ((.slice (some ⟨go107, 0, none⟩) x34_107.length co107) : Value).ownBlock) (.slice Ao16 x7_6.length co16) x7_6) ∧ Qa (Kd.R k100 100 wc w.heap.size (fun k_ => some k_ ≠ ((.slice Ao16 x7_6.length co16) : Value).ownBlock) (.slice (some ⟨go107, 0, none⟩) x34_107.length co107) x34_107) ∧ Qa (Kd.R (Kd.int .i64) 3 wc w.heap.size (fun _ => True) v176 t175) ∧ Qa (wc.heap[gb101]? = some (.cells #[(.slice A0_0 l0_0.length c0_0), .int .u8 a0_1, .int .u8 a0_2, .int .u8 a0_3, .int .u8 a0_4, .int .u8 a0_5] 91 (0, 0))) ∧ Qa (wc.heap[gb110]? = some (.cells #[.int .i64 t105, .int .i64 t106, .int .i64 t107, .int .i64 t108, .int .i64 t109] 26 (0, 0))) ∧ Qa (Below w.heap.size w wc))
                           case first =>
                            have H := HC121.out; clear HC121; by_cases c126 : t179 = 0
                            ·
                             rw [if_pos c126] at H; have c126b0 : (t179 == 0) = true := beq_iff_eq.mpr c126; have c126b1 : (t179 != 0) = false := bne_eq_false_iff_eq.mpr c126; clear c126
                             (first | rw [c126b0] | (simp only [QR, QU]; rw [c126b0]) | skip)
                             by_cases c127 : t164 = 0
                             ·
                              rw [if_pos c127] at H; have c127b0 : (t164 == 0) = true := beq_iff_eq.mpr c127; have c127b1 : (t164 != 0) = false := bne_eq_false_iff_eq.mpr c127; clear c127; have H' := Qa.mk H; clear H; go_wp2
                              go_meet
                              case rel => exact ⟨_, (decide (t178 < t163)), eS, H', ⟨by have := HJ6.out; have := HJ24.out; have := HK3.out; have := HJ44.out; have := HJ78.out; have := HK6.out; have := HJ107.out; first | omega | exact Nat.le_refl _⟩, ⟨by (try simp only [hl7_6]); (try simp only [hl34_107]); (with_reducible repeat (first | apply Kd.R_alloc | apply Kd.R_drewN | apply Kd.R_drew)); exact Kd.R_mono HO_7.out (fun _ hk => hk.1)⟩, ⟨by (try simp only [hl7_6]); (try simp only [hl34_107]); (with_reducible repeat (first | apply Kd.R_alloc | apply Kd.R_drewN | apply Kd.R_drew)); exact Kd.R_mono HO_34.out (fun _ hk => hk.1)⟩, ⟨by (try simp only [hl7_6]); (try simp only [hl34_107]); (with_reducible repeat (first | apply Kd.R_alloc | apply Kd.R_drewN | apply Kd.R_drew)); exact HO177.out⟩, ⟨by (try simp only [hl7_6]); (try simp only [hl34_107]); (with_reducible repeat (first | refine Qt ?_ _ | refine Qh ?_ | refine Qap ?_ _)); exact BK101.out⟩, ⟨by (try simp only [hl7_6]); (try simp only [hl34_107]); (with_reducible repeat (first | refine Qt ?_ _ | refine Qh ?_ | refine Qap ?_ _)); exact BK110.out⟩, ⟨pE HB⟩⟩
                             ·
                              rw [if_neg c127] at H; have c127b0 : (t164 == 0) = false := beq_eq_false_iff_ne.mpr c127; have c127b1 : (t164 != 0) = true := bne_iff_ne.mpr c127; have H' := Qa.mk H; clear H; go_wp2
                              go_meet
                              case rel => exact ⟨_, (true), eS, H', ⟨by have := HJ6.out; have := HJ24.out; have := HK3.out; have := HJ44.out; have := HJ78.out; have := HK6.out; have := HJ107.out; first | omega | exact Nat.le_refl _⟩, ⟨by (try simp only [hl7_6]); (try simp only [hl34_107]); (with_reducible repeat (first | apply Kd.R_alloc | apply Kd.R_drewN | apply Kd.R_drew)); exact Kd.R_mono HO_7.out (fun _ hk => hk.1)⟩, ⟨by (try simp only [hl7_6]); (try simp only [hl34_107]); (with_reducible repeat (first | apply Kd.R_alloc | apply Kd.R_drewN | apply Kd.R_drew)); exact Kd.R_mono HO_34.out (fun _ hk => hk.1)⟩, ⟨by (try simp only [hl7_6]); (try simp only [hl34_107]); (with_reducible repeat (first | apply Kd.R_alloc | apply Kd.R_drewN | apply Kd.R_drew)); exact HO177.out⟩, ⟨by (try simp only [hl7_6]); (try simp only [hl34_107]); (with_reducible repeat (first | refine Qt ?_ _ | refine Qh ?_ | refine Qap ?_ _)); exact BK101.out⟩, ⟨by (try simp only [hl7_6]); (try simp only [hl34_107]); (with_reducible repeat (first | refine Qt ?_ _ | refine Qh ?_ | refine Qap ?_ _)); exact BK110.out⟩, ⟨pE HB⟩⟩
                            ·
                             rw [if_neg c126] at H; have c126b0 : (t179 == 0) = false := beq_eq_false_iff_ne.mpr c126; have c126b1 : (t179 != 0) = true := bne_iff_ne.mpr c126
                             (first | rw [c126b0] | (simp only [QR, QU]; rw [c126b0]) | skip)
                             have H' := Qa.mk H; clear H; go_wp2
                             go_meet
                             case rel => exact ⟨_, (false), eS, H', ⟨by have := HJ6.out; have := HJ24.out; have := HK3.out; have := HJ44.out; have := HJ78.out; have := HK6.out; have := HJ107.out; first | omega | exact Nat.le_refl _⟩, ⟨by (try simp only [hl7_6]); (try simp only [hl34_107]); (with_reducible repeat (first | apply Kd.R_alloc | apply Kd.R_drewN | apply Kd.R_drew)); exact Kd.R_mono HO_7.out (fun _ hk => hk.1)⟩, ⟨by (try simp only [hl7_6]); (try simp only [hl34_107]); (with_reducible repeat (first | apply Kd.R_alloc | apply Kd.R_drewN | apply Kd.R_drew)); exact Kd.R_mono HO_34.out (fun _ hk => hk.1)⟩, ⟨by (try simp only [hl7_6]); (try simp only [hl34_107]); (with_reducible repeat (first | apply Kd.R_alloc | apply Kd.R_drewN | apply Kd.R_drew)); exact HO177.out⟩, ⟨by (try simp only [hl7_6]); (try simp only [hl34_107]); (with_reducible repeat (first | refine Qt ?_ _ | refine Qh ?_ | refine Qap ?_ _)); exact BK101.out⟩, ⟨by (try simp only [hl7_6]); (try simp only [hl34_107]); (with_reducible repeat (first | refine Qt ?_ _ | refine Qh ?_ | refine Qap ?_ _)); exact BK110.out⟩, ⟨pE HB⟩⟩
                           case rest =>
                            as_aux_lemma =>
                            clear HC121
                            (try clear c116b0); (try clear c117b0); (try clear c118b0); (try clear hx171_0); (try clear hx171_1); (try clear hx171_2); (try clear hx171_3); (try clear hx171_4); (try clear p171); (try clear q171)
                            obtain ⟨kq, x38_120, rfl, HA, HJ120, HO_7, HO_34, HO_35, BK101, BK110, HB⟩ := hcut
                            cases kq with
                            | zero => exact absurd HA.out (by simp [Qao.j9])
                            | succ kj120 =>
                             have H := HA.out; clear HA; simp only [Qao.j9] at H; have HC128 := Qa.mk H; clear H; go_upto_region 37 with (fail)
                             go_cut [283] (fun v283 wc => ∃ (kq : Nat) (x283_127 : Bool), v283 = .bool x283_127 ∧ Qa (Qao.j10 kq x7_6 ji73 t151 t152 t163 t164 x33_6 x283_127 t105 t106 t107 t108 t109 = some r) ∧ Qa (kq ≤ kj120) ∧ Qa (Kd.R k100 100 wc w.heap.size (fun _ => True) (.slice Ao16 x7_6.length co16) x7_6) ∧ Qa (wc.heap[gb101]? = some (.cells #[(.slice A0_0 l0_0.length c0_0), .int .u8 a0_1, .int .u8 a0_2, .int .u8 a0_3, .int .u8 a0_4, .int .u8 a0_5] 91 (0, 0))) ∧ Qa (wc.heap[gb110]? = some (.cells #[.int .i64 t105, .int .i64 t106, .int .i64 t107, .int .i64 t108, .int .i64 t109] 26 (0, 0))) ∧ Qa (Below w.heap.size w wc))
                             case first =>
                              have H := HC128.out; clear HC128; by_cases c129 : t179 = 0
                              ·
                               rw [if_pos c129] at H; have c129b0 : (t179 == 0) = true := beq_iff_eq.mpr c129; have c129b1 : (t179 != 0) = false := bne_eq_false_iff_eq.mpr c129; clear c129
                               (first | rw [c129b0] | (simp only [QR, QU]; rw [c129b0]) | skip)
                               by_cases c130 : t152 = 0
                               ·
                                rw [if_pos c130] at H; have c130b0 : (t152 == 0) = true := beq_iff_eq.mpr c130; have c130b1 : (t152 != 0) = false := bne_eq_false_iff_eq.mpr c130; clear c130; by_cases c131 : (x38_120 != (x33_6 == 0)) = true
                                ·
                                 rw [if_pos c131] at H; have c131b0 : (x38_120 != (x33_6 == 0)) = true := c131
                                 (try (have c131b1 : decide (x38_120 = (x33_6 == 0)) = false := by simpa using c131))
                                 (try (have c131b2 : (x38_120 == (x33_6 == 0)) = false := by simpa using c131))
                                 (try (have c131b3 : ¬ (x38_120 = (x33_6 == 0)) := by simpa using c131))
                                 clear c131; exact (Qao.dead_j10 _ _ _ _ _ _ _ _ _ _ _ _ _ _ H HRT.out).elim
                                ·
                                 rw [if_neg c131] at H; have c131b0 : (x38_120 != (x33_6 == 0)) = false := by simpa using c131
                                 (try (have c131b1 : decide (x38_120 = (x33_6 == 0)) = true := by simpa using c131))
                                 (try (have c131b2 : (x38_120 == (x33_6 == 0)) = true := by simpa using c131))
                                 clear c131; by_cases c132 : x38_120 = true
                                 ·
                                  subst c132; rw [if_pos rfl] at H; obtain ⟨t180, A133, H⟩ := bi H; by_cases c134 : t180 = true
                                  ·
                                   subst c134; rw [if_pos rfl] at H; by_cases c135 : 0 ≤ ji73
                                   ·
                                    rw [if_pos c135] at H; have c135b0 : decide (0 ≤ ji73) = true := decide_eq_true c135; clear c135; by_cases c136 : ji73 < (t175.length : Int)
                                    ·
                                     rw [if_pos c136] at H; have c136b0 : decide (ji73 < (t175.length : Int)) = true := decide_eq_true c136; clear c136; have H' := Qa.mk H; clear H; obtain ⟨Ao137, co137, eo137⟩ := Kd.R_slice HO_35.out; subst eo137; go_wp2_with (first | (go_at_call 60; (with_reducible refine (Qau.calls kj120 _ _ x34_107 _ _ t175 true _ ?side1 ?side2 ?side3 ?side4 A133.out).mono ?_); (case side1 => exact pC (Kd.R_reads' HO_34.out).2.2); (case side2 => exact (Kd.R_reads' HO_34.out).2.1); (case side3 => exact pC (Kd.R_reads' HO_35.out).2.2); (case side4 => exact (Kd.R_reads' HO_35.out).2.1); rintro e w' ⟨rfl, ⟨nd, rfl⟩⟩; have p181 : 0 ≤ (ji73 : Int) := dT; have q181 : ji73 < (t175.length : Int) := dT; obtain ⟨ad181, e181, hx181_0⟩ := Kd.at_int (Kd.R_reads' HO_35.out).2.2 ji73 p181 q181; cases e181; replace p181 := eq_true p181; replace q181 := eq_true q181))
                                     go_meet
                                     case rel => exact ⟨_, (((rd t175 ji73) == 0)), (by first | rfl | (simp; done) | (simp only [← hji73] <;> (first | rfl | simp)) | (simp [*]; done)), H', ⟨by have := HJ6.out; have := HJ24.out; have := HK3.out; have := HJ44.out; have := HJ78.out; have := HK6.out; have := HJ107.out; have := HJ120.out; first | omega | exact Nat.le_refl _⟩, ⟨by (try simp only [hl7_6]); (try simp only [hl34_107]); (with_reducible repeat (first | apply Kd.R_alloc | apply Kd.R_drewN | apply Kd.R_drew)); exact Kd.R_mono HO_7.out (fun _ hk => trivial)⟩, ⟨by (try simp only [hl7_6]); (try simp only [hl34_107]); (with_reducible repeat (first | refine Qt ?_ _ | refine Qh ?_ | refine Qap ?_ _)); exact BK101.out⟩, ⟨by (try simp only [hl7_6]); (try simp only [hl34_107]); (with_reducible repeat (first | refine Qt ?_ _ | refine Qh ?_ | refine Qap ?_ _)); exact BK110.out⟩, ⟨pE HB⟩⟩
                                    ·
                                     rw [if_neg c136] at H; exact absurd H (by simp)
                                   ·
                                    rw [if_neg c135] at H; exact absurd H (by simp)
                                  ·
                                   replace c134 := Bool.eq_false_iff.mpr c134; subst c134; rw [if_neg (show ¬ (false = true) by decide)] at H; exact (Qao.dead_j10 _ _ _ _ _ _ _ _ _ _ _ _ _ _ H HRT.out).elim
                                 ·
                                  replace c132 := Bool.eq_false_iff.mpr c132; subst c132; rw [if_neg (show ¬ (false = true) by decide)] at H; have H' := Qa.mk H; clear H; go_wp2
                                  go_meet
                                  case rel => exact ⟨_, (false), eS, H', ⟨by have := HJ6.out; have := HJ24.out; have := HK3.out; have := HJ44.out; have := HJ78.out; have := HK6.out; have := HJ107.out; have := HJ120.out; first | omega | exact Nat.le_refl _⟩, ⟨by (try simp only [hl7_6]); (try simp only [hl34_107]); (with_reducible repeat (first | apply Kd.R_alloc | apply Kd.R_drewN | apply Kd.R_drew)); exact Kd.R_mono HO_7.out (fun _ hk => trivial)⟩, ⟨by (try simp only [hl7_6]); (try simp only [hl34_107]); (with_reducible repeat (first | refine Qt ?_ _ | refine Qh ?_ | refine Qap ?_ _)); exact BK101.out⟩, ⟨by (try simp only [hl7_6]); (try simp only [hl34_107]); (with_reducible repeat (first | refine Qt ?_ _ | refine Qh ?_ | refine Qap ?_ _)); exact BK110.out⟩, ⟨pE HB⟩⟩
                               ·
                                rw [if_neg c130] at H; have c130b0 : (t152 == 0) = false := beq_eq_false_iff_ne.mpr c130; have c130b1 : (t152 != 0) = true := bne_iff_ne.mpr c130; by_cases c138 : (x38_120 != false) = true
                                ·
                                 rw [if_pos c138] at H; have c138b0 : (x38_120 != false) = true := c138
                                 (try (have c138b1 : decide (x38_120 = false) = false := by simpa using c138))
                                 (try (have c138b2 : (x38_120 == false) = false := by simpa using c138))
                                 (try (have c138b3 : ¬ (x38_120 = false) := by simpa using c138))
                                 clear c138; exact (Qao.dead_j10 _ _ _ _ _ _ _ _ _ _ _ _ _ _ H HRT.out).elim
                                ·
                                 rw [if_neg c138] at H; have c138b0 : (x38_120 != false) = false := by simpa using c138
                                 (try (have c138b1 : decide (x38_120 = false) = true := by simpa using c138))
                                 (try (have c138b2 : (x38_120 == false) = true := by simpa using c138))
                                 clear c138; by_cases c139 : x38_120 = true
                                 ·
                                  subst c139; rw [if_pos rfl] at H; obtain ⟨t182, A140, H⟩ := bi H; by_cases c141 : t182 = true
                                  ·
                                   subst c141; rw [if_pos rfl] at H; by_cases c142 : 0 ≤ ji73
                                   ·
                                    rw [if_pos c142] at H; have c142b0 : decide (0 ≤ ji73) = true := decide_eq_true c142; clear c142; by_cases c143 : ji73 < (t175.length : Int)
                                    ·
                                     rw [if_pos c143] at H; have c143b0 : decide (ji73 < (t175.length : Int)) = true := decide_eq_true c143; clear c143; have H' := Qa.mk H; clear H; obtain ⟨Ao144, co144, eo144⟩ := Kd.R_slice HO_35.out; subst eo144; go_wp2_with (first | (go_at_call 60; (with_reducible refine (Qau.calls kj120 _ _ x34_107 _ _ t175 true _ ?side1 ?side2 ?side3 ?side4 A140.out).mono ?_); (case side1 => exact pC (Kd.R_reads' HO_34.out).2.2); (case side2 => exact (Kd.R_reads' HO_34.out).2.1); (case side3 => exact pC (Kd.R_reads' HO_35.out).2.2); (case side4 => exact (Kd.R_reads' HO_35.out).2.1); rintro e w' ⟨rfl, ⟨nd, rfl⟩⟩; have p183 : 0 ≤ (ji73 : Int) := dT; have q183 : ji73 < (t175.length : Int) := dT; obtain ⟨ad183, e183, hx183_0⟩ := Kd.at_int (Kd.R_reads' HO_35.out).2.2 ji73 p183 q183; cases e183; replace p183 := eq_true p183; replace q183 := eq_true q183))
                                     go_meet
                                     case rel => exact ⟨_, (((rd t175 ji73) == 0)), (by first | rfl | (simp; done) | (simp only [← hji73] <;> (first | rfl | simp)) | (simp [*]; done)), H', ⟨by have := HJ6.out; have := HJ24.out; have := HK3.out; have := HJ44.out; have := HJ78.out; have := HK6.out; have := HJ107.out; have := HJ120.out; first | omega | exact Nat.le_refl _⟩, ⟨by (try simp only [hl7_6]); (try simp only [hl34_107]); (with_reducible repeat (first | apply Kd.R_alloc | apply Kd.R_drewN | apply Kd.R_drew)); exact Kd.R_mono HO_7.out (fun _ hk => trivial)⟩, ⟨by (try simp only [hl7_6]); (try simp only [hl34_107]); (with_reducible repeat (first | refine Qt ?_ _ | refine Qh ?_ | refine Qap ?_ _)); exact BK101.out⟩, ⟨by (try simp only [hl7_6]); (try simp only [hl34_107]); (with_reducible repeat (first | refine Qt ?_ _ | refine Qh ?_ | refine Qap ?_ _)); exact BK110.out⟩, ⟨pE HB⟩⟩
                                    ·
                                     rw [if_neg c143] at H; exact absurd H (by simp)
                                   ·
                                    rw [if_neg c142] at H; exact absurd H (by simp)
                                  ·
                                   replace c141 := Bool.eq_false_iff.mpr c141; subst c141; rw [if_neg (show ¬ (false = true) by decide)] at H; exact (Qao.dead_j10 _ _ _ _ _ _ _ _ _ _ _ _ _ _ H HRT.out).elim
                                 ·
                                  replace c139 := Bool.eq_false_iff.mpr c139; subst c139; rw [if_neg (show ¬ (false = true) by decide)] at H; have H' := Qa.mk H; clear H; go_wp2
                                  go_meet
                                  case rel => exact ⟨_, (false), eS, H', ⟨by have := HJ6.out; have := HJ24.out; have := HK3.out; have := HJ44.out; have := HJ78.out; have := HK6.out; have := HJ107.out; have := HJ120.out; first | omega | exact Nat.le_refl _⟩, ⟨by (try simp only [hl7_6]); (try simp only [hl34_107]); (with_reducible repeat (first | apply Kd.R_alloc | apply Kd.R_drewN | apply Kd.R_drew)); exact Kd.R_mono HO_7.out (fun _ hk => trivial)⟩, ⟨by (try simp only [hl7_6]); (try simp only [hl34_107]); (with_reducible repeat (first | refine Qt ?_ _ | refine Qh ?_ | refine Qap ?_ _)); exact BK101.out⟩, ⟨by (try simp only [hl7_6]); (try simp only [hl34_107]); (with_reducible repeat (first | refine Qt ?_ _ | refine Qh ?_ | refine Qap ?_ _)); exact BK110.out⟩, ⟨pE HB⟩⟩
                              ·
                               rw [if_neg c129] at H; have c129b0 : (t179 == 0) = false := beq_eq_false_iff_ne.mpr c129; have c129b1 : (t179 != 0) = true := bne_iff_ne.mpr c129
                               (first | rw [c129b0] | (simp only [QR, QU]; rw [c129b0]) | skip)
                               by_cases c145 : t179 = 9
                               ·
                                rw [if_pos c145] at H; have c145b0 : (t179 == 9) = true := beq_iff_eq.mpr c145; have c145b1 : (t179 != 9) = false := bne_eq_false_iff_eq.mpr c145; clear c145; by_cases c146 : t152 = 0
                                ·
                                 rw [if_pos c146] at H; have c146b0 : (t152 == 0) = true := beq_iff_eq.mpr c146; have c146b1 : (t152 != 0) = false := bne_eq_false_iff_eq.mpr c146; clear c146; by_cases c147 : (x38_120 != (x33_6 == 0)) = true
                                 ·
                                  rw [if_pos c147] at H; have c147b0 : (x38_120 != (x33_6 == 0)) = true := c147
                                  (try (have c147b1 : decide (x38_120 = (x33_6 == 0)) = false := by simpa using c147))
                                  (try (have c147b2 : (x38_120 == (x33_6 == 0)) = false := by simpa using c147))
                                  (try (have c147b3 : ¬ (x38_120 = (x33_6 == 0)) := by simpa using c147))
                                  clear c147; exact (Qao.dead_j10 _ _ _ _ _ _ _ _ _ _ _ _ _ _ H HRT.out).elim
                                 ·
                                  rw [if_neg c147] at H; have c147b0 : (x38_120 != (x33_6 == 0)) = false := by simpa using c147
                                  (try (have c147b1 : decide (x38_120 = (x33_6 == 0)) = true := by simpa using c147))
                                  (try (have c147b2 : (x38_120 == (x33_6 == 0)) = true := by simpa using c147))
                                  clear c147; by_cases c148 : x38_120 = true
                                  ·
                                   subst c148; rw [if_pos rfl] at H; obtain ⟨t184, A149, H⟩ := bi H; by_cases c150 : t184 = true
                                   ·
                                    subst c150; rw [if_pos rfl] at H; by_cases c151 : 0 ≤ ji73
                                    ·
                                     rw [if_pos c151] at H; have c151b0 : decide (0 ≤ ji73) = true := decide_eq_true c151; clear c151; by_cases c152 : ji73 < (t175.length : Int)
                                     ·
                                      rw [if_pos c152] at H; have c152b0 : decide (ji73 < (t175.length : Int)) = true := decide_eq_true c152; clear c152; have H' := Qa.mk H; clear H; obtain ⟨Ao153, co153, eo153⟩ := Kd.R_slice HO_35.out; subst eo153; go_wp2_with (first | (go_at_call 60; (with_reducible refine (Qau.calls kj120 _ _ x34_107 _ _ t175 true _ ?side1 ?side2 ?side3 ?side4 A149.out).mono ?_); (case side1 => exact pC (Kd.R_reads' HO_34.out).2.2); (case side2 => exact (Kd.R_reads' HO_34.out).2.1); (case side3 => exact pC (Kd.R_reads' HO_35.out).2.2); (case side4 => exact (Kd.R_reads' HO_35.out).2.1); rintro e w' ⟨rfl, ⟨nd, rfl⟩⟩; have p185 : 0 ≤ (ji73 : Int) := dT; have q185 : ji73 < (t175.length : Int) := dT; obtain ⟨ad185, e185, hx185_0⟩ := Kd.at_int (Kd.R_reads' HO_35.out).2.2 ji73 p185 q185; cases e185; replace p185 := eq_true p185; replace q185 := eq_true q185))
                                      go_meet
                                      case rel => exact ⟨_, (((rd t175 ji73) == 0)), (by first | rfl | (simp; done) | (simp only [← hji73] <;> (first | rfl | simp)) | (simp [*]; done)), H', ⟨by have := HJ6.out; have := HJ24.out; have := HK3.out; have := HJ44.out; have := HJ78.out; have := HK6.out; have := HJ107.out; have := HJ120.out; first | omega | exact Nat.le_refl _⟩, ⟨by (try simp only [hl7_6]); (try simp only [hl34_107]); (with_reducible repeat (first | apply Kd.R_alloc | apply Kd.R_drewN | apply Kd.R_drew)); exact Kd.R_mono HO_7.out (fun _ hk => trivial)⟩, ⟨by (try simp only [hl7_6]); (try simp only [hl34_107]); (with_reducible repeat (first | refine Qt ?_ _ | refine Qh ?_ | refine Qap ?_ _)); exact BK101.out⟩, ⟨by (try simp only [hl7_6]); (try simp only [hl34_107]); (with_reducible repeat (first | refine Qt ?_ _ | refine Qh ?_ | refine Qap ?_ _)); exact BK110.out⟩, ⟨pE HB⟩⟩
                                     ·
                                      rw [if_neg c152] at H; exact absurd H (by simp)
                                    ·
                                     rw [if_neg c151] at H; exact absurd H (by simp)
                                   ·
                                    replace c150 := Bool.eq_false_iff.mpr c150; subst c150; rw [if_neg (show ¬ (false = true) by decide)] at H; exact (Qao.dead_j10 _ _ _ _ _ _ _ _ _ _ _ _ _ _ H HRT.out).elim
                                  ·
                                   replace c148 := Bool.eq_false_iff.mpr c148; subst c148; rw [if_neg (show ¬ (false = true) by decide)] at H; have H' := Qa.mk H; clear H; go_wp2
                                   go_meet
                                   case rel => exact ⟨_, (false), eS, H', ⟨by have := HJ6.out; have := HJ24.out; have := HK3.out; have := HJ44.out; have := HJ78.out; have := HK6.out; have := HJ107.out; have := HJ120.out; first | omega | exact Nat.le_refl _⟩, ⟨by (try simp only [hl7_6]); (try simp only [hl34_107]); (with_reducible repeat (first | apply Kd.R_alloc | apply Kd.R_drewN | apply Kd.R_drew)); exact Kd.R_mono HO_7.out (fun _ hk => trivial)⟩, ⟨by (try simp only [hl7_6]); (try simp only [hl34_107]); (with_reducible repeat (first | refine Qt ?_ _ | refine Qh ?_ | refine Qap ?_ _)); exact BK101.out⟩, ⟨by (try simp only [hl7_6]); (try simp only [hl34_107]); (with_reducible repeat (first | refine Qt ?_ _ | refine Qh ?_ | refine Qap ?_ _)); exact BK110.out⟩, ⟨pE HB⟩⟩
                                ·
                                 rw [if_neg c146] at H; have c146b0 : (t152 == 0) = false := beq_eq_false_iff_ne.mpr c146; have c146b1 : (t152 != 0) = true := bne_iff_ne.mpr c146; by_cases c154 : (x38_120 != false) = true
                                 ·
                                  rw [if_pos c154] at H; have c154b0 : (x38_120 != false) = true := c154
                                  (try (have c154b1 : decide (x38_120 = false) = false := by simpa using c154))
                                  (try (have c154b2 : (x38_120 == false) = false := by simpa using c154))
                                  (try (have c154b3 : ¬ (x38_120 = false) := by simpa using c154))
                                  clear c154; exact (Qao.dead_j10 _ _ _ _ _ _ _ _ _ _ _ _ _ _ H HRT.out).elim
                                 ·
                                  rw [if_neg c154] at H; have c154b0 : (x38_120 != false) = false := by simpa using c154
                                  (try (have c154b1 : decide (x38_120 = false) = true := by simpa using c154))
                                  (try (have c154b2 : (x38_120 == false) = true := by simpa using c154))
                                  clear c154; by_cases c155 : x38_120 = true
                                  ·
                                   subst c155; rw [if_pos rfl] at H; obtain ⟨t186, A156, H⟩ := bi H; by_cases c157 : t186 = true
                                   ·
                                    subst c157; rw [if_pos rfl] at H; by_cases c158 : 0 ≤ ji73
                                    ·
                                     rw [if_pos c158] at H; have c158b0 : decide (0 ≤ ji73) = true := decide_eq_true c158; clear c158; by_cases c159 : ji73 < (t175.length : Int)
                                     ·
                                      rw [if_pos c159] at H; have c159b0 : decide (ji73 < (t175.length : Int)) = true := decide_eq_true c159; clear c159; have H' := Qa.mk H; clear H; obtain ⟨Ao160, co160, eo160⟩ := Kd.R_slice HO_35.out; subst eo160; go_wp2_with (first | (go_at_call 60; (with_reducible refine (Qau.calls kj120 _ _ x34_107 _ _ t175 true _ ?side1 ?side2 ?side3 ?side4 A156.out).mono ?_); (case side1 => exact pC (Kd.R_reads' HO_34.out).2.2); (case side2 => exact (Kd.R_reads' HO_34.out).2.1); (case side3 => exact pC (Kd.R_reads' HO_35.out).2.2); (case side4 => exact (Kd.R_reads' HO_35.out).2.1); rintro e w' ⟨rfl, ⟨nd, rfl⟩⟩; have p187 : 0 ≤ (ji73 : Int) := dT; have q187 : ji73 < (t175.length : Int) := dT; obtain ⟨ad187, e187, hx187_0⟩ := Kd.at_int (Kd.R_reads' HO_35.out).2.2 ji73 p187 q187; cases e187; replace p187 := eq_true p187; replace q187 := eq_true q187))
                                      go_meet
                                      case rel => exact ⟨_, (((rd t175 ji73) == 0)), (by first | rfl | (simp; done) | (simp only [← hji73] <;> (first | rfl | simp)) | (simp [*]; done)), H', ⟨by have := HJ6.out; have := HJ24.out; have := HK3.out; have := HJ44.out; have := HJ78.out; have := HK6.out; have := HJ107.out; have := HJ120.out; first | omega | exact Nat.le_refl _⟩, ⟨by (try simp only [hl7_6]); (try simp only [hl34_107]); (with_reducible repeat (first | apply Kd.R_alloc | apply Kd.R_drewN | apply Kd.R_drew)); exact Kd.R_mono HO_7.out (fun _ hk => trivial)⟩, ⟨by (try simp only [hl7_6]); (try simp only [hl34_107]); (with_reducible repeat (first | refine Qt ?_ _ | refine Qh ?_ | refine Qap ?_ _)); exact BK101.out⟩, ⟨by (try simp only [hl7_6]); (try simp only [hl34_107]); (with_reducible repeat (first | refine Qt ?_ _ | refine Qh ?_ | refine Qap ?_ _)); exact BK110.out⟩, ⟨pE HB⟩⟩
                                     ·
                                      rw [if_neg c159] at H; exact absurd H (by simp)
                                    ·
                                     rw [if_neg c158] at H; exact absurd H (by simp)
                                   ·
                                    replace c157 := Bool.eq_false_iff.mpr c157; subst c157; rw [if_neg (show ¬ (false = true) by decide)] at H; exact (Qao.dead_j10 _ _ _ _ _ _ _ _ _ _ _ _ _ _ H HRT.out).elim
                                  ·
                                   replace c155 := Bool.eq_false_iff.mpr c155; subst c155; rw [if_neg (show ¬ (false = true) by decide)] at H; have H' := Qa.mk H; clear H; go_wp2
                                   go_meet
                                   case rel => exact ⟨_, (false), eS, H', ⟨by have := HJ6.out; have := HJ24.out; have := HK3.out; have := HJ44.out; have := HJ78.out; have := HK6.out; have := HJ107.out; have := HJ120.out; first | omega | exact Nat.le_refl _⟩, ⟨by (try simp only [hl7_6]); (try simp only [hl34_107]); (with_reducible repeat (first | apply Kd.R_alloc | apply Kd.R_drewN | apply Kd.R_drew)); exact Kd.R_mono HO_7.out (fun _ hk => trivial)⟩, ⟨by (try simp only [hl7_6]); (try simp only [hl34_107]); (with_reducible repeat (first | refine Qt ?_ _ | refine Qh ?_ | refine Qap ?_ _)); exact BK101.out⟩, ⟨by (try simp only [hl7_6]); (try simp only [hl34_107]); (with_reducible repeat (first | refine Qt ?_ _ | refine Qh ?_ | refine Qap ?_ _)); exact BK110.out⟩, ⟨pE HB⟩⟩
                               ·
                                rw [if_neg c145] at H; have c145b0 : (t179 == 9) = false := beq_eq_false_iff_ne.mpr c145; have c145b1 : (t179 != 9) = true := bne_iff_ne.mpr c145; exact (Qao.dead_j10 _ _ _ _ _ _ _ _ _ _ _ _ _ _ H HRT.out).elim
                             case rest =>
                              as_aux_lemma =>
                              clear HC128; obtain ⟨kq, x283_127, rfl, HA, HJ127, HO_7, BK101, BK110, HB⟩ := hcut
                              cases kq with
                              | zero => exact absurd HA.out (by simp [Qao.j10])
                              | succ kj127 =>
                               have H := HA.out; clear HA; simp only [Qao.j10] at H; by_cases c161 : x283_127 = true
                               ·
                                subst c161; rw [if_pos rfl] at H; exact absurd ((Option.some.inj H).trans HRT.out) (by simp)
                               ·
                                replace c161 := Bool.eq_false_iff.mpr c161; subst c161; rw [if_neg (show ¬ (false = true) by decide)] at H; have H' := Qa.mk H; clear H; go_wp2
                                (try simp only [← hl7_6, ← hl34_107])
                                go_roundg kj127
                                case measure => have := HJ6.out; have := HJ24.out; have := HK3.out; have := HJ44.out; have := HJ78.out; have := HK6.out; have := HJ107.out; have := HJ120.out; have := HJ127.out; omega
                                case rel => exact ⟨(x7_6), (wrap64 (x33_6 + 1)), eS, H', ⟨by have := HJ6.out; have := HJ24.out; have := HK3.out; have := HJ44.out; have := HJ78.out; have := HK6.out; have := HJ107.out; have := HJ120.out; have := HJ127.out; omega⟩, ⟨by (try simp only [hl7_6]); (try simp only [hl34_107]); (with_reducible repeat (first | apply Kd.R_alloc | apply Kd.R_drewN | apply Kd.R_drew)); exact HO_7.out⟩, ⟨by (try simp only [hl7_6]); (try simp only [hl34_107]); (with_reducible repeat (first | refine Qt ?_ _ | refine Qh ?_ | refine Qap ?_ _)); exact BK101.out⟩, ⟨by (try simp only [hl7_6]); (try simp only [hl34_107]); (with_reducible repeat (first | refine Qt ?_ _ | refine Qh ?_ | refine Qap ?_ _)); exact BK110.out⟩, ⟨pE HB⟩⟩
                         ·
                          rw [if_neg c117] at H; exact absurd H (by simp)
                        ·
                         rw [if_neg c116] at H; exact absurd H (by simp)
                     ·
                      rw [if_neg c106] at H; exact absurd H (by simp)
                    ·
                     rw [if_neg c105] at H; exact absurd H (by simp)
                   ·
                    rw [if_neg c103] at H; have c103b0 : decide (x33_6 < 2) = false := decide_eq_false c103; clear c103; obtain ⟨t165, A162, H⟩ := bi H; obtain rfl := Option.some.inj H; go_wp2_with (first | ((with_reducible refine gc 15 rfl ?_); refine gL 284 Tryz.func15 #[] ?_; (with_reducible refine (Qd.calls k6  t165 _ A162.out).mono ?_); rintro e w163 ⟨rfl, hb⟩; refine ⟨_, rfl, ?_⟩; replace HO_7 := rb HO_7 hb; replace BK101 := bb BK101 hb; replace BK110 := bb BK110 hb; replace HB := bs HB hb; clear hb)); go_ret; exact ⟨by first | rfl | (simp [Zz, Zy] <;> rfl) | (simp only [← hji73]; first | rfl | (simp [Zz, Zy] <;> rfl)) | (simp [*, Zz, Zy] <;> rfl), pE HB⟩
             ·
              rw [if_neg c75] at H; exact absurd H (by simp)
            ·
             rw [if_neg c74] at H; exact absurd H (by simp)
end Go.Proofs.YtjaapkkpmegkfaaGreat.P
