/- Part 13 of what the law's proof needs: words, walks of functions and plain facts. -/
import Derived.Test.YtjaapkkpmegkfaaGreatM02
import Derived.Test.YtjaapkkpmegkfaaGreatM03
import Derived.Test.YtjaapkkpmegkfaaGreatM04
import Derived.Test.YtjaapkkpmegkfaaGreatM05
import Derived.Test.YtjaapkkpmegkfaaGreatM07
import Derived.Test.YtjaapkkpmegkfaaGreatM08
import Derived.Test.YtjaapkkpmegkfaaGreatM09
import Derived.Test.YtjaapkkpmegkfaaGreatM11
import Derived.Test.YtjaapkkpmegkfaaGreatM12
set_option linter.unusedVariables false
set_option linter.unusedSimpArgs false
namespace Go.Proofs.YtjaapkkpmegkfaaGreat.P
open Go.RowKit Go.Proofs.YtjaapkkpmegkfaaGreatW.PrintWords Go.Proofs.YtjaapkkpmegkfaaGreatW.PrintLast Go.Proofs.YtjaapkkpmegkfaaGreatW.PrintMore
attribute [local go_sem] JG JH JY JX Jv Ju JJ JK
attribute [local go_sem high] eqA24
mutual
def Qd.j0 : Nat → Bool → Bool → Bool → List Int → Int → Int → List (List Int) → List Int → List Int → List Int → Int → List Int → Bool → Int → Int → Int → Int → Option Bool
 | 0, _, _, _, _, _, _, _, _, _, _, _, _, _, _, _, _, _ => none
 | k + 1, x3, x4, x5, x9, x10, x12, x14, x16, x17, x19, x21, x23, x138, x110000, x110001, x140000, x140001 => if x138 = true then (some false) else ((QC.f 40 47).bind fun bt240 => (if (!(x110000 == bt240.1) || (!(x110001 == bt240.2))) = true then (Qd.j1 k x16 x17 x19 x21 x23 true) else (if x3 = true then (Qd.j1 k x16 x17 x19 x21 x23 true) else (if x4 = true then (if x5 = true then (Qd.j1 k x16 x17 x19 x21 x23 true) else ((QC.f (-3) 14).bind fun bt242 => (if (!(x140000 == bt242.1) || (!(x140001 == bt242.2))) = true then (Qd.j1 k x16 x17 x19 x21 x23 true) else ((Qm.f k x9 (([4, 1] : List Int))).bind fun t247 => (if t247 = true then (if x10 = 22 then (if x12 = 7 then (if 0 < (x14.length : Int) then ((Qm.f k (Jo x14 0) (([6, 0] : List Int))).bind fun t252 => (if t252 = true then (if 2 < (x14.length : Int) then ((Qm.f k (Jo x14 2) (([0, 3] : List Int))).bind fun t257 => (Qd.j1 k x16 x17 x19 x21 x23 (!t257))) else (none)) else (Qd.j1 k x16 x17 x19 x21 x23 true))) else (none)) else (Qd.j1 k x16 x17 x19 x21 x23 true)) else (Qd.j1 k x16 x17 x19 x21 x23 true)) else (Qd.j1 k x16 x17 x19 x21 x23 true)))))) else (Qd.j1 k x16 x17 x19 x21 x23 true)))))
def Qd.j1 : Nat → List Int → List Int → List Int → Int → List Int → Bool → Option Bool
 | 0, _, _, _, _, _, _ => none
 | k + 1, x16, x17, x19, x21, x23, x186 => if x186 = true then (some false) else ((Qm.f k x16 (([1] : List Int))).bind fun t261 => (if t261 = true then ((Qm.f k x17 (([0, 1] : List Int))).bind fun t265 => (if t265 = true then ((Qm.f k x19 (([6, 7, 8] : List Int))).bind fun t269 => (if t269 = true then (if x21 = 1 then ((Qm.f k x23 (([4, 4, 2] : List Int))).bind fun t273 => (if t273 = true then ((Jf.f ([] : List S100)).bind fun t274 => (some (t274 == 7))) else (some false))) else (some false)) else (some false))) else (some false))) else (some false)))
end
def Qd.f (k : Nat)  : Option Bool := (QA.f 30).bind fun bt101 => ((Zl.f bt101.1 bt101.2.1 bt101.2.2.1 bt101.2.2.2.1 bt101.2.2.2.2).bind fun bt106 => ((QL.f).bind fun t110 => ((QA.f 30).bind fun bt113 => ((Q0.f k t110 bt113.1 bt113.2.1 bt113.2.2.1 bt113.2.2.2.1 bt113.2.2.2.2 (([3, 1] : List Int))).bind fun bt121 => ((QL.f).bind fun t125 => ((QA.f 30).bind fun bt128 => ((JE.f k t125 bt128.1 bt128.2.1 bt128.2.2.1 bt128.2.2.2.1 bt128.2.2.2.2 (([3, 1] : List Int))).bind fun bt136 => ((QL.f).bind fun t140 => ((QA.f 20).bind fun bt143 => ((Jb.f k t140 bt143.1 bt143.2.1 bt143.2.2.1 bt143.2.2.2.1 bt143.2.2.2.2).bind fun bt148 => ((QL.f).bind fun t153 => ((QA.f 30).bind fun bt156 => ((Q7.f k t153 bt156.1 bt156.2.1 bt156.2.2.1 bt156.2.2.2.1 bt156.2.2.2.2 1).bind fun bt161 => ((QL.f).bind fun t163 => ((QA.f 30).bind fun bt166 => ((QA.f 30).bind fun bt171 => ((QA.f 30).bind fun bt176 => ((QA.f 30).bind fun bt181 => ((QD.f k t163 (([(⟨(⟨bt166.1, bt166.2.1⟩ : S24), (⟨bt166.2.2.1, bt166.2.2.2.1⟩ : S24), bt166.2.2.2.2⟩ : S26), (⟨(⟨bt171.1, bt171.2.1⟩ : S24), (⟨bt171.2.2.1, bt171.2.2.2.1⟩ : S24), bt171.2.2.2.2⟩ : S26), (⟨(⟨bt176.1, bt176.2.1⟩ : S24), (⟨bt176.2.2.1, bt176.2.2.2.1⟩ : S24), bt176.2.2.2.2⟩ : S26), (⟨(⟨bt181.1, bt181.2.1⟩ : S24), (⟨bt181.2.2.1, bt181.2.2.2.1⟩ : S24), bt181.2.2.2.2⟩ : S26)] : List S26))).bind fun bt189 => ((QC.f 48 52).bind fun bt193 => ((QC.f 48 52).bind fun bt195 => ((QN.f k (([(⟨20, 370, 4, (⟨bt193.1, bt193.2⟩ : S24)⟩ : S68), (⟨20, 360, 4, (⟨bt195.1, bt195.2⟩ : S24)⟩ : S68)] : List S68))).bind fun bt200 => ((Q9.f).bind fun bt207 => ((Qs.f k 9 (([(⟨bt207.1, bt207.2.1, bt207.2.2⟩ : S75)] : List S75)) 0).bind fun bt217 => ((Q9.f).bind fun bt221 => ((QT.f k 9 (([(⟨bt221.1, bt221.2.1, bt221.2.2⟩ : S75)] : List S75))).bind fun bt231 => ((QE.f k (([3, 3, 1] : List Int)) 10).bind fun bt236 => (if bt106.2.2 = 0 then (if bt121.2.2.2 = 0 then (if bt136.2.2 = 0 then (if bt148.2.2 = 0 then (if bt161.2 = 0 then (if bt189.2 = 0 then (if bt200.2.2 = 0 then (if bt217.2 = 0 then (if bt231.2 = 0 then (if bt236.2 = 0 then (Qd.j0 k bt121.1 bt121.2.1 bt121.2.2.1 bt148.1 bt148.2.1 bt161.1 bt189.1 bt200.1 bt200.2.1 bt217.1 bt231.1 bt236.1 ((bt189.1.length : Int) != 3) bt106.1 bt106.2.1 bt136.1 bt136.2.1) else (Qd.j0 k bt121.1 bt121.2.1 bt121.2.2.1 bt148.1 bt148.2.1 bt161.1 bt189.1 bt200.1 bt200.2.1 bt217.1 bt231.1 bt236.1 true bt106.1 bt106.2.1 bt136.1 bt136.2.1)) else (Qd.j0 k bt121.1 bt121.2.1 bt121.2.2.1 bt148.1 bt148.2.1 bt161.1 bt189.1 bt200.1 bt200.2.1 bt217.1 bt231.1 bt236.1 true bt106.1 bt106.2.1 bt136.1 bt136.2.1)) else (Qd.j0 k bt121.1 bt121.2.1 bt121.2.2.1 bt148.1 bt148.2.1 bt161.1 bt189.1 bt200.1 bt200.2.1 bt217.1 bt231.1 bt236.1 true bt106.1 bt106.2.1 bt136.1 bt136.2.1)) else (Qd.j0 k bt121.1 bt121.2.1 bt121.2.2.1 bt148.1 bt148.2.1 bt161.1 bt189.1 bt200.1 bt200.2.1 bt217.1 bt231.1 bt236.1 true bt106.1 bt106.2.1 bt136.1 bt136.2.1)) else (Qd.j0 k bt121.1 bt121.2.1 bt121.2.2.1 bt148.1 bt148.2.1 bt161.1 bt189.1 bt200.1 bt200.2.1 bt217.1 bt231.1 bt236.1 true bt106.1 bt106.2.1 bt136.1 bt136.2.1)) else (Qd.j0 k bt121.1 bt121.2.1 bt121.2.2.1 bt148.1 bt148.2.1 bt161.1 bt189.1 bt200.1 bt200.2.1 bt217.1 bt231.1 bt236.1 true bt106.1 bt106.2.1 bt136.1 bt136.2.1)) else (Qd.j0 k bt121.1 bt121.2.1 bt121.2.2.1 bt148.1 bt148.2.1 bt161.1 bt189.1 bt200.1 bt200.2.1 bt217.1 bt231.1 bt236.1 true bt106.1 bt106.2.1 bt136.1 bt136.2.1)) else (Qd.j0 k bt121.1 bt121.2.1 bt121.2.2.1 bt148.1 bt148.2.1 bt161.1 bt189.1 bt200.1 bt200.2.1 bt217.1 bt231.1 bt236.1 true bt106.1 bt106.2.1 bt136.1 bt136.2.1)) else (Qd.j0 k bt121.1 bt121.2.1 bt121.2.2.1 bt148.1 bt148.2.1 bt161.1 bt189.1 bt200.1 bt200.2.1 bt217.1 bt231.1 bt236.1 true bt106.1 bt106.2.1 bt136.1 bt136.2.1)) else (Qd.j0 k bt121.1 bt121.2.1 bt121.2.2.1 bt148.1 bt148.2.1 bt161.1 bt189.1 bt200.1 bt200.2.1 bt217.1 bt231.1 bt236.1 true bt106.1 bt106.2.1 bt136.1 bt136.2.1)))))))))))))))))))))))))))))
theorem Qd.mono_l : ∀ k, (∀ y0 y1 y2 y3 y4 y5 y6 y7 y8 y9 y10 y11 y12 y13 y14 y15 y16, LeO (Qd.j0 k y0 y1 y2 y3 y4 y5 y6 y7 y8 y9 y10 y11 y12 y13 y14 y15 y16) (Qd.j0 (k + 1) y0 y1 y2 y3 y4 y5 y6 y7 y8 y9 y10 y11 y12 y13 y14 y15 y16)) ∧ (∀ y0 y1 y2 y3 y4 y5, LeO (Qd.j1 k y0 y1 y2 y3 y4 y5) (Qd.j1 (k + 1) y0 y1 y2 y3 y4 y5))
 | 0 => ⟨fun _ _ _ _ _ _ _ _ _ _ _ _ _ _ _ _ _ r h => by simp [Qd.j0] at h, fun _ _ _ _ _ _ r h => by simp [Qd.j1] at h⟩
 | k + 1 => by
  obtain ⟨ih0, ih1⟩ := Qd.mono_l k
  refine ⟨?_, ?_⟩
  ·
   intro y0 y1 y2 y3 y4 y5 y6 y7 y8 y9 y10 y11 y12 y13 y14 y15 y16
   unfold Qd.j0
   repeat' first
   | (with_reducible exact ih0 _ _ _ _ _ _ _ _ _ _ _ _ _ _ _ _ _)
   | (with_reducible exact ih1 _ _ _ _ _ _)
   | (with_reducible exact Jb.mono _ _ _ _ _ _ _)
   | (with_reducible exact Q7.mono _ _ _ _ _ _ _ _)
   | (with_reducible exact JE.mono _ _ _ _ _ _ _ _)
   | (with_reducible exact Q0.mono _ _ _ _ _ _ _ _)
   | (with_reducible exact QD.mono _ _ _)
   | (with_reducible exact QE.mono _ _ _)
   | (with_reducible exact QN.mono _ _)
   | (with_reducible exact Qs.mono _ _ _ _)
   | (with_reducible exact QT.mono _ _ _)
   | (with_reducible exact Qm.mono _ _ _)
   | (with_reducible exact LeO.refl _)
   | (with_reducible exact LeO.none _)
   | (with_reducible refine LeO.ite ?_ ?_)
   | (with_reducible refine LeO.bind ?_ (fun _ => ?_))
  ·
   intro y0 y1 y2 y3 y4 y5
   unfold Qd.j1
   repeat' first
   | (with_reducible exact ih0 _ _ _ _ _ _ _ _ _ _ _ _ _ _ _ _ _)
   | (with_reducible exact ih1 _ _ _ _ _ _)
   | (with_reducible exact Jb.mono _ _ _ _ _ _ _)
   | (with_reducible exact Q7.mono _ _ _ _ _ _ _ _)
   | (with_reducible exact JE.mono _ _ _ _ _ _ _ _)
   | (with_reducible exact Q0.mono _ _ _ _ _ _ _ _)
   | (with_reducible exact QD.mono _ _ _)
   | (with_reducible exact QE.mono _ _ _)
   | (with_reducible exact QN.mono _ _)
   | (with_reducible exact Qs.mono _ _ _ _)
   | (with_reducible exact QT.mono _ _ _)
   | (with_reducible exact Qm.mono _ _ _)
   | (with_reducible exact LeO.refl _)
   | (with_reducible exact LeO.none _)
   | (with_reducible refine LeO.ite ?_ ?_)
   | (with_reducible refine LeO.bind ?_ (fun _ => ?_))
theorem Qd.dead_j0 : ∀ k y0 y1 y2 y3 y4 y5 y6 y7 y8 y9 y10 y11 y13 y14 y15 y16 r, Qd.j0 k y0 y1 y2 y3 y4 y5 y6 y7 y8 y9 y10 y11 true y13 y14 y15 y16 = some r → r = true → False := by
 intro k y0 y1 y2 y3 y4 y5 y6 y7 y8 y9 y10 y11 y13 y14 y15 y16 r h hr
 cases k with
 | zero => simp [Qd.j0] at h
 | succ k => exact absurd ((Option.some.inj (show (some false : Option Bool) = some r from h)).trans hr) (by simp)
theorem Qd.dead_j1 : ∀ k y0 y1 y2 y3 y4 r, Qd.j1 k y0 y1 y2 y3 y4 true = some r → r = true → False := by
 intro k y0 y1 y2 y3 y4 r h hr
 cases k with
 | zero => simp [Qd.j1] at h
 | succ k => exact absurd ((Option.some.inj (show (some false : Option Bool) = some r from h)).trans hr) (by simp)
theorem Qd.mono : ∀ k, LeO (Qd.f k ) (Qd.f (k + 1) ) := by
 intro  k
 obtain ⟨ih0, ih1⟩ := Qd.mono_l k
 unfold Qd.f
 repeat' first
   | (with_reducible exact ih0 _ _ _ _ _ _ _ _ _ _ _ _ _ _ _ _ _)
   | (with_reducible exact ih1 _ _ _ _ _ _)
   | (with_reducible exact Jb.mono _ _ _ _ _ _ _)
   | (with_reducible exact Q7.mono _ _ _ _ _ _ _ _)
   | (with_reducible exact JE.mono _ _ _ _ _ _ _ _)
   | (with_reducible exact Q0.mono _ _ _ _ _ _ _ _)
   | (with_reducible exact QD.mono _ _ _)
   | (with_reducible exact QE.mono _ _ _)
   | (with_reducible exact QN.mono _ _)
   | (with_reducible exact Qs.mono _ _ _ _)
   | (with_reducible exact QT.mono _ _ _)
   | (with_reducible exact Qm.mono _ _ _)
   | (with_reducible exact LeO.refl _)
   | (with_reducible exact LeO.none _)
   | (with_reducible refine LeO.ite ?_ ?_)
   | (with_reducible refine LeO.bind ?_ (fun _ => ?_))
def Qd.T13 : Bool × List (List Nat × List Nat) := (true, [([], []), ([], []), ([0, 1], [0, 1]), ([2, 1], [2]), ([3], [3]), ([3, 4], [3, 4]), ([5, 3], [5]), ([6], [6]), ([7, 6], [6, 7]), ([6, 8], [6, 8]), ([9, 6], [9]), ([10], [10]), ([10, 11], [10, 11]), ([12, 10], [12]), ([13], [13]), ([13, 13], [13]), ([14, 15, 13], [13, 14, 15]), ([13, 16], [13, 16]), ([17, 15], [17]), ([18], [18]), ([18], [18]), ([19, 20, 18, 18], [18, 19, 20]), ([21, 18], [18, 21]), ([18, 22], [18, 22]), ([23, 21], [23]), ([24], [24]), ([25, 24], [24, 25]), ([24, 26], [24, 26]), ([27, 24], [27]), ([28], [28]), ([29, 28], [28, 29]), ([28, 30], [28, 30]), ([31, 28], [31]), ([32], [32]), ([33, 32], [32, 33]), ([34, 32], [32, 34]), ([32], [32]), ([35, 36, 32, 32], [32, 35, 36]), ([37, 32], [32, 37]), ([32, 38], [32, 38]), ([39, 37], [39]), ([40], [40]), ([41, 40], [40, 41]), ([42, 40], [40, 42]), ([40], [40]), ([43, 44, 40, 40], [40, 43, 44]), ([45, 40], [40, 45]), ([40, 46], [40, 46])])
def Qd.B13 : List Nat := [0, 0, 3, 7, 15, 31, 63, 127, 255, 511, 1023, 2047, 4095, 8191, 16383, 16383, 65535, 131071, 262143, 524287, 524287, 2097151, 4194303, 8388607, 16777215, 33554431, 67108863, 134217727, 268435455, 536870911, 1073741823, 2147483647, 4294967295, 8589934591, 17179869183, 34359738367, 8589934591, 137438953471, 274877906943, 549755813887, 1099511627775, 2199023255551, 4398046511103, 8796093022207, 2199023255551, 35184372088831, 70368744177663, 140737488355327]
theorem Qd.tab13 : rtab .any (ZG Tryz.f15 13) = Qd.T13 := by kernel_rfl
theorem Qd.bits13 : J0 Qd.T13.2 Qd.B13 = true := by kernel_rfl
set_option maxHeartbeats 8000000 in
set_option maxRecDepth 100000 in
theorem Qd.calls_true (k : Nat)  (r : Bool) (w : World) (hrt : r = true) (h : Qd.f k  = some r) :
  Calls Tryz.prog 15 #[] w fun e w' => e = .returned (.bool r) ∧ Below w.heap.size w w' := by
 have hu24 := Tryz.underlying24
 have hu68 := Tryz.underlying68
 have HRT := Qa.mk hrt
 clear hrt
 have HB := Qa.mk (Below.refl w.heap.size w)
 have H : ((QA.f 30).bind fun bt101 => ((Zl.f bt101.1 bt101.2.1 bt101.2.2.1 bt101.2.2.2.1 bt101.2.2.2.2).bind fun bt106 => ((QL.f).bind fun t110 => ((QA.f 30).bind fun bt113 => ((Q0.f k t110 bt113.1 bt113.2.1 bt113.2.2.1 bt113.2.2.2.1 bt113.2.2.2.2 (([3, 1] : List Int))).bind fun bt121 => ((QL.f).bind fun t125 => ((QA.f 30).bind fun bt128 => ((JE.f k t125 bt128.1 bt128.2.1 bt128.2.2.1 bt128.2.2.2.1 bt128.2.2.2.2 (([3, 1] : List Int))).bind fun bt136 => ((QL.f).bind fun t140 => ((QA.f 20).bind fun bt143 => ((Jb.f k t140 bt143.1 bt143.2.1 bt143.2.2.1 bt143.2.2.2.1 bt143.2.2.2.2).bind fun bt148 => ((QL.f).bind fun t153 => ((QA.f 30).bind fun bt156 => ((Q7.f k t153 bt156.1 bt156.2.1 bt156.2.2.1 bt156.2.2.2.1 bt156.2.2.2.2 1).bind fun bt161 => ((QL.f).bind fun t163 => ((QA.f 30).bind fun bt166 => ((QA.f 30).bind fun bt171 => ((QA.f 30).bind fun bt176 => ((QA.f 30).bind fun bt181 => ((QD.f k t163 (([(⟨(⟨bt166.1, bt166.2.1⟩ : S24), (⟨bt166.2.2.1, bt166.2.2.2.1⟩ : S24), bt166.2.2.2.2⟩ : S26), (⟨(⟨bt171.1, bt171.2.1⟩ : S24), (⟨bt171.2.2.1, bt171.2.2.2.1⟩ : S24), bt171.2.2.2.2⟩ : S26), (⟨(⟨bt176.1, bt176.2.1⟩ : S24), (⟨bt176.2.2.1, bt176.2.2.2.1⟩ : S24), bt176.2.2.2.2⟩ : S26), (⟨(⟨bt181.1, bt181.2.1⟩ : S24), (⟨bt181.2.2.1, bt181.2.2.2.1⟩ : S24), bt181.2.2.2.2⟩ : S26)] : List S26))).bind fun bt189 => ((QC.f 48 52).bind fun bt193 => ((QC.f 48 52).bind fun bt195 => ((QN.f k (([(⟨20, 370, 4, (⟨bt193.1, bt193.2⟩ : S24)⟩ : S68), (⟨20, 360, 4, (⟨bt195.1, bt195.2⟩ : S24)⟩ : S68)] : List S68))).bind fun bt200 => ((Q9.f).bind fun bt207 => ((Qs.f k 9 (([(⟨bt207.1, bt207.2.1, bt207.2.2⟩ : S75)] : List S75)) 0).bind fun bt217 => ((Q9.f).bind fun bt221 => ((QT.f k 9 (([(⟨bt221.1, bt221.2.1, bt221.2.2⟩ : S75)] : List S75))).bind fun bt231 => ((QE.f k (([3, 3, 1] : List Int)) 10).bind fun bt236 => (if bt106.2.2 = 0 then (if bt121.2.2.2 = 0 then (if bt136.2.2 = 0 then (if bt148.2.2 = 0 then (if bt161.2 = 0 then (if bt189.2 = 0 then (if bt200.2.2 = 0 then (if bt217.2 = 0 then (if bt231.2 = 0 then (if bt236.2 = 0 then (Qd.j0 k bt121.1 bt121.2.1 bt121.2.2.1 bt148.1 bt148.2.1 bt161.1 bt189.1 bt200.1 bt200.2.1 bt217.1 bt231.1 bt236.1 ((bt189.1.length : Int) != 3) bt106.1 bt106.2.1 bt136.1 bt136.2.1) else (Qd.j0 k bt121.1 bt121.2.1 bt121.2.2.1 bt148.1 bt148.2.1 bt161.1 bt189.1 bt200.1 bt200.2.1 bt217.1 bt231.1 bt236.1 true bt106.1 bt106.2.1 bt136.1 bt136.2.1)) else (Qd.j0 k bt121.1 bt121.2.1 bt121.2.2.1 bt148.1 bt148.2.1 bt161.1 bt189.1 bt200.1 bt200.2.1 bt217.1 bt231.1 bt236.1 true bt106.1 bt106.2.1 bt136.1 bt136.2.1)) else (Qd.j0 k bt121.1 bt121.2.1 bt121.2.2.1 bt148.1 bt148.2.1 bt161.1 bt189.1 bt200.1 bt200.2.1 bt217.1 bt231.1 bt236.1 true bt106.1 bt106.2.1 bt136.1 bt136.2.1)) else (Qd.j0 k bt121.1 bt121.2.1 bt121.2.2.1 bt148.1 bt148.2.1 bt161.1 bt189.1 bt200.1 bt200.2.1 bt217.1 bt231.1 bt236.1 true bt106.1 bt106.2.1 bt136.1 bt136.2.1)) else (Qd.j0 k bt121.1 bt121.2.1 bt121.2.2.1 bt148.1 bt148.2.1 bt161.1 bt189.1 bt200.1 bt200.2.1 bt217.1 bt231.1 bt236.1 true bt106.1 bt106.2.1 bt136.1 bt136.2.1)) else (Qd.j0 k bt121.1 bt121.2.1 bt121.2.2.1 bt148.1 bt148.2.1 bt161.1 bt189.1 bt200.1 bt200.2.1 bt217.1 bt231.1 bt236.1 true bt106.1 bt106.2.1 bt136.1 bt136.2.1)) else (Qd.j0 k bt121.1 bt121.2.1 bt121.2.2.1 bt148.1 bt148.2.1 bt161.1 bt189.1 bt200.1 bt200.2.1 bt217.1 bt231.1 bt236.1 true bt106.1 bt106.2.1 bt136.1 bt136.2.1)) else (Qd.j0 k bt121.1 bt121.2.1 bt121.2.2.1 bt148.1 bt148.2.1 bt161.1 bt189.1 bt200.1 bt200.2.1 bt217.1 bt231.1 bt236.1 true bt106.1 bt106.2.1 bt136.1 bt136.2.1)) else (Qd.j0 k bt121.1 bt121.2.1 bt121.2.2.1 bt148.1 bt148.2.1 bt161.1 bt189.1 bt200.1 bt200.2.1 bt217.1 bt231.1 bt236.1 true bt106.1 bt106.2.1 bt136.1 bt136.2.1)) else (Qd.j0 k bt121.1 bt121.2.1 bt121.2.2.1 bt148.1 bt148.2.1 bt161.1 bt189.1 bt200.1 bt200.2.1 bt217.1 bt231.1 bt236.1 true bt106.1 bt106.2.1 bt136.1 bt136.2.1)))))))))))))))))))))))))))))) = some r := h
 clear h
 obtain ⟨⟨t101, t102, t103, t104, t105⟩, A1, H⟩ := bi H
 obtain ⟨⟨t106, t107, t108⟩, A2, H⟩ := bi H
 obtain ⟨t110, A3, H⟩ := bi H
 obtain ⟨⟨t113, t114, t115, t116, t117⟩, A4, H⟩ := bi H
 obtain ⟨y118, hy118⟩ : ∃ y_ : List Int, y_ = (([3, 1] : List Int)) := ⟨_, rfl⟩
 replace H : Option.bind (Q0.f k t110 t113 t114 t115 t116 t117 y118) _ = some r := yy hy118 H
 have Ny118 := Qa.mk hy118
 clear hy118
 obtain ⟨⟨t121, t122, t123, t124⟩, A5, H⟩ := bi H
 obtain ⟨t125, A6, H⟩ := bi H
 obtain ⟨⟨t128, t129, t130, t131, t132⟩, A7, H⟩ := bi H
 obtain ⟨y133, hy133⟩ : ∃ y_ : List Int, y_ = (([3, 1] : List Int)) := ⟨_, rfl⟩
 replace H : Option.bind (JE.f k t125 t128 t129 t130 t131 t132 y133) _ = some r := yy hy133 H
 have Ny133 := Qa.mk hy133
 clear hy133
 obtain ⟨⟨t136, t137, t138⟩, A8, H⟩ := bi H
 obtain ⟨t140, A9, H⟩ := bi H
 obtain ⟨⟨t143, t144, t145, t146, t147⟩, A10, H⟩ := bi H
 obtain ⟨⟨t148, t151, t152⟩, A11, H⟩ := bi H
 obtain ⟨t153, A12, H⟩ := bi H
 obtain ⟨⟨t156, t157, t158, t159, t160⟩, A13, H⟩ := bi H
 obtain ⟨⟨t161, t162⟩, A14, H⟩ := bi H
 obtain ⟨t163, A15, H⟩ := bi H
 obtain ⟨⟨t166, t167, t168, t169, t170⟩, A16, H⟩ := bi H
 obtain ⟨⟨t171, t172, t173, t174, t175⟩, A17, H⟩ := bi H
 obtain ⟨⟨t176, t177, t178, t179, t180⟩, A18, H⟩ := bi H
 obtain ⟨⟨t181, t182, t183, t184, t185⟩, A19, H⟩ := bi H
 obtain ⟨y186, hy186⟩ : ∃ y_ : List S26, y_ = (([(⟨(⟨t166, t167⟩ : S24), (⟨t168, t169⟩ : S24), t170⟩ : S26), (⟨(⟨t171, t172⟩ : S24), (⟨t173, t174⟩ : S24), t175⟩ : S26), (⟨(⟨t176, t177⟩ : S24), (⟨t178, t179⟩ : S24), t180⟩ : S26), (⟨(⟨t181, t182⟩ : S24), (⟨t183, t184⟩ : S24), t185⟩ : S26)] : List S26)) := ⟨_, rfl⟩
 replace H : Option.bind (QD.f k t163 y186) _ = some r := yy hy186 H
 have Ny186 := Qa.mk hy186
 clear hy186
 obtain ⟨⟨t189, t190⟩, A20, H⟩ := bi H
 obtain ⟨⟨t193, t194⟩, A21, H⟩ := bi H
 obtain ⟨⟨t195, t196⟩, A22, H⟩ := bi H
 obtain ⟨y197, hy197⟩ : ∃ y_ : List S68, y_ = (([(⟨20, 370, 4, (⟨t193, t194⟩ : S24)⟩ : S68), (⟨20, 360, 4, (⟨t195, t196⟩ : S24)⟩ : S68)] : List S68)) := ⟨_, rfl⟩
 replace H : Option.bind (QN.f k y197) _ = some r := yy hy197 H
 have Ny197 := Qa.mk hy197
 clear hy197
 obtain ⟨⟨t200, t201, t202⟩, A23, H⟩ := bi H
 obtain ⟨⟨t207, t210, t213⟩, A24, H⟩ := bi H
 obtain ⟨y214, hy214⟩ : ∃ y_ : List S75, y_ = (([(⟨t207, t210, t213⟩ : S75)] : List S75)) := ⟨_, rfl⟩
 replace H : Option.bind (Qs.f k 9 y214 0) _ = some r := yy hy214 H
 have Ny214 := Qa.mk hy214
 clear hy214
 obtain ⟨⟨t217, t218⟩, A25, H⟩ := bi H
 obtain ⟨⟨t221, t224, t227⟩, A26, H⟩ := bi H
 obtain ⟨y228, hy228⟩ : ∃ y_ : List S75, y_ = (([(⟨t221, t224, t227⟩ : S75)] : List S75)) := ⟨_, rfl⟩
 replace H : Option.bind (QT.f k 9 y228) _ = some r := yy hy228 H
 have Ny228 := Qa.mk hy228
 clear hy228
 obtain ⟨⟨t231, t232⟩, A27, H⟩ := bi H
 obtain ⟨y233, hy233⟩ : ∃ y_ : List Int, y_ = (([3, 3, 1] : List Int)) := ⟨_, rfl⟩
 replace H : Option.bind (QE.f k y233 10) _ = some r := yy hy233 H
 have Ny233 := Qa.mk hy233
 clear hy233
 obtain ⟨⟨t236, t237⟩, A28, H⟩ := bi H
 have HC29 := Qa.mk H
 clear H
 go_enter Tryz.func15, Tryz.ntmps15
 go_upto_region 11 with (first | ((with_reducible refine gc 63 rfl ?_); refine gL 26 Tryz.func63 #[.int .i64 30] ?_; (with_reducible refine (QA.calls 30 t101 t102 t103 t104 t105 _ A1.out).mono ?_); rintro e w30 ⟨rfl, hb⟩; refine ⟨_, rfl, ?_⟩; replace HB := bs HB hb; clear hb) | ((with_reducible refine gc 19 rfl ?_); refine gL 27 Tryz.func19 #[.agg #[.int .i64 t101, .int .i64 t102, .int .i64 t103, .int .i64 t104, .int .i64 t105]] ?_; (with_reducible refine (Zl.calls t101 t102 t103 t104 t105 t106 t107 t108 _ A2.out).mono ?_); rintro e w31 ⟨rfl, hb⟩; refine ⟨_, rfl, ?_⟩; replace HB := bs HB hb; clear hb) | ((with_reducible refine gd 1 ?_); (try (refine QG (by rfl) ?_; dsimp only)); refine bx 1 #[.int .i64 0, .int .i64 0] 24 ?_; intro gb109 hg w32 BK109 hb; have GW109 := gs HB hg; replace HB := bs HB hb; clear hb hg; obtain ⟨hcz33_0, hcz33_1, hfz33_0, hfz33_1⟩ := cf2 BK109) | ((with_reducible refine gc 64 rfl ?_); refine gL 31 Tryz.func64 #[] ?_; (with_reducible refine (QL.calls  t110 _ A3.out).mono ?_); rintro e w34 ⟨v111, rfl, ho0, hb⟩; refine ⟨_, rfl, ?_⟩; have HO112 := rl ho0 HB; replace BK109 := Qa.mk (QX (g := gb109) (o := .cells #[.int .i64 t106, .int .i64 t107] 24 (0, 0)) (by refine pB ?_; refine Qg (cs := #[.int .i64 t106, .int .i64 0]) ?_ 1 _ rfl; refine pB ?_; refine Qg (cs := #[.int .i64 0, .int .i64 0]) ?_ 0 _ rfl; (with_reducible repeat (first | refine Qt ?_ _ | refine Qh ?_ | refine blk_alloc ?_ _)); exact BK109.out) hb); replace HB := bs HB hb; clear hb ho0) | ((with_reducible refine gc 63 rfl ?_); refine gL 32 Tryz.func63 #[.int .i64 30] ?_; (with_reducible refine (QA.calls 30 t113 t114 t115 t116 t117 _ A4.out).mono ?_); rintro e w35 ⟨rfl, hb⟩; refine ⟨_, rfl, ?_⟩; replace HO112 := rb HO112 hb; replace BK109 := bb BK109 hb; replace HB := bs HB hb; clear hb) | ((with_reducible refine gd 33 ?_); (try (refine QG (by rfl) ?_; dsimp only)); refine Kd.R_lit (Kd.int .i64) _ 3 ?hg (N := 33) ?hd (xs := ([3, 1] : List Int)) (inner := [.int .i64 3, .int .i64 1]) (ok := fun _ => True) (okp := fun _ => True) ?hr ?hp (fun _ hk => hk) trivial (Below.refl _ _) (Nat.le_refl _) (by simp) ?_; (case hd => rfl); (case hg => rfl); (case hr => first | (go_simp; done) | (go_simp; rfl)); (case hp => exact (Reps.one (show Kd.M (Kd.int .i64) _ _ _ 3 [.int .i64 3] from rfl) (Reps.one (show Kd.M (Kd.int .i64) _ _ _ 1 [.int .i64 1] from rfl) (Reps.none _ _)))); intro v119 w36 ho37 hb hg_ hnew_; clear hg_ hnew_; (first | rw [← Ny118.out] at ho37 | (simp only [Int.reduceToNat] at ho37; rw [← Ny118.out] at ho37)); replace HO112 := rb HO112 hb; have HO120 := rl ho37 HB; replace BK109 := bb BK109 hb; replace HB := bs HB hb; clear hb ho37; obtain ⟨Ao38, co38, eo38⟩ := Kd.R_slice HO112.out; subst eo38; obtain ⟨Ao39, co39, eo39⟩ := Kd.R_slice HO120.out; subst eo39) | ((with_reducible refine gc 20 rfl ?_); refine gL 34 Tryz.func20 #[.slice Ao38 t110.length co38, .agg #[.int .i64 t113, .int .i64 t114, .int .i64 t115, .int .i64 t116, .int .i64 t117], .slice Ao39 y118.length co39] ?_; (with_reducible refine (Q0.calls k _ _ t110 t113 t114 t115 t116 t117 _ _ y118 t121 t122 t123 t124 _ ?side1 ?side2 ?side3 ?side4 A5.out).mono ?_); (case side1 => exact pC (Kd.R_reads' HO112.out).2.2); (case side2 => exact (Kd.R_reads' HO112.out).2.1); (case side3 => exact pC (Kd.R_reads' HO120.out).2.2); (case side4 => exact (Kd.R_reads' HO120.out).2.1); rintro e w40 ⟨rfl, hb⟩; refine ⟨_, rfl, ?_⟩; replace HO112 := rb HO112 hb; replace HO120 := rb HO120 hb; replace BK109 := bb BK109 hb; replace HB := bs HB hb; clear hb) | ((with_reducible refine gc 64 rfl ?_); refine gL 40 Tryz.func64 #[] ?_; (with_reducible refine (QL.calls  t125 _ A6.out).mono ?_); rintro e w41 ⟨v126, rfl, ho0, hb⟩; refine ⟨_, rfl, ?_⟩; replace HO120 := rb HO120 hb; have HO127 := Qa.mk (Kd.R_lower (Kd.R_new' ho0 (Kd.R_lt (pR HO112.out))) (Qr (pE HB))); replace HO112 := re HO112 ho0 hb; replace BK109 := bb BK109 hb; replace HB := bs HB hb; clear hb ho0) | ((with_reducible refine gc 63 rfl ?_); refine gL 41 Tryz.func63 #[.int .i64 30] ?_; (with_reducible refine (QA.calls 30 t128 t129 t130 t131 t132 _ A7.out).mono ?_); rintro e w42 ⟨rfl, hb⟩; refine ⟨_, rfl, ?_⟩; replace HO112 := rb HO112 hb; replace HO120 := rb HO120 hb; replace HO127 := rb HO127 hb; replace BK109 := bb BK109 hb; replace HB := bs HB hb; clear hb) | ((with_reducible refine gd 42 ?_); (try (refine QG (by rfl) ?_; dsimp only)); refine Kd.R_lit (Kd.int .i64) _ 3 ?hg (N := 42) ?hd (xs := ([3, 1] : List Int)) (inner := [.int .i64 3, .int .i64 1]) (ok := fun _ => True) (okp := fun _ => True) ?hr ?hp (fun _ hk => hk) trivial (Below.refl _ _) (Nat.le_refl _) (by simp) ?_; (case hd => rfl); (case hg => rfl); (case hr => first | (go_simp; done) | (go_simp; rfl)); (case hp => exact (Reps.one (show Kd.M (Kd.int .i64) _ _ _ 3 [.int .i64 3] from rfl) (Reps.one (show Kd.M (Kd.int .i64) _ _ _ 1 [.int .i64 1] from rfl) (Reps.none _ _)))); intro v134 w43 ho44 hb hg_ hnew_; clear hg_ hnew_; (first | rw [← Ny133.out] at ho44 | (simp only [Int.reduceToNat] at ho44; rw [← Ny133.out] at ho44)); replace HO112 := rb HO112 hb; replace HO127 := rb HO127 hb; have HO135 := Qa.mk (Kd.R_lower (Kd.R_new' ho44 (Kd.R_lt (pR HO120.out))) (Qr (pE HB))); replace HO120 := re HO120 ho44 hb; replace BK109 := bb BK109 hb; replace HB := bs HB hb; clear hb ho44; obtain ⟨Ao45, co45, eo45⟩ := Kd.R_slice HO127.out; subst eo45; obtain ⟨Ao46, co46, eo46⟩ := Kd.R_slice HO135.out; subst eo46) | ((with_reducible refine gc 21 rfl ?_); refine gL 43 Tryz.func21 #[.slice Ao45 t125.length co45, .agg #[.int .i64 t128, .int .i64 t129, .int .i64 t130, .int .i64 t131, .int .i64 t132], .slice Ao46 y133.length co46] ?_; (with_reducible refine (JE.calls k _ _ t125 t128 t129 t130 t131 t132 _ _ y133 t136 t137 t138 _ ?side1 ?side2 ?side3 ?side4 A8.out).mono ?_); (case side1 => exact pC (Kd.R_reads' HO127.out).2.2); (case side2 => exact (Kd.R_reads' HO127.out).2.1); (case side3 => exact pC (Kd.R_reads' HO135.out).2.2); (case side4 => exact (Kd.R_reads' HO135.out).2.1); rintro e w47 ⟨rfl, hb⟩; refine ⟨_, rfl, ?_⟩; replace HO112 := rb HO112 hb; replace HO120 := rb HO120 hb; replace HO127 := rb HO127 hb; replace HO135 := rb HO135 hb; replace BK109 := bb BK109 hb; replace HB := bs HB hb; clear hb) | ((with_reducible refine gd 7 ?_); (try (refine QG (by rfl) ?_; dsimp only)); refine bx 7 #[.int .i64 0, .int .i64 0] 24 ?_; intro gb139 hg w48 hbox hb; replace HO112 := rb HO112 hb; replace HO120 := rb HO120 hb; replace HO127 := rb HO127 hb; replace HO135 := rb HO135 hb; have BK139 := hbox; have GW139 := gs HB hg; replace HB := bs HB hb; have NB109_139 := nl BK109 hg; have NB139_109 := nr BK109 hg; replace BK109 := bb BK109 hb; clear hb hg; have hnb49 := NB139_109.out; have hnc49 := NB109_139.out; obtain ⟨hcz50_0, hcz50_1, hfz50_0, hfz50_1⟩ := cf2 BK139) | ((with_reducible refine gc 64 rfl ?_); refine gL 47 Tryz.func64 #[] ?_; (with_reducible refine (QL.calls  t140 _ A9.out).mono ?_); rintro e w51 ⟨v141, rfl, ho0, hb⟩; refine ⟨_, rfl, ?_⟩; replace HO120 := Qa.mk (Kd.R_below (by refine pR ?_; exact (Kd.R_mono (Kd.R_far (p := ⟨gb139, 1, none⟩) (Kd.R_far (p := ⟨gb139, 0, none⟩) (Kd.R_types HO120.out BK139.out (by decide)) (fun _ hk => hk.2) (.int .i64 t136)) (fun _ hk => hk.2) (.int .i64 t137)) (fun _ h_ => h_.1))) hb); replace HO135 := Qa.mk (Kd.R_below (by refine pR ?_; exact (Kd.R_mono (Kd.R_far (p := ⟨gb139, 1, none⟩) (Kd.R_far (p := ⟨gb139, 0, none⟩) (Kd.R_types HO135.out BK139.out (by decide)) (fun _ hk => hk.2) (.int .i64 t136)) (fun _ hk => hk.2) (.int .i64 t137)) (fun _ h_ => h_.1))) hb); have HO142 := Qa.mk (Kd.R_lower (Kd.R_new' (Kd.R_new' ho0 (Kd.R_lt (by refine pR ?_; exact (Kd.R_mono (Kd.R_far (p := ⟨gb139, 1, none⟩) (Kd.R_far (p := ⟨gb139, 0, none⟩) (Kd.R_types HO112.out BK139.out (by decide)) (fun _ hk => hk.2) (.int .i64 t136)) (fun _ hk => hk.2) (.int .i64 t137)) (fun _ h_ => h_.1))))) (Kd.R_lt (by refine pR ?_; exact (Kd.R_mono (Kd.R_far (p := ⟨gb139, 1, none⟩) (Kd.R_far (p := ⟨gb139, 0, none⟩) (Kd.R_types HO127.out BK139.out (by decide)) (fun _ hk => hk.2) (.int .i64 t136)) (fun _ hk => hk.2) (.int .i64 t137)) (fun _ h_ => h_.1))))) (Qr (pE HB))); replace HO112 := Qa.mk (Kd.R_elder' (by refine pR ?_; exact (Kd.R_mono (Kd.R_far (p := ⟨gb139, 1, none⟩) (Kd.R_far (p := ⟨gb139, 0, none⟩) (Kd.R_types HO112.out BK139.out (by decide)) (fun _ hk => hk.2) (.int .i64 t136)) (fun _ hk => hk.2) (.int .i64 t137)) (fun _ h_ => h_.1))) (Kd.R_base ho0) hb); replace HO127 := Qa.mk (Kd.R_elder' (by refine pR ?_; exact (Kd.R_mono (Kd.R_far (p := ⟨gb139, 1, none⟩) (Kd.R_far (p := ⟨gb139, 0, none⟩) (Kd.R_types HO127.out BK139.out (by decide)) (fun _ hk => hk.2) (.int .i64 t136)) (fun _ hk => hk.2) (.int .i64 t137)) (fun _ h_ => h_.1))) (Kd.R_base ho0) hb); replace BK109 := bf BK109 hb; replace BK139 := Qa.mk (QX (g := gb139) (o := .cells #[.int .i64 t136, .int .i64 t137] 24 (0, 0)) (by refine pB ?_; refine Qg (cs := #[.int .i64 t136, .int .i64 0]) ?_ 1 _ rfl; refine pB ?_; refine Qg (cs := #[.int .i64 0, .int .i64 0]) ?_ 0 _ rfl; (with_reducible repeat (first | refine Qt ?_ _ | refine Qh ?_ | refine blk_alloc ?_ _)); exact BK139.out) hb); replace HB := bs HB hb; clear hb ho0) | ((with_reducible refine gc 63 rfl ?_); refine gL 48 Tryz.func63 #[.int .i64 20] ?_; (with_reducible refine (QA.calls 20 t143 t144 t145 t146 t147 _ A10.out).mono ?_); rintro e w52 ⟨rfl, hb⟩; refine ⟨_, rfl, ?_⟩; replace HO112 := rb HO112 hb; replace HO120 := rb HO120 hb; replace HO127 := rb HO127 hb; replace HO135 := rb HO135 hb; replace HO142 := rb HO142 hb; replace BK109 := bb BK109 hb; replace BK139 := bb BK139 hb; replace HB := bs HB hb; clear hb; obtain ⟨Ao53, co53, eo53⟩ := Kd.R_slice HO142.out; subst eo53) | ((with_reducible refine gc 32 rfl ?_); refine gL 49 Tryz.func32 #[.slice Ao53 t140.length co53, .agg #[.int .i64 t143, .int .i64 t144, .int .i64 t145, .int .i64 t146, .int .i64 t147]] ?_; (with_reducible refine (Jb.calls k _ _ t140 t143 t144 t145 t146 t147 t148 t151 t152 _ ?side1 ?side2 A11.out).mono ?_); (case side1 => exact pC (Kd.R_reads' HO142.out).2.2); (case side2 => exact (Kd.R_reads' HO142.out).2.1); rintro e w54 ⟨v149, rfl, ho0, hb⟩; refine ⟨_, rfl, ?_⟩; replace HO112 := rb HO112 hb; replace HO127 := rb HO127 hb; replace HO142 := rb HO142 hb; have HO150 := Qa.mk (Kd.R_lower (Kd.R_new' (Kd.R_new' ho0 (Kd.R_lt (pR HO120.out))) (Kd.R_lt (pR HO135.out))) (Qr (pE HB))); replace HO120 := re HO120 ho0 hb; replace HO135 := re HO135 ho0 hb; replace BK109 := bb BK109 hb; replace BK139 := bb BK139 hb; replace HB := bs HB hb; clear hb ho0) | ((with_reducible refine gc 64 rfl ?_); refine gL 54 Tryz.func64 #[] ?_; (with_reducible refine (QL.calls  t153 _ A12.out).mono ?_); rintro e w55 ⟨v154, rfl, ho0, hb⟩; refine ⟨_, rfl, ?_⟩; replace HO120 := rb HO120 hb; replace HO135 := rb HO135 hb; replace HO150 := rb HO150 hb; have HO155 := Qa.mk (Kd.R_lower (Kd.R_new' (Kd.R_new' (Kd.R_new' ho0 (Kd.R_lt (pR HO112.out))) (Kd.R_lt (pR HO127.out))) (Kd.R_lt (pR HO142.out))) (Qr (pE HB))); replace HO112 := re HO112 ho0 hb; replace HO127 := re HO127 ho0 hb; replace HO142 := re HO142 ho0 hb; replace BK109 := bb BK109 hb; replace BK139 := bb BK139 hb; replace HB := bs HB hb; clear hb ho0) | ((with_reducible refine gc 63 rfl ?_); refine gL 55 Tryz.func63 #[.int .i64 30] ?_; (with_reducible refine (QA.calls 30 t156 t157 t158 t159 t160 _ A13.out).mono ?_); rintro e w56 ⟨rfl, hb⟩; refine ⟨_, rfl, ?_⟩; replace HO112 := rb HO112 hb; replace HO120 := rb HO120 hb; replace HO127 := rb HO127 hb; replace HO135 := rb HO135 hb; replace HO142 := rb HO142 hb; replace HO150 := rb HO150 hb; replace HO155 := rb HO155 hb; replace BK109 := bb BK109 hb; replace BK139 := bb BK139 hb; replace HB := bs HB hb; clear hb; obtain ⟨Ao57, co57, eo57⟩ := Kd.R_slice HO155.out; subst eo57) | ((with_reducible refine gc 35 rfl ?_); refine gL 56 Tryz.func35 #[.slice Ao57 t153.length co57, .agg #[.int .i64 t156, .int .i64 t157, .int .i64 t158, .int .i64 t159, .int .i64 t160], .int .i64 1] ?_; (with_reducible refine (Q7.calls k _ _ t153 t156 t157 t158 t159 t160 1 t161 t162 _ ?side1 ?side2 A14.out).mono ?_); (case side1 => exact pC (Kd.R_reads' HO155.out).2.2); (case side2 => exact (Kd.R_reads' HO155.out).2.1); rintro e w58 ⟨rfl, hb⟩; refine ⟨_, rfl, ?_⟩; replace HO112 := rb HO112 hb; replace HO120 := rb HO120 hb; replace HO127 := rb HO127 hb; replace HO135 := rb HO135 hb; replace HO142 := rb HO142 hb; replace HO150 := rb HO150 hb; replace HO155 := rb HO155 hb; replace BK109 := bb BK109 hb; replace BK139 := bb BK139 hb; replace HB := bs HB hb; clear hb) | ((with_reducible refine gc 64 rfl ?_); refine gL 60 Tryz.func64 #[] ?_; (with_reducible refine (QL.calls  t163 _ A15.out).mono ?_); rintro e w59 ⟨v164, rfl, ho0, hb⟩; refine ⟨_, rfl, ?_⟩; replace HO120 := rb HO120 hb; replace HO135 := rb HO135 hb; replace HO150 := rb HO150 hb; have HO165 := Qa.mk (Kd.R_lower (Kd.R_new' (Kd.R_new' (Kd.R_new' (Kd.R_new' ho0 (Kd.R_lt (pR HO112.out))) (Kd.R_lt (pR HO127.out))) (Kd.R_lt (pR HO142.out))) (Kd.R_lt (pR HO155.out))) (Qr (pE HB))); replace HO112 := re HO112 ho0 hb; replace HO127 := re HO127 ho0 hb; replace HO142 := re HO142 ho0 hb; replace HO155 := re HO155 ho0 hb; replace BK109 := bb BK109 hb; replace BK139 := bb BK139 hb; replace HB := bs HB hb; clear hb ho0) | ((with_reducible refine gc 63 rfl ?_); refine gL 61 Tryz.func63 #[.int .i64 30] ?_; (with_reducible refine (QA.calls 30 t166 t167 t168 t169 t170 _ A16.out).mono ?_); rintro e w60 ⟨rfl, hb⟩; refine ⟨_, rfl, ?_⟩; replace HO112 := rb HO112 hb; replace HO120 := rb HO120 hb; replace HO127 := rb HO127 hb; replace HO135 := rb HO135 hb; replace HO142 := rb HO142 hb; replace HO150 := rb HO150 hb; replace HO155 := rb HO155 hb; replace HO165 := rb HO165 hb; replace BK109 := bb BK109 hb; replace BK139 := bb BK139 hb; replace HB := bs HB hb; clear hb) | ((with_reducible refine gc 63 rfl ?_); refine gL 62 Tryz.func63 #[.int .i64 30] ?_; (with_reducible refine (QA.calls 30 t171 t172 t173 t174 t175 _ A17.out).mono ?_); rintro e w61 ⟨rfl, hb⟩; refine ⟨_, rfl, ?_⟩; replace HO112 := rb HO112 hb; replace HO120 := rb HO120 hb; replace HO127 := rb HO127 hb; replace HO135 := rb HO135 hb; replace HO142 := rb HO142 hb; replace HO150 := rb HO150 hb; replace HO155 := rb HO155 hb; replace HO165 := rb HO165 hb; replace BK109 := bb BK109 hb; replace BK139 := bb BK139 hb; replace HB := bs HB hb; clear hb) | ((with_reducible refine gc 63 rfl ?_); refine gL 63 Tryz.func63 #[.int .i64 30] ?_; (with_reducible refine (QA.calls 30 t176 t177 t178 t179 t180 _ A18.out).mono ?_); rintro e w62 ⟨rfl, hb⟩; refine ⟨_, rfl, ?_⟩; replace HO112 := rb HO112 hb; replace HO120 := rb HO120 hb; replace HO127 := rb HO127 hb; replace HO135 := rb HO135 hb; replace HO142 := rb HO142 hb; replace HO150 := rb HO150 hb; replace HO155 := rb HO155 hb; replace HO165 := rb HO165 hb; replace BK109 := bb BK109 hb; replace BK139 := bb BK139 hb; replace HB := bs HB hb; clear hb) | ((with_reducible refine gc 63 rfl ?_); refine gL 64 Tryz.func63 #[.int .i64 30] ?_; (with_reducible refine (QA.calls 30 t181 t182 t183 t184 t185 _ A19.out).mono ?_); rintro e w63 ⟨rfl, hb⟩; refine ⟨_, rfl, ?_⟩; replace HO112 := rb HO112 hb; replace HO120 := rb HO120 hb; replace HO127 := rb HO127 hb; replace HO135 := rb HO135 hb; replace HO142 := rb HO142 hb; replace HO150 := rb HO150 hb; replace HO155 := rb HO155 hb; replace HO165 := rb HO165 hb; replace BK109 := bb BK109 hb; replace BK139 := bb BK139 hb; replace HB := bs HB hb; clear hb) | ((with_reducible refine gd 65 ?_); (try (refine QG (by rfl) ?_; dsimp only)); refine Kd.R_lit k26 _ 26 ?hg (N := 65) ?hd (xs := ([(⟨(⟨t166, t167⟩ : S24), (⟨t168, t169⟩ : S24), t170⟩ : S26), (⟨(⟨t171, t172⟩ : S24), (⟨t173, t174⟩ : S24), t175⟩ : S26), (⟨(⟨t176, t177⟩ : S24), (⟨t178, t179⟩ : S24), t180⟩ : S26), (⟨(⟨t181, t182⟩ : S24), (⟨t183, t184⟩ : S24), t185⟩ : S26)] : List S26)) (inner := [.int .i64 t166, .int .i64 t167, .int .i64 t168, .int .i64 t169, .int .i64 t170, .int .i64 t171, .int .i64 t172, .int .i64 t173, .int .i64 t174, .int .i64 t175, .int .i64 t176, .int .i64 t177, .int .i64 t178, .int .i64 t179, .int .i64 t180, .int .i64 t181, .int .i64 t182, .int .i64 t183, .int .i64 t184, .int .i64 t185]) (ok := fun _ => True) (okp := fun _ => True) ?hr ?hp (fun _ hk => hk) trivial (Below.refl _ _) (Nat.le_refl _) (by simp) ?_; (case hd => rfl); (case hg => rfl); (case hr => first | (go_simp; done) | (go_simp; rfl)); (case hp => exact (Reps.c5 (show Kd.M k26 _ _ _ (⟨(⟨t166, t167⟩ : S24), (⟨t168, t169⟩ : S24), t170⟩ : S26) [.int .i64 t166, .int .i64 t167, .int .i64 t168, .int .i64 t169, .int .i64 t170] from (Xp _ _ _ (⟨(⟨t166, t167⟩ : S24), (⟨t168, t169⟩ : S24), t170⟩ : S26) )) (Reps.c5 (show Kd.M k26 _ _ _ (⟨(⟨t171, t172⟩ : S24), (⟨t173, t174⟩ : S24), t175⟩ : S26) [.int .i64 t171, .int .i64 t172, .int .i64 t173, .int .i64 t174, .int .i64 t175] from (Xp _ _ _ (⟨(⟨t171, t172⟩ : S24), (⟨t173, t174⟩ : S24), t175⟩ : S26) )) (Reps.c5 (show Kd.M k26 _ _ _ (⟨(⟨t176, t177⟩ : S24), (⟨t178, t179⟩ : S24), t180⟩ : S26) [.int .i64 t176, .int .i64 t177, .int .i64 t178, .int .i64 t179, .int .i64 t180] from (Xp _ _ _ (⟨(⟨t176, t177⟩ : S24), (⟨t178, t179⟩ : S24), t180⟩ : S26) )) (Reps.c5 (show Kd.M k26 _ _ _ (⟨(⟨t181, t182⟩ : S24), (⟨t183, t184⟩ : S24), t185⟩ : S26) [.int .i64 t181, .int .i64 t182, .int .i64 t183, .int .i64 t184, .int .i64 t185] from (Xp _ _ _ (⟨(⟨t181, t182⟩ : S24), (⟨t183, t184⟩ : S24), t185⟩ : S26) )) (Reps.none _ _)))))); intro v187 w64 ho65 hb hg_ hnew_; clear hg_ hnew_; (first | rw [← Ny186.out] at ho65 | (simp only [Int.reduceToNat] at ho65; rw [← Ny186.out] at ho65)); replace HO112 := rb HO112 hb; replace HO120 := rb HO120 hb; replace HO127 := rb HO127 hb; replace HO135 := rb HO135 hb; replace HO142 := rb HO142 hb; replace HO150 := rb HO150 hb; replace HO155 := rb HO155 hb; replace HO165 := rb HO165 hb; have HO188 := rl ho65 HB; replace BK109 := bb BK109 hb; replace BK139 := bb BK139 hb; replace HB := bs HB hb; clear hb ho65; obtain ⟨Ao66, co66, eo66⟩ := Kd.R_slice HO165.out; subst eo66; obtain ⟨Ao67, co67, eo67⟩ := Kd.R_slice HO188.out; subst eo67) | ((with_reducible refine gc 38 rfl ?_); refine gL 66 Tryz.func38 #[.slice Ao66 t163.length co66, .slice Ao67 y186.length co67] ?_; (with_reducible refine (QD.calls k _ _ t163 _ _ y186 t189 t190 _ ?side1 ?side2 ?side3 ?side4 A20.out).mono ?_); (case side1 => exact pC (Kd.R_reads' HO165.out).2.2); (case side2 => exact (Kd.R_reads' HO165.out).2.1); (case side3 => exact pC (Kd.R_reads' HO188.out).2.2); (case side4 => exact (Kd.R_reads' HO188.out).2.1); rintro e w68 ⟨v191, rfl, ho0, hb⟩; refine ⟨_, rfl, ?_⟩; have HO192 := Qa.mk (Kd.N_lower (Kd.N_mono (ok' := fun k_ => some k_ ≠ (.slice Ao38 t110.length co38 : Value).ownBlock ∧ some k_ ≠ (.slice Ao39 y118.length co39 : Value).ownBlock ∧ some k_ ≠ (.slice Ao45 t125.length co45 : Value).ownBlock ∧ some k_ ≠ (.slice Ao46 y133.length co46 : Value).ownBlock ∧ some k_ ≠ (.slice Ao53 t140.length co53 : Value).ownBlock ∧ some k_ ≠ (v149 : Value).ownBlock ∧ some k_ ≠ (.slice Ao57 t153.length co57 : Value).ownBlock ∧ some k_ ≠ (.slice Ao66 t163.length co66 : Value).ownBlock ∧ some k_ ≠ (.slice Ao67 y186.length co67 : Value).ownBlock ∧ k_ ≠ gb109 ∧ k_ ≠ gb139) (Kd.S_N (Kd.S_bound ho0)) (fun k_ hk_ => ⟨(Kd.fresh' (Kd.R_lt (pR HO112.out)) k_ hk_.2.1), (Kd.fresh' (Kd.R_lt (pR HO120.out)) k_ hk_.2.1), (Kd.fresh' (Kd.R_lt (pR HO127.out)) k_ hk_.2.1), (Kd.fresh' (Kd.R_lt (pR HO135.out)) k_ hk_.2.1), (Kd.fresh' (Kd.R_lt (pR HO142.out)) k_ hk_.2.1), (Kd.fresh' (Kd.R_lt (pR HO150.out)) k_ hk_.2.1), (Kd.fresh' (Kd.R_lt (pR HO155.out)) k_ hk_.2.1), (Kd.fresh' (Kd.R_lt (pR HO165.out)) k_ hk_.2.1), (Kd.fresh' (Kd.R_lt (pR HO188.out)) k_ hk_.2.1), (Kd.freshB (g := gb109) (o := .cells #[.int .i64 t106, .int .i64 t107] 24 (0, 0)) (pB BK109.out) k_ hk_.2.1), (Kd.freshB (g := gb139) (o := .cells #[.int .i64 t136, .int .i64 t137] 24 (0, 0)) (pB BK139.out) k_ hk_.2.1)⟩)) (Qr (pE HB))); replace HO112 := rb HO112 hb; replace HO120 := rb HO120 hb; replace HO127 := rb HO127 hb; replace HO135 := rb HO135 hb; replace HO142 := rb HO142 hb; replace HO150 := rb HO150 hb; replace HO155 := rb HO155 hb; replace HO165 := rb HO165 hb; replace HO188 := rb HO188 hb; replace BK109 := bb BK109 hb; replace BK139 := bb BK139 hb; replace HB := bs HB hb; clear hb ho0) | ((with_reducible refine gc 58 rfl ?_); refine gL 70 Tryz.func58 #[.int .i64 48, .int .i64 52] ?_; (with_reducible refine (QC.calls 48 52 t193 t194 _ A21.out).mono ?_); rintro e w69 ⟨rfl, hb⟩; refine ⟨_, rfl, ?_⟩; replace HO112 := rb HO112 hb; replace HO120 := rb HO120 hb; replace HO127 := rb HO127 hb; replace HO135 := rb HO135 hb; replace HO142 := rb HO142 hb; replace HO150 := rb HO150 hb; replace HO155 := rb HO155 hb; replace HO165 := rb HO165 hb; replace HO188 := rb HO188 hb; replace HO192 := Qa.mk (Kd.N_below (pN HO192.out) hb); replace BK109 := bb BK109 hb; replace BK139 := bb BK139 hb; replace HB := bs HB hb; clear hb) | ((with_reducible refine gc 58 rfl ?_); refine gL 72 Tryz.func58 #[.int .i64 48, .int .i64 52] ?_; (with_reducible refine (QC.calls 48 52 t195 t196 _ A22.out).mono ?_); rintro e w70 ⟨rfl, hb⟩; refine ⟨_, rfl, ?_⟩; replace HO112 := rb HO112 hb; replace HO120 := rb HO120 hb; replace HO127 := rb HO127 hb; replace HO135 := rb HO135 hb; replace HO142 := rb HO142 hb; replace HO150 := rb HO150 hb; replace HO155 := rb HO155 hb; replace HO165 := rb HO165 hb; replace HO188 := rb HO188 hb; replace HO192 := Qa.mk (Kd.N_below (pN HO192.out) hb); replace BK109 := bb BK109 hb; replace BK139 := bb BK139 hb; replace HB := bs HB hb; clear hb) | ((with_reducible refine gd 74 ?_); (try (refine QG (by rfl) ?_; dsimp only)); refine Kd.R_lit k68 _ 68 ?hg (N := 74) ?hd (xs := ([(⟨20, 370, 4, (⟨t193, t194⟩ : S24)⟩ : S68), (⟨20, 360, 4, (⟨t195, t196⟩ : S24)⟩ : S68)] : List S68)) (inner := [.int .i64 20, .int .i64 370, .int .i64 4, .int .i64 t193, .int .i64 t194, .int .i64 20, .int .i64 360, .int .i64 4, .int .i64 t195, .int .i64 t196]) (ok := fun _ => True) (okp := fun _ => True) ?hr ?hp (fun _ hk => hk) trivial (Below.refl _ _) (Nat.le_refl _) (by simp) ?_; (case hd => rfl); (case hg => rfl); (case hr => first | (go_simp; done) | (go_simp; rfl)); (case hp => exact (Reps.c5 (show Kd.M k68 _ _ _ (⟨20, 370, 4, (⟨t193, t194⟩ : S24)⟩ : S68) [.int .i64 20, .int .i64 370, .int .i64 4, .int .i64 t193, .int .i64 t194] from (Yx _ _ _ (⟨20, 370, 4, (⟨t193, t194⟩ : S24)⟩ : S68) )) (Reps.c5 (show Kd.M k68 _ _ _ (⟨20, 360, 4, (⟨t195, t196⟩ : S24)⟩ : S68) [.int .i64 20, .int .i64 360, .int .i64 4, .int .i64 t195, .int .i64 t196] from (Yx _ _ _ (⟨20, 360, 4, (⟨t195, t196⟩ : S24)⟩ : S68) )) (Reps.none _ _)))); intro v198 w71 ho72 hb hg_ hnew_; clear hg_ hnew_; (first | rw [← Ny197.out] at ho72 | (simp only [Int.reduceToNat] at ho72; rw [← Ny197.out] at ho72)); replace HO112 := rb HO112 hb; replace HO120 := rb HO120 hb; replace HO127 := rb HO127 hb; replace HO135 := rb HO135 hb; replace HO142 := rb HO142 hb; replace HO150 := rb HO150 hb; replace HO155 := rb HO155 hb; replace HO165 := rb HO165 hb; replace HO188 := rb HO188 hb; replace HO192 := Qa.mk (Kd.N_elder' (pN HO192.out) (Kd.R_base ho72) hb); have HO199 := rl ho72 HB; replace BK109 := bb BK109 hb; replace BK139 := bb BK139 hb; replace HB := bs HB hb; clear hb ho72; obtain ⟨Ao73, co73, eo73⟩ := Kd.R_slice HO199.out; subst eo73) | ((with_reducible refine gc 40 rfl ?_); refine gL 75 Tryz.func40 #[.slice Ao73 y197.length co73] ?_; (with_reducible refine (QN.calls k _ _ y197 t200 t201 t202 _ ?side1 ?side2 A23.out).mono ?_); (case side1 => exact pC (Kd.R_reads' HO199.out).2.2); (case side2 => exact (Kd.R_reads' HO199.out).2.1); rintro e w74 ⟨v203, v205, rfl, ho0, ho1, hb⟩; refine ⟨_, rfl, ?_⟩; replace HO112 := rb HO112 hb; replace HO127 := rb HO127 hb; replace HO142 := rb HO142 hb; replace HO155 := rb HO155 hb; replace HO165 := rb HO165 hb; replace HO188 := rb HO188 hb; replace HO192 := Qa.mk (Kd.N_mono (Kd.N_told (Kd.N_told (Kd.N_old (pN HO192.out) hb) (Kd.R_base ho0)) (Kd.R_base ho1)) (fun _ h_ => h_.1)); replace HO199 := rb HO199 hb; have HO204 := Qa.mk (Kd.R_lower (Kd.R_new' (Kd.R_new' (Kd.R_new' ho0 (Kd.R_lt (pR HO120.out))) (Kd.R_lt (pR HO135.out))) (Kd.R_lt (pR HO150.out))) (Qr (pE HB))); have HO206 := Qa.mk (Kd.R_lower (Kd.R_new' (Kd.R_new' (Kd.R_new' ho1 (Kd.R_lt (pR HO120.out))) (Kd.R_lt (pR HO135.out))) (Kd.R_lt (pR HO150.out))) (Qr (pE HB))); replace HO120 := Qa.mk (Kd.R_mono (Kd.R_told (Kd.R_told (Kd.R_old (pR HO120.out) hb) (Kd.R_base ho0)) (Kd.R_base ho1)) (fun _ h_ => h_.1)); replace HO135 := Qa.mk (Kd.R_mono (Kd.R_told (Kd.R_told (Kd.R_old (pR HO135.out) hb) (Kd.R_base ho0)) (Kd.R_base ho1)) (fun _ h_ => h_.1)); replace HO150 := Qa.mk (Kd.R_mono (Kd.R_told (Kd.R_told (Kd.R_old (pR HO150.out) hb) (Kd.R_base ho0)) (Kd.R_base ho1)) (fun _ h_ => h_.1)); replace BK109 := bb BK109 hb; replace BK139 := bb BK139 hb; replace HB := bs HB hb; clear hb ho0 ho1) | ((with_reducible refine gc 65 rfl ?_); refine gL 80 Tryz.func65 #[] ?_; (with_reducible refine (Q9.calls  t207 t210 t213 _ A24.out).mono ?_); rintro e w75 ⟨v208, v211, rfl, ho0, ho1, hb⟩; refine ⟨_, rfl, ?_⟩; replace HO112 := rb HO112 hb; replace HO127 := rb HO127 hb; replace HO142 := rb HO142 hb; replace HO155 := rb HO155 hb; replace HO165 := rb HO165 hb; replace HO188 := rb HO188 hb; replace HO192 := Qa.mk (Kd.N_mono (Kd.N_told (Kd.N_told (Kd.N_old (pN HO192.out) hb) (Kd.R_base ho0)) (Kd.R_base ho1)) (fun _ h_ => h_.1)); replace HO199 := rb HO199 hb; have HO209 := Qa.mk (Kd.R_lower (Kd.R_new' (Kd.R_new' (Kd.R_new' (Kd.R_new' (Kd.R_new' ho0 (Kd.R_lt (pR HO120.out))) (Kd.R_lt (pR HO135.out))) (Kd.R_lt (pR HO150.out))) (Kd.R_lt (pR HO204.out))) (Kd.R_lt (pR HO206.out))) (Qr (pE HB))); have HO212 := Qa.mk (Kd.R_lower (Kd.R_new' (Kd.R_new' (Kd.R_new' (Kd.R_new' (Kd.R_new' ho1 (Kd.R_lt (pR HO120.out))) (Kd.R_lt (pR HO135.out))) (Kd.R_lt (pR HO150.out))) (Kd.R_lt (pR HO204.out))) (Kd.R_lt (pR HO206.out))) (Qr (pE HB))); replace HO120 := Qa.mk (Kd.R_mono (Kd.R_told (Kd.R_told (Kd.R_old (pR HO120.out) hb) (Kd.R_base ho0)) (Kd.R_base ho1)) (fun _ h_ => h_.1)); replace HO135 := Qa.mk (Kd.R_mono (Kd.R_told (Kd.R_told (Kd.R_old (pR HO135.out) hb) (Kd.R_base ho0)) (Kd.R_base ho1)) (fun _ h_ => h_.1)); replace HO150 := Qa.mk (Kd.R_mono (Kd.R_told (Kd.R_told (Kd.R_old (pR HO150.out) hb) (Kd.R_base ho0)) (Kd.R_base ho1)) (fun _ h_ => h_.1)); replace HO204 := Qa.mk (Kd.R_mono (Kd.R_told (Kd.R_told (Kd.R_old (pR HO204.out) hb) (Kd.R_base ho0)) (Kd.R_base ho1)) (fun _ h_ => h_.1)); replace HO206 := Qa.mk (Kd.R_mono (Kd.R_told (Kd.R_told (Kd.R_old (pR HO206.out) hb) (Kd.R_base ho0)) (Kd.R_base ho1)) (fun _ h_ => h_.1)); replace BK109 := bb BK109 hb; replace BK139 := bb BK139 hb; replace HB := bs HB hb; clear hb ho0 ho1; obtain ⟨Ao76, co76, eo76⟩ := Kd.R_slice HO209.out; subst eo76; obtain ⟨Ao77, co77, eo77⟩ := Kd.R_slice HO212.out; subst eo77) | ((with_reducible refine gd 81 ?_); (try (refine QG (by rfl) ?_; dsimp only)); refine Kd.N_lit k75 _ 75 ?hg (N' := 81) ?hd (xs := ([(⟨t207, t210, t213⟩ : S75)] : List S75)) (inner := [.slice Ao76 t207.length co76, .slice Ao77 t210.length co77, .int .i64 t213]) (ok := (fun k_ => some k_ ≠ (.slice Ao38 t110.length co38 : Value).ownBlock ∧ some k_ ≠ (.slice Ao39 y118.length co39 : Value).ownBlock ∧ some k_ ≠ (.slice Ao45 t125.length co45 : Value).ownBlock ∧ some k_ ≠ (.slice Ao46 y133.length co46 : Value).ownBlock ∧ some k_ ≠ (.slice Ao53 t140.length co53 : Value).ownBlock ∧ some k_ ≠ (v149 : Value).ownBlock ∧ some k_ ≠ (.slice Ao57 t153.length co57 : Value).ownBlock ∧ some k_ ≠ (.slice Ao66 t163.length co66 : Value).ownBlock ∧ some k_ ≠ (.slice Ao67 y186.length co67 : Value).ownBlock ∧ some k_ ≠ (v191 : Value).ownBlock ∧ some k_ ≠ (.slice Ao73 y197.length co73 : Value).ownBlock ∧ some k_ ≠ (v203 : Value).ownBlock ∧ some k_ ≠ (v205 : Value).ownBlock ∧ k_ ≠ gb109 ∧ k_ ≠ gb139)) (okp := (fun k_ => some k_ ≠ (.slice Ao38 t110.length co38 : Value).ownBlock ∧ some k_ ≠ (.slice Ao39 y118.length co39 : Value).ownBlock ∧ some k_ ≠ (.slice Ao45 t125.length co45 : Value).ownBlock ∧ some k_ ≠ (.slice Ao46 y133.length co46 : Value).ownBlock ∧ some k_ ≠ (.slice Ao53 t140.length co53 : Value).ownBlock ∧ some k_ ≠ (v149 : Value).ownBlock ∧ some k_ ≠ (.slice Ao57 t153.length co57 : Value).ownBlock ∧ some k_ ≠ (.slice Ao66 t163.length co66 : Value).ownBlock ∧ some k_ ≠ (.slice Ao67 y186.length co67 : Value).ownBlock ∧ some k_ ≠ (v191 : Value).ownBlock ∧ some k_ ≠ (.slice Ao73 y197.length co73 : Value).ownBlock ∧ some k_ ≠ (v203 : Value).ownBlock ∧ some k_ ≠ (v205 : Value).ownBlock ∧ k_ ≠ gb109 ∧ k_ ≠ gb139)) ?hr ?hp (fun _ hk => hk) ((show ∀ k_, w75.heap.size ≤ k_ → (fun k_ => some k_ ≠ (.slice Ao38 t110.length co38 : Value).ownBlock ∧ some k_ ≠ (.slice Ao39 y118.length co39 : Value).ownBlock ∧ some k_ ≠ (.slice Ao45 t125.length co45 : Value).ownBlock ∧ some k_ ≠ (.slice Ao46 y133.length co46 : Value).ownBlock ∧ some k_ ≠ (.slice Ao53 t140.length co53 : Value).ownBlock ∧ some k_ ≠ (v149 : Value).ownBlock ∧ some k_ ≠ (.slice Ao57 t153.length co57 : Value).ownBlock ∧ some k_ ≠ (.slice Ao66 t163.length co66 : Value).ownBlock ∧ some k_ ≠ (.slice Ao67 y186.length co67 : Value).ownBlock ∧ some k_ ≠ (v191 : Value).ownBlock ∧ some k_ ≠ (.slice Ao73 y197.length co73 : Value).ownBlock ∧ some k_ ≠ (v203 : Value).ownBlock ∧ some k_ ≠ (v205 : Value).ownBlock ∧ k_ ≠ gb109 ∧ k_ ≠ gb139) k_ from fun k_ hk => ⟨Kd.fresh' (Kd.R_lt (pR HO112.out)) k_ hk, Kd.fresh' (Kd.R_lt (pR HO120.out)) k_ hk, Kd.fresh' (Kd.R_lt (pR HO127.out)) k_ hk, Kd.fresh' (Kd.R_lt (pR HO135.out)) k_ hk, Kd.fresh' (Kd.R_lt (pR HO142.out)) k_ hk, Kd.fresh' (Kd.R_lt (pR HO150.out)) k_ hk, Kd.fresh' (Kd.R_lt (pR HO155.out)) k_ hk, Kd.fresh' (Kd.R_lt (pR HO165.out)) k_ hk, Kd.fresh' (Kd.R_lt (pR HO188.out)) k_ hk, Kd.fresh' (Kd.N_lt (pN HO192.out)) k_ hk, Kd.fresh' (Kd.R_lt (pR HO199.out)) k_ hk, Kd.fresh' (Kd.R_lt (pR HO204.out)) k_ hk, Kd.fresh' (Kd.R_lt (pR HO206.out)) k_ hk, Kd.freshB (g := gb109) (o := .cells #[.int .i64 t106, .int .i64 t107] 24 (0, 0)) (pB BK109.out) k_ hk, Kd.freshB (g := gb139) (o := .cells #[.int .i64 t136, .int .i64 t137] 24 (0, 0)) (pB BK139.out) k_ hk⟩) _ (Nat.le_refl _)) (Below.refl _ _) (Nat.le_refl _) (by simp) ?_; (case hd => rfl); (case hg => rfl); (case hr => first | (go_simp; done) | (go_simp; rfl)); (case hp => exact (Reps.c3 (show Kd.FK k75 _ _ (⟨t207, t210, t213⟩ : S75) [.slice Ao76 t207.length co76, .slice Ao77 t210.length co77, .int .i64 t213] from (Ys _ _ (⟨t207, t210, t213⟩ : S75) (Kd.R_reads' (Kd.R_mono (ok' := (fun k_ => some k_ ≠ (.slice Ao38 t110.length co38 : Value).ownBlock ∧ some k_ ≠ (.slice Ao39 y118.length co39 : Value).ownBlock ∧ some k_ ≠ (.slice Ao45 t125.length co45 : Value).ownBlock ∧ some k_ ≠ (.slice Ao46 y133.length co46 : Value).ownBlock ∧ some k_ ≠ (.slice Ao53 t140.length co53 : Value).ownBlock ∧ some k_ ≠ (v149 : Value).ownBlock ∧ some k_ ≠ (.slice Ao57 t153.length co57 : Value).ownBlock ∧ some k_ ≠ (.slice Ao66 t163.length co66 : Value).ownBlock ∧ some k_ ≠ (.slice Ao67 y186.length co67 : Value).ownBlock ∧ some k_ ≠ (v191 : Value).ownBlock ∧ some k_ ≠ (.slice Ao73 y197.length co73 : Value).ownBlock ∧ some k_ ≠ (v203 : Value).ownBlock ∧ some k_ ≠ (v205 : Value).ownBlock ∧ k_ ≠ gb109 ∧ k_ ≠ gb139)) (Kd.R_types (Kd.R_types (Kd.R_apart' (Kd.R_apart' (Kd.R_apart' (Kd.R_apart' (Kd.R_apart' (Kd.R_apart' (Kd.R_apart' (Kd.R_apart' (HO209.out) (Kd.R_typed HO112.out) (by decide)) (Kd.R_typed HO127.out) (by decide)) (Kd.R_typed HO142.out) (by decide)) (Kd.R_typed HO155.out) (by decide)) (Kd.R_typed HO165.out) (by decide)) (Kd.R_typed HO188.out) (by decide)) (Kd.N_typed HO192.out) (by decide)) (Kd.R_typed HO199.out) (by decide)) BK109.out (by decide)) BK139.out (by decide)) (fun k_ hk => ⟨hk.1.1.1.1.1.1.1.1.1.2, ⟨hk.1.1.1.1.1.1.1.1.1.1.1.1.1.1.2, ⟨hk.1.1.1.1.1.1.1.1.2, ⟨hk.1.1.1.1.1.1.1.1.1.1.1.1.1.2, ⟨hk.1.1.1.1.1.1.1.2, ⟨hk.1.1.1.1.1.1.1.1.1.1.1.1.2, ⟨hk.1.1.1.1.1.1.2, ⟨hk.1.1.1.1.1.2, ⟨hk.1.1.1.1.2, ⟨hk.1.1.1.2, ⟨hk.1.1.2, ⟨hk.1.1.1.1.1.1.1.1.1.1.1.2, ⟨hk.1.1.1.1.1.1.1.1.1.1.2, ⟨hk.1.2, hk.2⟩⟩⟩⟩⟩⟩⟩⟩⟩⟩⟩⟩⟩⟩))).2.1 (Kd.R_F (Kd.R_mono (ok' := (fun k_ => some k_ ≠ (.slice Ao38 t110.length co38 : Value).ownBlock ∧ some k_ ≠ (.slice Ao39 y118.length co39 : Value).ownBlock ∧ some k_ ≠ (.slice Ao45 t125.length co45 : Value).ownBlock ∧ some k_ ≠ (.slice Ao46 y133.length co46 : Value).ownBlock ∧ some k_ ≠ (.slice Ao53 t140.length co53 : Value).ownBlock ∧ some k_ ≠ (v149 : Value).ownBlock ∧ some k_ ≠ (.slice Ao57 t153.length co57 : Value).ownBlock ∧ some k_ ≠ (.slice Ao66 t163.length co66 : Value).ownBlock ∧ some k_ ≠ (.slice Ao67 y186.length co67 : Value).ownBlock ∧ some k_ ≠ (v191 : Value).ownBlock ∧ some k_ ≠ (.slice Ao73 y197.length co73 : Value).ownBlock ∧ some k_ ≠ (v203 : Value).ownBlock ∧ some k_ ≠ (v205 : Value).ownBlock ∧ k_ ≠ gb109 ∧ k_ ≠ gb139)) (Kd.R_types (Kd.R_types (Kd.R_apart' (Kd.R_apart' (Kd.R_apart' (Kd.R_apart' (Kd.R_apart' (Kd.R_apart' (Kd.R_apart' (Kd.R_apart' (HO209.out) (Kd.R_typed HO112.out) (by decide)) (Kd.R_typed HO127.out) (by decide)) (Kd.R_typed HO142.out) (by decide)) (Kd.R_typed HO155.out) (by decide)) (Kd.R_typed HO165.out) (by decide)) (Kd.R_typed HO188.out) (by decide)) (Kd.N_typed HO192.out) (by decide)) (Kd.R_typed HO199.out) (by decide)) BK109.out (by decide)) BK139.out (by decide)) (fun k_ hk => ⟨hk.1.1.1.1.1.1.1.1.1.2, ⟨hk.1.1.1.1.1.1.1.1.1.1.1.1.1.1.2, ⟨hk.1.1.1.1.1.1.1.1.2, ⟨hk.1.1.1.1.1.1.1.1.1.1.1.1.1.2, ⟨hk.1.1.1.1.1.1.1.2, ⟨hk.1.1.1.1.1.1.1.1.1.1.1.1.2, ⟨hk.1.1.1.1.1.1.2, ⟨hk.1.1.1.1.1.2, ⟨hk.1.1.1.1.2, ⟨hk.1.1.1.2, ⟨hk.1.1.2, ⟨hk.1.1.1.1.1.1.1.1.1.1.1.2, ⟨hk.1.1.1.1.1.1.1.1.1.1.2, ⟨hk.1.2, hk.2⟩⟩⟩⟩⟩⟩⟩⟩⟩⟩⟩⟩⟩⟩))) (Kd.R_reads' (Kd.R_mono (ok' := (fun k_ => some k_ ≠ (.slice Ao38 t110.length co38 : Value).ownBlock ∧ some k_ ≠ (.slice Ao39 y118.length co39 : Value).ownBlock ∧ some k_ ≠ (.slice Ao45 t125.length co45 : Value).ownBlock ∧ some k_ ≠ (.slice Ao46 y133.length co46 : Value).ownBlock ∧ some k_ ≠ (.slice Ao53 t140.length co53 : Value).ownBlock ∧ some k_ ≠ (v149 : Value).ownBlock ∧ some k_ ≠ (.slice Ao57 t153.length co57 : Value).ownBlock ∧ some k_ ≠ (.slice Ao66 t163.length co66 : Value).ownBlock ∧ some k_ ≠ (.slice Ao67 y186.length co67 : Value).ownBlock ∧ some k_ ≠ (v191 : Value).ownBlock ∧ some k_ ≠ (.slice Ao73 y197.length co73 : Value).ownBlock ∧ some k_ ≠ (v203 : Value).ownBlock ∧ some k_ ≠ (v205 : Value).ownBlock ∧ k_ ≠ gb109 ∧ k_ ≠ gb139)) (Kd.R_types (Kd.R_types (Kd.R_apart' (Kd.R_apart' (Kd.R_apart' (Kd.R_apart' (Kd.R_apart' (Kd.R_apart' (Kd.R_apart' (Kd.R_apart' (HO212.out) (Kd.R_typed HO112.out) (by decide)) (Kd.R_typed HO127.out) (by decide)) (Kd.R_typed HO142.out) (by decide)) (Kd.R_typed HO155.out) (by decide)) (Kd.R_typed HO165.out) (by decide)) (Kd.R_typed HO188.out) (by decide)) (Kd.N_typed HO192.out) (by decide)) (Kd.R_typed HO199.out) (by decide)) BK109.out (by decide)) BK139.out (by decide)) (fun k_ hk => ⟨hk.1.1.1.1.1.1.1.1.1.2, ⟨hk.1.1.1.1.1.1.1.1.1.1.1.1.1.1.2, ⟨hk.1.1.1.1.1.1.1.1.2, ⟨hk.1.1.1.1.1.1.1.1.1.1.1.1.1.2, ⟨hk.1.1.1.1.1.1.1.2, ⟨hk.1.1.1.1.1.1.1.1.1.1.1.1.2, ⟨hk.1.1.1.1.1.1.2, ⟨hk.1.1.1.1.1.2, ⟨hk.1.1.1.1.2, ⟨hk.1.1.1.2, ⟨hk.1.1.2, ⟨hk.1.1.1.1.1.1.1.1.1.1.1.2, ⟨hk.1.1.1.1.1.1.1.1.1.1.2, ⟨hk.1.2, hk.2⟩⟩⟩⟩⟩⟩⟩⟩⟩⟩⟩⟩⟩⟩))).2.1 (Kd.R_F (Kd.R_mono (ok' := (fun k_ => some k_ ≠ (.slice Ao38 t110.length co38 : Value).ownBlock ∧ some k_ ≠ (.slice Ao39 y118.length co39 : Value).ownBlock ∧ some k_ ≠ (.slice Ao45 t125.length co45 : Value).ownBlock ∧ some k_ ≠ (.slice Ao46 y133.length co46 : Value).ownBlock ∧ some k_ ≠ (.slice Ao53 t140.length co53 : Value).ownBlock ∧ some k_ ≠ (v149 : Value).ownBlock ∧ some k_ ≠ (.slice Ao57 t153.length co57 : Value).ownBlock ∧ some k_ ≠ (.slice Ao66 t163.length co66 : Value).ownBlock ∧ some k_ ≠ (.slice Ao67 y186.length co67 : Value).ownBlock ∧ some k_ ≠ (v191 : Value).ownBlock ∧ some k_ ≠ (.slice Ao73 y197.length co73 : Value).ownBlock ∧ some k_ ≠ (v203 : Value).ownBlock ∧ some k_ ≠ (v205 : Value).ownBlock ∧ k_ ≠ gb109 ∧ k_ ≠ gb139)) (Kd.R_types (Kd.R_types (Kd.R_apart' (Kd.R_apart' (Kd.R_apart' (Kd.R_apart' (Kd.R_apart' (Kd.R_apart' (Kd.R_apart' (Kd.R_apart' (HO212.out) (Kd.R_typed HO112.out) (by decide)) (Kd.R_typed HO127.out) (by decide)) (Kd.R_typed HO142.out) (by decide)) (Kd.R_typed HO155.out) (by decide)) (Kd.R_typed HO165.out) (by decide)) (Kd.R_typed HO188.out) (by decide)) (Kd.N_typed HO192.out) (by decide)) (Kd.R_typed HO199.out) (by decide)) BK109.out (by decide)) BK139.out (by decide)) (fun k_ hk => ⟨hk.1.1.1.1.1.1.1.1.1.2, ⟨hk.1.1.1.1.1.1.1.1.1.1.1.1.1.1.2, ⟨hk.1.1.1.1.1.1.1.1.2, ⟨hk.1.1.1.1.1.1.1.1.1.1.1.1.1.2, ⟨hk.1.1.1.1.1.1.1.2, ⟨hk.1.1.1.1.1.1.1.1.1.1.1.1.2, ⟨hk.1.1.1.1.1.1.2, ⟨hk.1.1.1.1.1.2, ⟨hk.1.1.1.1.2, ⟨hk.1.1.1.2, ⟨hk.1.1.2, ⟨hk.1.1.1.1.1.1.1.1.1.1.1.2, ⟨hk.1.1.1.1.1.1.1.1.1.1.2, ⟨hk.1.2, hk.2⟩⟩⟩⟩⟩⟩⟩⟩⟩⟩⟩⟩⟩⟩))))) (Reps.none _ _))); intro v215 w78 ho79 hb hg_ hnew_; clear hg_ hnew_; (first | rw [← Ny214.out] at ho79 | (simp only [Int.reduceToNat] at ho79; rw [← Ny214.out] at ho79)); replace HO112 := rb HO112 hb; replace HO120 := rb HO120 hb; replace HO127 := rb HO127 hb; replace HO135 := rb HO135 hb; replace HO142 := rb HO142 hb; replace HO150 := rb HO150 hb; replace HO155 := rb HO155 hb; replace HO165 := rb HO165 hb; replace HO188 := rb HO188 hb; replace HO192 := Qa.mk (Kd.N_elder' (pN HO192.out) (Kd.N_base ho79) hb); replace HO199 := rb HO199 hb; replace HO204 := rb HO204 hb; replace HO206 := rb HO206 hb; have HO216 := Qa.mk (Kd.N_lower ho79 (Qr (pE HB))); replace BK109 := bb BK109 hb; replace BK139 := bb BK139 hb; replace HB := bs HB hb; clear HO209 HO212; clear hb ho79; obtain ⟨Ao80, co80, eo80⟩ := Kd.N_slice HO216.out; subst eo80) | ((with_reducible refine gc 44 rfl ?_); refine gL 82 Tryz.func44 #[.int .i64 9, .slice Ao80 y214.length co80, .int .i64 0] ?_; (with_reducible refine (Qs.calls k 9 _ _ y214 0 t217 t218 _ ?side1 ?side2 A25.out).mono ?_); (case side1 => exact pC (Kd.N_reads' HO216.out).2.2); (case side2 => exact (Kd.N_reads' HO216.out).2.1); rintro e w81 ⟨v219, rfl, ho0, hb⟩; refine ⟨_, rfl, ?_⟩; replace HO112 := rb HO112 hb; replace HO127 := rb HO127 hb; replace HO142 := rb HO142 hb; replace HO155 := rb HO155 hb; replace HO165 := rb HO165 hb; replace HO188 := rb HO188 hb; replace HO192 := Qa.mk (Kd.N_elder' (pN HO192.out) (Kd.R_base ho0) hb); replace HO199 := rb HO199 hb; replace HO216 := Qa.mk (Kd.N_elder' (pN HO216.out) (Kd.R_base ho0) hb); have HO220 := Qa.mk (Kd.R_lower (Kd.R_new' (Kd.R_new' (Kd.R_new' (Kd.R_new' (Kd.R_new' ho0 (Kd.R_lt (pR HO120.out))) (Kd.R_lt (pR HO135.out))) (Kd.R_lt (pR HO150.out))) (Kd.R_lt (pR HO204.out))) (Kd.R_lt (pR HO206.out))) (Qr (pE HB))); replace HO120 := re HO120 ho0 hb; replace HO135 := re HO135 ho0 hb; replace HO150 := re HO150 ho0 hb; replace HO204 := re HO204 ho0 hb; replace HO206 := re HO206 ho0 hb; replace BK109 := bb BK109 hb; replace BK139 := bb BK139 hb; replace HB := bs HB hb; clear hb ho0) | ((with_reducible refine gc 65 rfl ?_); refine gL 86 Tryz.func65 #[] ?_; (with_reducible refine (Q9.calls  t221 t224 t227 _ A26.out).mono ?_); rintro e w82 ⟨v222, v225, rfl, ho0, ho1, hb⟩; refine ⟨_, rfl, ?_⟩; replace HO112 := rb HO112 hb; replace HO127 := rb HO127 hb; replace HO142 := rb HO142 hb; replace HO155 := rb HO155 hb; replace HO165 := rb HO165 hb; replace HO188 := rb HO188 hb; replace HO192 := Qa.mk (Kd.N_mono (Kd.N_told (Kd.N_told (Kd.N_old (pN HO192.out) hb) (Kd.R_base ho0)) (Kd.R_base ho1)) (fun _ h_ => h_.1)); replace HO199 := rb HO199 hb; replace HO216 := Qa.mk (Kd.N_mono (Kd.N_told (Kd.N_told (Kd.N_old (pN HO216.out) hb) (Kd.R_base ho0)) (Kd.R_base ho1)) (fun _ h_ => h_.1)); have HO223 := Qa.mk (Kd.R_lower (Kd.R_new' (Kd.R_new' (Kd.R_new' (Kd.R_new' (Kd.R_new' (Kd.R_new' ho0 (Kd.R_lt (pR HO120.out))) (Kd.R_lt (pR HO135.out))) (Kd.R_lt (pR HO150.out))) (Kd.R_lt (pR HO204.out))) (Kd.R_lt (pR HO206.out))) (Kd.R_lt (pR HO220.out))) (Qr (pE HB))); have HO226 := Qa.mk (Kd.R_lower (Kd.R_new' (Kd.R_new' (Kd.R_new' (Kd.R_new' (Kd.R_new' (Kd.R_new' ho1 (Kd.R_lt (pR HO120.out))) (Kd.R_lt (pR HO135.out))) (Kd.R_lt (pR HO150.out))) (Kd.R_lt (pR HO204.out))) (Kd.R_lt (pR HO206.out))) (Kd.R_lt (pR HO220.out))) (Qr (pE HB))); replace HO120 := Qa.mk (Kd.R_mono (Kd.R_told (Kd.R_told (Kd.R_old (pR HO120.out) hb) (Kd.R_base ho0)) (Kd.R_base ho1)) (fun _ h_ => h_.1)); replace HO135 := Qa.mk (Kd.R_mono (Kd.R_told (Kd.R_told (Kd.R_old (pR HO135.out) hb) (Kd.R_base ho0)) (Kd.R_base ho1)) (fun _ h_ => h_.1)); replace HO150 := Qa.mk (Kd.R_mono (Kd.R_told (Kd.R_told (Kd.R_old (pR HO150.out) hb) (Kd.R_base ho0)) (Kd.R_base ho1)) (fun _ h_ => h_.1)); replace HO204 := Qa.mk (Kd.R_mono (Kd.R_told (Kd.R_told (Kd.R_old (pR HO204.out) hb) (Kd.R_base ho0)) (Kd.R_base ho1)) (fun _ h_ => h_.1)); replace HO206 := Qa.mk (Kd.R_mono (Kd.R_told (Kd.R_told (Kd.R_old (pR HO206.out) hb) (Kd.R_base ho0)) (Kd.R_base ho1)) (fun _ h_ => h_.1)); replace HO220 := Qa.mk (Kd.R_mono (Kd.R_told (Kd.R_told (Kd.R_old (pR HO220.out) hb) (Kd.R_base ho0)) (Kd.R_base ho1)) (fun _ h_ => h_.1)); replace BK109 := bb BK109 hb; replace BK139 := bb BK139 hb; replace HB := bs HB hb; clear hb ho0 ho1; obtain ⟨Ao83, co83, eo83⟩ := Kd.R_slice HO223.out; subst eo83; obtain ⟨Ao84, co84, eo84⟩ := Kd.R_slice HO226.out; subst eo84) | ((with_reducible refine gd 87 ?_); (try (refine QG (by rfl) ?_; dsimp only)); refine Kd.N_lit k75 _ 75 ?hg (N' := 87) ?hd (xs := ([(⟨t221, t224, t227⟩ : S75)] : List S75)) (inner := [.slice Ao83 t221.length co83, .slice Ao84 t224.length co84, .int .i64 t227]) (ok := (fun k_ => some k_ ≠ (.slice Ao38 t110.length co38 : Value).ownBlock ∧ some k_ ≠ (.slice Ao39 y118.length co39 : Value).ownBlock ∧ some k_ ≠ (.slice Ao45 t125.length co45 : Value).ownBlock ∧ some k_ ≠ (.slice Ao46 y133.length co46 : Value).ownBlock ∧ some k_ ≠ (.slice Ao53 t140.length co53 : Value).ownBlock ∧ some k_ ≠ (v149 : Value).ownBlock ∧ some k_ ≠ (.slice Ao57 t153.length co57 : Value).ownBlock ∧ some k_ ≠ (.slice Ao66 t163.length co66 : Value).ownBlock ∧ some k_ ≠ (.slice Ao67 y186.length co67 : Value).ownBlock ∧ some k_ ≠ (v191 : Value).ownBlock ∧ some k_ ≠ (.slice Ao73 y197.length co73 : Value).ownBlock ∧ some k_ ≠ (v203 : Value).ownBlock ∧ some k_ ≠ (v205 : Value).ownBlock ∧ some k_ ≠ (.slice Ao80 y214.length co80 : Value).ownBlock ∧ some k_ ≠ (v219 : Value).ownBlock ∧ k_ ≠ gb109 ∧ k_ ≠ gb139)) (okp := (fun k_ => some k_ ≠ (.slice Ao38 t110.length co38 : Value).ownBlock ∧ some k_ ≠ (.slice Ao39 y118.length co39 : Value).ownBlock ∧ some k_ ≠ (.slice Ao45 t125.length co45 : Value).ownBlock ∧ some k_ ≠ (.slice Ao46 y133.length co46 : Value).ownBlock ∧ some k_ ≠ (.slice Ao53 t140.length co53 : Value).ownBlock ∧ some k_ ≠ (v149 : Value).ownBlock ∧ some k_ ≠ (.slice Ao57 t153.length co57 : Value).ownBlock ∧ some k_ ≠ (.slice Ao66 t163.length co66 : Value).ownBlock ∧ some k_ ≠ (.slice Ao67 y186.length co67 : Value).ownBlock ∧ some k_ ≠ (v191 : Value).ownBlock ∧ some k_ ≠ (.slice Ao73 y197.length co73 : Value).ownBlock ∧ some k_ ≠ (v203 : Value).ownBlock ∧ some k_ ≠ (v205 : Value).ownBlock ∧ some k_ ≠ (.slice Ao80 y214.length co80 : Value).ownBlock ∧ some k_ ≠ (v219 : Value).ownBlock ∧ k_ ≠ gb109 ∧ k_ ≠ gb139)) ?hr ?hp (fun _ hk => hk) ((show ∀ k_, w82.heap.size ≤ k_ → (fun k_ => some k_ ≠ (.slice Ao38 t110.length co38 : Value).ownBlock ∧ some k_ ≠ (.slice Ao39 y118.length co39 : Value).ownBlock ∧ some k_ ≠ (.slice Ao45 t125.length co45 : Value).ownBlock ∧ some k_ ≠ (.slice Ao46 y133.length co46 : Value).ownBlock ∧ some k_ ≠ (.slice Ao53 t140.length co53 : Value).ownBlock ∧ some k_ ≠ (v149 : Value).ownBlock ∧ some k_ ≠ (.slice Ao57 t153.length co57 : Value).ownBlock ∧ some k_ ≠ (.slice Ao66 t163.length co66 : Value).ownBlock ∧ some k_ ≠ (.slice Ao67 y186.length co67 : Value).ownBlock ∧ some k_ ≠ (v191 : Value).ownBlock ∧ some k_ ≠ (.slice Ao73 y197.length co73 : Value).ownBlock ∧ some k_ ≠ (v203 : Value).ownBlock ∧ some k_ ≠ (v205 : Value).ownBlock ∧ some k_ ≠ (.slice Ao80 y214.length co80 : Value).ownBlock ∧ some k_ ≠ (v219 : Value).ownBlock ∧ k_ ≠ gb109 ∧ k_ ≠ gb139) k_ from fun k_ hk => ⟨Kd.fresh' (Kd.R_lt (pR HO112.out)) k_ hk, Kd.fresh' (Kd.R_lt (pR HO120.out)) k_ hk, Kd.fresh' (Kd.R_lt (pR HO127.out)) k_ hk, Kd.fresh' (Kd.R_lt (pR HO135.out)) k_ hk, Kd.fresh' (Kd.R_lt (pR HO142.out)) k_ hk, Kd.fresh' (Kd.R_lt (pR HO150.out)) k_ hk, Kd.fresh' (Kd.R_lt (pR HO155.out)) k_ hk, Kd.fresh' (Kd.R_lt (pR HO165.out)) k_ hk, Kd.fresh' (Kd.R_lt (pR HO188.out)) k_ hk, Kd.fresh' (Kd.N_lt (pN HO192.out)) k_ hk, Kd.fresh' (Kd.R_lt (pR HO199.out)) k_ hk, Kd.fresh' (Kd.R_lt (pR HO204.out)) k_ hk, Kd.fresh' (Kd.R_lt (pR HO206.out)) k_ hk, Kd.fresh' (Kd.N_lt (pN HO216.out)) k_ hk, Kd.fresh' (Kd.R_lt (pR HO220.out)) k_ hk, Kd.freshB (g := gb109) (o := .cells #[.int .i64 t106, .int .i64 t107] 24 (0, 0)) (pB BK109.out) k_ hk, Kd.freshB (g := gb139) (o := .cells #[.int .i64 t136, .int .i64 t137] 24 (0, 0)) (pB BK139.out) k_ hk⟩) _ (Nat.le_refl _)) (Below.refl _ _) (Nat.le_refl _) (by simp) ?_; (case hd => rfl); (case hg => rfl); (case hr => first | (go_simp; done) | (go_simp; rfl)); (case hp => exact (Reps.c3 (show Kd.FK k75 _ _ (⟨t221, t224, t227⟩ : S75) [.slice Ao83 t221.length co83, .slice Ao84 t224.length co84, .int .i64 t227] from (Ys _ _ (⟨t221, t224, t227⟩ : S75) (Kd.R_reads' (Kd.R_mono (ok' := (fun k_ => some k_ ≠ (.slice Ao38 t110.length co38 : Value).ownBlock ∧ some k_ ≠ (.slice Ao39 y118.length co39 : Value).ownBlock ∧ some k_ ≠ (.slice Ao45 t125.length co45 : Value).ownBlock ∧ some k_ ≠ (.slice Ao46 y133.length co46 : Value).ownBlock ∧ some k_ ≠ (.slice Ao53 t140.length co53 : Value).ownBlock ∧ some k_ ≠ (v149 : Value).ownBlock ∧ some k_ ≠ (.slice Ao57 t153.length co57 : Value).ownBlock ∧ some k_ ≠ (.slice Ao66 t163.length co66 : Value).ownBlock ∧ some k_ ≠ (.slice Ao67 y186.length co67 : Value).ownBlock ∧ some k_ ≠ (v191 : Value).ownBlock ∧ some k_ ≠ (.slice Ao73 y197.length co73 : Value).ownBlock ∧ some k_ ≠ (v203 : Value).ownBlock ∧ some k_ ≠ (v205 : Value).ownBlock ∧ some k_ ≠ (.slice Ao80 y214.length co80 : Value).ownBlock ∧ some k_ ≠ (v219 : Value).ownBlock ∧ k_ ≠ gb109 ∧ k_ ≠ gb139)) (Kd.R_types (Kd.R_types (Kd.R_apart' (Kd.R_apart' (Kd.R_apart' (Kd.R_apart' (Kd.R_apart' (Kd.R_apart' (Kd.R_apart' (Kd.R_apart' (Kd.R_apart' (HO223.out) (Kd.R_typed HO112.out) (by decide)) (Kd.R_typed HO127.out) (by decide)) (Kd.R_typed HO142.out) (by decide)) (Kd.R_typed HO155.out) (by decide)) (Kd.R_typed HO165.out) (by decide)) (Kd.R_typed HO188.out) (by decide)) (Kd.N_typed HO192.out) (by decide)) (Kd.R_typed HO199.out) (by decide)) (Kd.N_typed HO216.out) (by decide)) BK109.out (by decide)) BK139.out (by decide)) (fun k_ hk => ⟨hk.1.1.1.1.1.1.1.1.1.1.2, ⟨hk.1.1.1.1.1.1.1.1.1.1.1.1.1.1.1.1.2, ⟨hk.1.1.1.1.1.1.1.1.1.2, ⟨hk.1.1.1.1.1.1.1.1.1.1.1.1.1.1.1.2, ⟨hk.1.1.1.1.1.1.1.1.2, ⟨hk.1.1.1.1.1.1.1.1.1.1.1.1.1.1.2, ⟨hk.1.1.1.1.1.1.1.2, ⟨hk.1.1.1.1.1.1.2, ⟨hk.1.1.1.1.1.2, ⟨hk.1.1.1.1.2, ⟨hk.1.1.1.2, ⟨hk.1.1.1.1.1.1.1.1.1.1.1.1.1.2, ⟨hk.1.1.1.1.1.1.1.1.1.1.1.1.2, ⟨hk.1.1.2, ⟨hk.1.1.1.1.1.1.1.1.1.1.1.2, ⟨hk.1.2, hk.2⟩⟩⟩⟩⟩⟩⟩⟩⟩⟩⟩⟩⟩⟩⟩⟩))).2.1 (Kd.R_F (Kd.R_mono (ok' := (fun k_ => some k_ ≠ (.slice Ao38 t110.length co38 : Value).ownBlock ∧ some k_ ≠ (.slice Ao39 y118.length co39 : Value).ownBlock ∧ some k_ ≠ (.slice Ao45 t125.length co45 : Value).ownBlock ∧ some k_ ≠ (.slice Ao46 y133.length co46 : Value).ownBlock ∧ some k_ ≠ (.slice Ao53 t140.length co53 : Value).ownBlock ∧ some k_ ≠ (v149 : Value).ownBlock ∧ some k_ ≠ (.slice Ao57 t153.length co57 : Value).ownBlock ∧ some k_ ≠ (.slice Ao66 t163.length co66 : Value).ownBlock ∧ some k_ ≠ (.slice Ao67 y186.length co67 : Value).ownBlock ∧ some k_ ≠ (v191 : Value).ownBlock ∧ some k_ ≠ (.slice Ao73 y197.length co73 : Value).ownBlock ∧ some k_ ≠ (v203 : Value).ownBlock ∧ some k_ ≠ (v205 : Value).ownBlock ∧ some k_ ≠ (.slice Ao80 y214.length co80 : Value).ownBlock ∧ some k_ ≠ (v219 : Value).ownBlock ∧ k_ ≠ gb109 ∧ k_ ≠ gb139)) (Kd.R_types (Kd.R_types (Kd.R_apart' (Kd.R_apart' (Kd.R_apart' (Kd.R_apart' (Kd.R_apart' (Kd.R_apart' (Kd.R_apart' (Kd.R_apart' (Kd.R_apart' (HO223.out) (Kd.R_typed HO112.out) (by decide)) (Kd.R_typed HO127.out) (by decide)) (Kd.R_typed HO142.out) (by decide)) (Kd.R_typed HO155.out) (by decide)) (Kd.R_typed HO165.out) (by decide)) (Kd.R_typed HO188.out) (by decide)) (Kd.N_typed HO192.out) (by decide)) (Kd.R_typed HO199.out) (by decide)) (Kd.N_typed HO216.out) (by decide)) BK109.out (by decide)) BK139.out (by decide)) (fun k_ hk => ⟨hk.1.1.1.1.1.1.1.1.1.1.2, ⟨hk.1.1.1.1.1.1.1.1.1.1.1.1.1.1.1.1.2, ⟨hk.1.1.1.1.1.1.1.1.1.2, ⟨hk.1.1.1.1.1.1.1.1.1.1.1.1.1.1.1.2, ⟨hk.1.1.1.1.1.1.1.1.2, ⟨hk.1.1.1.1.1.1.1.1.1.1.1.1.1.1.2, ⟨hk.1.1.1.1.1.1.1.2, ⟨hk.1.1.1.1.1.1.2, ⟨hk.1.1.1.1.1.2, ⟨hk.1.1.1.1.2, ⟨hk.1.1.1.2, ⟨hk.1.1.1.1.1.1.1.1.1.1.1.1.1.2, ⟨hk.1.1.1.1.1.1.1.1.1.1.1.1.2, ⟨hk.1.1.2, ⟨hk.1.1.1.1.1.1.1.1.1.1.1.2, ⟨hk.1.2, hk.2⟩⟩⟩⟩⟩⟩⟩⟩⟩⟩⟩⟩⟩⟩⟩⟩))) (Kd.R_reads' (Kd.R_mono (ok' := (fun k_ => some k_ ≠ (.slice Ao38 t110.length co38 : Value).ownBlock ∧ some k_ ≠ (.slice Ao39 y118.length co39 : Value).ownBlock ∧ some k_ ≠ (.slice Ao45 t125.length co45 : Value).ownBlock ∧ some k_ ≠ (.slice Ao46 y133.length co46 : Value).ownBlock ∧ some k_ ≠ (.slice Ao53 t140.length co53 : Value).ownBlock ∧ some k_ ≠ (v149 : Value).ownBlock ∧ some k_ ≠ (.slice Ao57 t153.length co57 : Value).ownBlock ∧ some k_ ≠ (.slice Ao66 t163.length co66 : Value).ownBlock ∧ some k_ ≠ (.slice Ao67 y186.length co67 : Value).ownBlock ∧ some k_ ≠ (v191 : Value).ownBlock ∧ some k_ ≠ (.slice Ao73 y197.length co73 : Value).ownBlock ∧ some k_ ≠ (v203 : Value).ownBlock ∧ some k_ ≠ (v205 : Value).ownBlock ∧ some k_ ≠ (.slice Ao80 y214.length co80 : Value).ownBlock ∧ some k_ ≠ (v219 : Value).ownBlock ∧ k_ ≠ gb109 ∧ k_ ≠ gb139)) (Kd.R_types (Kd.R_types (Kd.R_apart' (Kd.R_apart' (Kd.R_apart' (Kd.R_apart' (Kd.R_apart' (Kd.R_apart' (Kd.R_apart' (Kd.R_apart' (Kd.R_apart' (HO226.out) (Kd.R_typed HO112.out) (by decide)) (Kd.R_typed HO127.out) (by decide)) (Kd.R_typed HO142.out) (by decide)) (Kd.R_typed HO155.out) (by decide)) (Kd.R_typed HO165.out) (by decide)) (Kd.R_typed HO188.out) (by decide)) (Kd.N_typed HO192.out) (by decide)) (Kd.R_typed HO199.out) (by decide)) (Kd.N_typed HO216.out) (by decide)) BK109.out (by decide)) BK139.out (by decide)) (fun k_ hk => ⟨hk.1.1.1.1.1.1.1.1.1.1.2, ⟨hk.1.1.1.1.1.1.1.1.1.1.1.1.1.1.1.1.2, ⟨hk.1.1.1.1.1.1.1.1.1.2, ⟨hk.1.1.1.1.1.1.1.1.1.1.1.1.1.1.1.2, ⟨hk.1.1.1.1.1.1.1.1.2, ⟨hk.1.1.1.1.1.1.1.1.1.1.1.1.1.1.2, ⟨hk.1.1.1.1.1.1.1.2, ⟨hk.1.1.1.1.1.1.2, ⟨hk.1.1.1.1.1.2, ⟨hk.1.1.1.1.2, ⟨hk.1.1.1.2, ⟨hk.1.1.1.1.1.1.1.1.1.1.1.1.1.2, ⟨hk.1.1.1.1.1.1.1.1.1.1.1.1.2, ⟨hk.1.1.2, ⟨hk.1.1.1.1.1.1.1.1.1.1.1.2, ⟨hk.1.2, hk.2⟩⟩⟩⟩⟩⟩⟩⟩⟩⟩⟩⟩⟩⟩⟩⟩))).2.1 (Kd.R_F (Kd.R_mono (ok' := (fun k_ => some k_ ≠ (.slice Ao38 t110.length co38 : Value).ownBlock ∧ some k_ ≠ (.slice Ao39 y118.length co39 : Value).ownBlock ∧ some k_ ≠ (.slice Ao45 t125.length co45 : Value).ownBlock ∧ some k_ ≠ (.slice Ao46 y133.length co46 : Value).ownBlock ∧ some k_ ≠ (.slice Ao53 t140.length co53 : Value).ownBlock ∧ some k_ ≠ (v149 : Value).ownBlock ∧ some k_ ≠ (.slice Ao57 t153.length co57 : Value).ownBlock ∧ some k_ ≠ (.slice Ao66 t163.length co66 : Value).ownBlock ∧ some k_ ≠ (.slice Ao67 y186.length co67 : Value).ownBlock ∧ some k_ ≠ (v191 : Value).ownBlock ∧ some k_ ≠ (.slice Ao73 y197.length co73 : Value).ownBlock ∧ some k_ ≠ (v203 : Value).ownBlock ∧ some k_ ≠ (v205 : Value).ownBlock ∧ some k_ ≠ (.slice Ao80 y214.length co80 : Value).ownBlock ∧ some k_ ≠ (v219 : Value).ownBlock ∧ k_ ≠ gb109 ∧ k_ ≠ gb139)) (Kd.R_types (Kd.R_types (Kd.R_apart' (Kd.R_apart' (Kd.R_apart' (Kd.R_apart' (Kd.R_apart' (Kd.R_apart' (Kd.R_apart' (Kd.R_apart' (Kd.R_apart' (HO226.out) (Kd.R_typed HO112.out) (by decide)) (Kd.R_typed HO127.out) (by decide)) (Kd.R_typed HO142.out) (by decide)) (Kd.R_typed HO155.out) (by decide)) (Kd.R_typed HO165.out) (by decide)) (Kd.R_typed HO188.out) (by decide)) (Kd.N_typed HO192.out) (by decide)) (Kd.R_typed HO199.out) (by decide)) (Kd.N_typed HO216.out) (by decide)) BK109.out (by decide)) BK139.out (by decide)) (fun k_ hk => ⟨hk.1.1.1.1.1.1.1.1.1.1.2, ⟨hk.1.1.1.1.1.1.1.1.1.1.1.1.1.1.1.1.2, ⟨hk.1.1.1.1.1.1.1.1.1.2, ⟨hk.1.1.1.1.1.1.1.1.1.1.1.1.1.1.1.2, ⟨hk.1.1.1.1.1.1.1.1.2, ⟨hk.1.1.1.1.1.1.1.1.1.1.1.1.1.1.2, ⟨hk.1.1.1.1.1.1.1.2, ⟨hk.1.1.1.1.1.1.2, ⟨hk.1.1.1.1.1.2, ⟨hk.1.1.1.1.2, ⟨hk.1.1.1.2, ⟨hk.1.1.1.1.1.1.1.1.1.1.1.1.1.2, ⟨hk.1.1.1.1.1.1.1.1.1.1.1.1.2, ⟨hk.1.1.2, ⟨hk.1.1.1.1.1.1.1.1.1.1.1.2, ⟨hk.1.2, hk.2⟩⟩⟩⟩⟩⟩⟩⟩⟩⟩⟩⟩⟩⟩⟩⟩))))) (Reps.none _ _))); intro v229 w85 ho86 hb hg_ hnew_; clear hg_ hnew_; (first | rw [← Ny228.out] at ho86 | (simp only [Int.reduceToNat] at ho86; rw [← Ny228.out] at ho86)); replace HO112 := rb HO112 hb; replace HO120 := rb HO120 hb; replace HO127 := rb HO127 hb; replace HO135 := rb HO135 hb; replace HO142 := rb HO142 hb; replace HO150 := rb HO150 hb; replace HO155 := rb HO155 hb; replace HO165 := rb HO165 hb; replace HO188 := rb HO188 hb; replace HO192 := Qa.mk (Kd.N_elder' (pN HO192.out) (Kd.N_base ho86) hb); replace HO199 := rb HO199 hb; replace HO204 := rb HO204 hb; replace HO206 := rb HO206 hb; replace HO216 := Qa.mk (Kd.N_elder' (pN HO216.out) (Kd.N_base ho86) hb); replace HO220 := rb HO220 hb; have HO230 := Qa.mk (Kd.N_lower ho86 (Qr (pE HB))); replace BK109 := bb BK109 hb; replace BK139 := bb BK139 hb; replace HB := bs HB hb; clear HO223 HO226; clear hb ho86; obtain ⟨Ao87, co87, eo87⟩ := Kd.N_slice HO230.out; subst eo87) | ((with_reducible refine gc 45 rfl ?_); refine gL 88 Tryz.func45 #[.int .i64 9, .slice Ao87 y228.length co87] ?_; (with_reducible refine (QT.calls k 9 _ _ y228 t231 t232 _ ?side1 ?side2 A27.out).mono ?_); (case side1 => exact pC (Kd.N_reads' HO230.out).2.2); (case side2 => exact (Kd.N_reads' HO230.out).2.1); rintro e w88 ⟨rfl, hb⟩; refine ⟨_, rfl, ?_⟩; replace HO112 := rb HO112 hb; replace HO120 := rb HO120 hb; replace HO127 := rb HO127 hb; replace HO135 := rb HO135 hb; replace HO142 := rb HO142 hb; replace HO150 := rb HO150 hb; replace HO155 := rb HO155 hb; replace HO165 := rb HO165 hb; replace HO188 := rb HO188 hb; replace HO192 := Qa.mk (Kd.N_below (pN HO192.out) hb); replace HO199 := rb HO199 hb; replace HO204 := rb HO204 hb; replace HO206 := rb HO206 hb; replace HO216 := Qa.mk (Kd.N_below (pN HO216.out) hb); replace HO220 := rb HO220 hb; replace HO230 := Qa.mk (Kd.N_below (pN HO230.out) hb); replace BK109 := bb BK109 hb; replace BK139 := bb BK139 hb; replace HB := bs HB hb; clear hb) | ((with_reducible refine gd 92 ?_); (try (refine QG (by rfl) ?_; dsimp only)); refine Kd.R_lit (Kd.int .i64) _ 3 ?hg (N := 92) ?hd (xs := ([3, 3, 1] : List Int)) (inner := [.int .i64 3, .int .i64 3, .int .i64 1]) (ok := fun _ => True) (okp := fun _ => True) ?hr ?hp (fun _ hk => hk) trivial (Below.refl _ _) (Nat.le_refl _) (by simp) ?_; (case hd => rfl); (case hg => rfl); (case hr => first | (go_simp; done) | (go_simp; rfl)); (case hp => exact (Reps.one (show Kd.M (Kd.int .i64) _ _ _ 3 [.int .i64 3] from rfl) (Reps.one (show Kd.M (Kd.int .i64) _ _ _ 3 [.int .i64 3] from rfl) (Reps.one (show Kd.M (Kd.int .i64) _ _ _ 1 [.int .i64 1] from rfl) (Reps.none _ _))))); intro v234 w89 ho90 hb hg_ hnew_; clear hg_ hnew_; (first | rw [← Ny233.out] at ho90 | (simp only [Int.reduceToNat] at ho90; rw [← Ny233.out] at ho90)); replace HO112 := rb HO112 hb; replace HO127 := rb HO127 hb; replace HO142 := rb HO142 hb; replace HO155 := rb HO155 hb; replace HO165 := rb HO165 hb; replace HO188 := rb HO188 hb; replace HO192 := Qa.mk (Kd.N_elder' (pN HO192.out) (Kd.R_base ho90) hb); replace HO199 := rb HO199 hb; replace HO216 := Qa.mk (Kd.N_elder' (pN HO216.out) (Kd.R_base ho90) hb); replace HO230 := Qa.mk (Kd.N_elder' (pN HO230.out) (Kd.R_base ho90) hb); have HO235 := Qa.mk (Kd.R_lower (Kd.R_new' (Kd.R_new' (Kd.R_new' (Kd.R_new' (Kd.R_new' (Kd.R_new' ho90 (Kd.R_lt (pR HO120.out))) (Kd.R_lt (pR HO135.out))) (Kd.R_lt (pR HO150.out))) (Kd.R_lt (pR HO204.out))) (Kd.R_lt (pR HO206.out))) (Kd.R_lt (pR HO220.out))) (Qr (pE HB))); replace HO120 := re HO120 ho90 hb; replace HO135 := re HO135 ho90 hb; replace HO150 := re HO150 ho90 hb; replace HO204 := re HO204 ho90 hb; replace HO206 := re HO206 ho90 hb; replace HO220 := re HO220 ho90 hb; replace BK109 := bb BK109 hb; replace BK139 := bb BK139 hb; replace HB := bs HB hb; clear hb ho90; obtain ⟨Ao91, co91, eo91⟩ := Kd.R_slice HO235.out; subst eo91) | ((with_reducible refine gc 49 rfl ?_); refine gL 93 Tryz.func49 #[.slice Ao91 y233.length co91, .int .i64 10] ?_; (with_reducible refine (QE.calls k _ _ y233 10 t236 t237 _ ?side1 ?side2 A28.out).mono ?_); (case side1 => exact pC (Kd.R_reads' HO235.out).2.2); (case side2 => exact (Kd.R_reads' HO235.out).2.1); rintro e w92 ⟨v238, rfl, ho0, hb⟩; refine ⟨_, rfl, ?_⟩; replace HO112 := rb HO112 hb; replace HO127 := rb HO127 hb; replace HO142 := rb HO142 hb; replace HO155 := rb HO155 hb; replace HO165 := rb HO165 hb; replace HO188 := rb HO188 hb; replace HO192 := Qa.mk (Kd.N_elder' (pN HO192.out) (Kd.R_base ho0) hb); replace HO199 := rb HO199 hb; replace HO216 := Qa.mk (Kd.N_elder' (pN HO216.out) (Kd.R_base ho0) hb); replace HO230 := Qa.mk (Kd.N_elder' (pN HO230.out) (Kd.R_base ho0) hb); have HO239 := Qa.mk (Kd.R_lower (Kd.R_new' (Kd.R_new' (Kd.R_new' (Kd.R_new' (Kd.R_new' (Kd.R_new' (Kd.R_new' ho0 (Kd.R_lt (pR HO120.out))) (Kd.R_lt (pR HO135.out))) (Kd.R_lt (pR HO150.out))) (Kd.R_lt (pR HO204.out))) (Kd.R_lt (pR HO206.out))) (Kd.R_lt (pR HO220.out))) (Kd.R_lt (pR HO235.out))) (Qr (pE HB))); replace HO120 := re HO120 ho0 hb; replace HO135 := re HO135 ho0 hb; replace HO150 := re HO150 ho0 hb; replace HO204 := re HO204 ho0 hb; replace HO206 := re HO206 ho0 hb; replace HO220 := re HO220 ho0 hb; replace HO235 := re HO235 ho0 hb; replace BK109 := bb BK109 hb; replace BK139 := bb BK139 hb; replace HB := bs HB hb; clear hb ho0))
 (try simp only [Act.put, List.setIfInBounds_toArray, List.set_cons_zero, List.set_cons_succ])
 go_cut [138] (fun v138 wc => ∃ (kq : Nat) (x138_28 : Bool), v138 = .bool x138_28 ∧ Qa (Qd.j0 kq t121 t122 t123 t148 t151 t161 t189 t200 t201 t217 t231 t236 x138_28 t106 t107 t136 t137 = some r) ∧ Qa (kq ≤ k) ∧ Qa (Kd.R (Kd.int .i64) 3 wc w.heap.size (fun k_ => some k_ ≠ (v203 : Value).ownBlock ∧ some k_ ≠ (v205 : Value).ownBlock ∧ some k_ ≠ (v219 : Value).ownBlock ∧ some k_ ≠ (v238 : Value).ownBlock) v149 t148) ∧ Qa (Kd.N (Kd.slice 3 (Kd.int .i64)) 27 wc w.heap.size (fun k_ => some k_ ≠ (v149 : Value).ownBlock ∧ some k_ ≠ (v203 : Value).ownBlock ∧ some k_ ≠ (v205 : Value).ownBlock ∧ some k_ ≠ (v219 : Value).ownBlock ∧ some k_ ≠ (v238 : Value).ownBlock ∧ k_ ≠ gb109 ∧ k_ ≠ gb139) v191 t189) ∧ Qa (Kd.R (Kd.int .i64) 3 wc w.heap.size (fun k_ => some k_ ≠ (v149 : Value).ownBlock ∧ some k_ ≠ (v205 : Value).ownBlock ∧ some k_ ≠ (v219 : Value).ownBlock ∧ some k_ ≠ (v238 : Value).ownBlock) v203 t200) ∧ Qa (Kd.R (Kd.int .i64) 3 wc w.heap.size (fun k_ => some k_ ≠ (v149 : Value).ownBlock ∧ some k_ ≠ (v203 : Value).ownBlock ∧ some k_ ≠ (v219 : Value).ownBlock ∧ some k_ ≠ (v238 : Value).ownBlock) v205 t201) ∧ Qa (Kd.R (Kd.int .i64) 3 wc w.heap.size (fun k_ => some k_ ≠ (v149 : Value).ownBlock ∧ some k_ ≠ (v203 : Value).ownBlock ∧ some k_ ≠ (v205 : Value).ownBlock ∧ some k_ ≠ (v238 : Value).ownBlock) v219 t217) ∧ Qa (Kd.R (Kd.int .i64) 3 wc w.heap.size (fun k_ => some k_ ≠ (v149 : Value).ownBlock ∧ some k_ ≠ (v203 : Value).ownBlock ∧ some k_ ≠ (v205 : Value).ownBlock ∧ some k_ ≠ (v219 : Value).ownBlock) v238 t236) ∧ Qa (wc.heap[gb109]? = some (.cells #[.int .i64 t106, .int .i64 t107] 24 (0, 0))) ∧ Qa (wc.heap[gb139]? = some (.cells #[.int .i64 t136, .int .i64 t137] 24 (0, 0))) ∧ Qa (Below w.heap.size w wc))
 case first =>
  have H := HC29.out
  clear HC29
  by_cases c93 : t108 = 0
  ·
   rw [if_pos c93] at H
   have c93b0 : (t108 == 0) = true := beq_iff_eq.mpr c93
   have c93b1 : (t108 != 0) = false := bne_eq_false_iff_eq.mpr c93
   clear c93
   (first | rw [c93b0] | (simp only [QR, QU]; rw [c93b0]) | skip)
   by_cases c94 : t124 = 0
   ·
    rw [if_pos c94] at H
    have c94b0 : (t124 == 0) = true := beq_iff_eq.mpr c94
    have c94b1 : (t124 != 0) = false := bne_eq_false_iff_eq.mpr c94
    clear c94
    by_cases c95 : t138 = 0
    ·
     rw [if_pos c95] at H
     have c95b0 : (t138 == 0) = true := beq_iff_eq.mpr c95
     have c95b1 : (t138 != 0) = false := bne_eq_false_iff_eq.mpr c95
     clear c95
     by_cases c96 : t152 = 0
     ·
      rw [if_pos c96] at H
      have c96b0 : (t152 == 0) = true := beq_iff_eq.mpr c96
      have c96b1 : (t152 != 0) = false := bne_eq_false_iff_eq.mpr c96
      clear c96
      by_cases c97 : t162 = 0
      ·
       rw [if_pos c97] at H
       have c97b0 : (t162 == 0) = true := beq_iff_eq.mpr c97
       have c97b1 : (t162 != 0) = false := bne_eq_false_iff_eq.mpr c97
       clear c97
       by_cases c98 : t190 = 0
       ·
        rw [if_pos c98] at H
        have c98b0 : (t190 == 0) = true := beq_iff_eq.mpr c98
        have c98b1 : (t190 != 0) = false := bne_eq_false_iff_eq.mpr c98
        clear c98
        by_cases c99 : t202 = 0
        ·
         rw [if_pos c99] at H
         have c99b0 : (t202 == 0) = true := beq_iff_eq.mpr c99
         have c99b1 : (t202 != 0) = false := bne_eq_false_iff_eq.mpr c99
         clear c99
         by_cases c100 : t218 = 0
         ·
          rw [if_pos c100] at H
          have c100b0 : (t218 == 0) = true := beq_iff_eq.mpr c100
          have c100b1 : (t218 != 0) = false := bne_eq_false_iff_eq.mpr c100
          clear c100
          by_cases c101 : t232 = 0
          ·
           rw [if_pos c101] at H
           have c101b0 : (t232 == 0) = true := beq_iff_eq.mpr c101
           have c101b1 : (t232 != 0) = false := bne_eq_false_iff_eq.mpr c101
           clear c101
           by_cases c102 : t237 = 0
           ·
            rw [if_pos c102] at H
            have c102b0 : (t237 == 0) = true := beq_iff_eq.mpr c102
            have c102b1 : (t237 != 0) = false := bne_eq_false_iff_eq.mpr c102
            clear c102
            have H' := Qa.mk H
            clear H
            obtain ⟨Ao103, co103, eo103⟩ := Kd.N_slice HO192.out
            subst eo103
            go_wp2
            go_meet
            case rel => exact ⟨_, (((t189.length : Int) != 3)), eS, H', ⟨by first | omega | exact Nat.le_refl _⟩, ⟨by (with_reducible repeat (first | apply Kd.R_alloc | apply Kd.R_drewN | apply Kd.R_drew)); exact Kd.R_mono HO150.out (fun _ hk => ⟨hk.1.1.1.1.1.1.1.1.2, ⟨hk.1.1.1.1.1.1.1.2, ⟨hk.1.1.1.1.2, hk.2⟩⟩⟩)⟩, ⟨by (with_reducible repeat (first | apply Kd.N_alloc | apply Kd.N_drewN | apply Kd.N_drew)); exact Kd.N_mono HO192.out (fun _ hk => ⟨hk.1.1.1.1.1.1.1.1.1.1.1.1.2.2.2.2.2.1, ⟨hk.1.1.1.1.1.1.1.1.1.1.2, ⟨hk.1.1.1.1.1.1.1.1.1.2, ⟨hk.1.1.1.1.1.2, ⟨hk.2, ⟨hk.1.1.1.1.1.1.1.1.1.1.1.1.2.2.2.2.2.2.2.2.2.1, hk.1.1.1.1.1.1.1.1.1.1.1.1.2.2.2.2.2.2.2.2.2.2⟩⟩⟩⟩⟩⟩)⟩, ⟨by (with_reducible repeat (first | apply Kd.R_alloc | apply Kd.R_drewN | apply Kd.R_drew)); exact Kd.R_mono HO204.out (fun _ hk => ⟨hk.1.1.1.1.1.1.1.2, ⟨hk.1.1.1.1.1.1.1.1.1.1, ⟨hk.1.1.1.1.2, hk.2⟩⟩⟩)⟩, ⟨by (with_reducible repeat (first | apply Kd.R_alloc | apply Kd.R_drewN | apply Kd.R_drew)); exact Kd.R_mono HO206.out (fun _ hk => ⟨hk.1.1.1.1.1.1.1.2, ⟨hk.1.1.1.1.1.1.1.1.1.1, ⟨hk.1.1.1.1.2, hk.2⟩⟩⟩)⟩, ⟨by (with_reducible repeat (first | apply Kd.R_alloc | apply Kd.R_drewN | apply Kd.R_drew)); exact Kd.R_mono HO220.out (fun _ hk => ⟨hk.1.1.1.1.1.1.2, ⟨hk.1.1.1.1.1.2, ⟨hk.1.1.1.1.2, hk.2⟩⟩⟩)⟩, ⟨by (with_reducible repeat (first | apply Kd.R_alloc | apply Kd.R_drewN | apply Kd.R_drew)); exact Kd.R_mono HO239.out (fun _ hk => ⟨hk.1.1.1.1.2, ⟨hk.1.1.1.2, ⟨hk.1.1.2, hk.1.2⟩⟩⟩)⟩, ⟨pB BK109.out⟩, ⟨pB BK139.out⟩, ⟨pE HB⟩⟩
           ·
            rw [if_neg c102] at H
            have c102b0 : (t237 == 0) = false := beq_eq_false_iff_ne.mpr c102
            have c102b1 : (t237 != 0) = true := bne_iff_ne.mpr c102
            exact (Qd.dead_j0 _ _ _ _ _ _ _ _ _ _ _ _ _ _ _ _ _ _ H HRT.out).elim
          ·
           rw [if_neg c101] at H
           have c101b0 : (t232 == 0) = false := beq_eq_false_iff_ne.mpr c101
           have c101b1 : (t232 != 0) = true := bne_iff_ne.mpr c101
           exact (Qd.dead_j0 _ _ _ _ _ _ _ _ _ _ _ _ _ _ _ _ _ _ H HRT.out).elim
         ·
          rw [if_neg c100] at H
          have c100b0 : (t218 == 0) = false := beq_eq_false_iff_ne.mpr c100
          have c100b1 : (t218 != 0) = true := bne_iff_ne.mpr c100
          exact (Qd.dead_j0 _ _ _ _ _ _ _ _ _ _ _ _ _ _ _ _ _ _ H HRT.out).elim
        ·
         rw [if_neg c99] at H
         have c99b0 : (t202 == 0) = false := beq_eq_false_iff_ne.mpr c99
         have c99b1 : (t202 != 0) = true := bne_iff_ne.mpr c99
         exact (Qd.dead_j0 _ _ _ _ _ _ _ _ _ _ _ _ _ _ _ _ _ _ H HRT.out).elim
       ·
        rw [if_neg c98] at H
        have c98b0 : (t190 == 0) = false := beq_eq_false_iff_ne.mpr c98
        have c98b1 : (t190 != 0) = true := bne_iff_ne.mpr c98
        exact (Qd.dead_j0 _ _ _ _ _ _ _ _ _ _ _ _ _ _ _ _ _ _ H HRT.out).elim
      ·
       rw [if_neg c97] at H
       have c97b0 : (t162 == 0) = false := beq_eq_false_iff_ne.mpr c97
       have c97b1 : (t162 != 0) = true := bne_iff_ne.mpr c97
       exact (Qd.dead_j0 _ _ _ _ _ _ _ _ _ _ _ _ _ _ _ _ _ _ H HRT.out).elim
     ·
      rw [if_neg c96] at H
      have c96b0 : (t152 == 0) = false := beq_eq_false_iff_ne.mpr c96
      have c96b1 : (t152 != 0) = true := bne_iff_ne.mpr c96
      exact (Qd.dead_j0 _ _ _ _ _ _ _ _ _ _ _ _ _ _ _ _ _ _ H HRT.out).elim
    ·
     rw [if_neg c95] at H
     have c95b0 : (t138 == 0) = false := beq_eq_false_iff_ne.mpr c95
     have c95b1 : (t138 != 0) = true := bne_iff_ne.mpr c95
     exact (Qd.dead_j0 _ _ _ _ _ _ _ _ _ _ _ _ _ _ _ _ _ _ H HRT.out).elim
   ·
    rw [if_neg c94] at H
    have c94b0 : (t124 == 0) = false := beq_eq_false_iff_ne.mpr c94
    have c94b1 : (t124 != 0) = true := bne_iff_ne.mpr c94
    exact (Qd.dead_j0 _ _ _ _ _ _ _ _ _ _ _ _ _ _ _ _ _ _ H HRT.out).elim
  ·
   rw [if_neg c93] at H
   have c93b0 : (t108 == 0) = false := beq_eq_false_iff_ne.mpr c93
   have c93b1 : (t108 != 0) = true := bne_iff_ne.mpr c93
   (first | rw [c93b0] | (simp only [QR, QU]; rw [c93b0]) | skip)
   exact (Qd.dead_j0 _ _ _ _ _ _ _ _ _ _ _ _ _ _ _ _ _ _ H HRT.out).elim
 case rest =>
  clear HC29
  try clear c1
  try clear c2
  try clear p2
  try clear c3
  try clear c4
  try clear c5
  try clear c6
  try clear c9
  try clear c10
  try clear c15
  try clear c19
  try clear c20
  try clear c21
  try clear c32
  try clear c35
  try clear c38
  try clear c40
  try clear c44
  try clear c45
  try clear c49
  try clear c58
  try clear c63
  try clear c64
  try clear c65
  try clear c93
  try clear c93b0
  try clear c93b1
  try clear c94
  try clear c94b0
  try clear c94b1
  try clear c95
  try clear c95b0
  try clear c95b1
  try clear c96
  try clear c96b0
  try clear c96b1
  try clear c97
  try clear c97b0
  try clear c97b1
  try clear c98
  try clear c98b0
  try clear c98b1
  try clear c99
  try clear c99b0
  try clear c99b1
  try clear c100
  try clear c100b0
  try clear c100b1
  try clear c101
  try clear c101b0
  try clear c101b1
  try clear c102
  try clear c102b0
  try clear c102b1
  try clear hcz33_0
  try clear hcz33_1
  try clear hcz50_0
  try clear hcz50_1
  try clear hfz33_0
  try clear hfz33_1
  try clear hfz50_0
  try clear hfz50_1
  obtain ⟨kq, x138_28, rfl, HA, HJ28, HO_9, HO_14, HO_16, HO_17, HO_19, HO_23, BK109, BK139, HB⟩ := hcut
  cases kq with
  | zero => exact absurd HA.out (by simp [Qd.j0])
  | succ kj28 =>
   have H := HA.out
   clear HA
   simp only [Qd.j0] at H
   by_cases c104 : x138_28 = true
   ·
    subst c104
    rw [if_pos rfl] at H
    exact absurd ((Option.some.inj H).trans HRT.out) (by simp)
   ·
    replace c104 := Bool.eq_false_iff.mpr c104
    subst c104
    rw [if_neg (show ¬ (false = true) by decide)] at H
    have HC105 := Qa.mk H
    clear H
    go_upto_region 13 with (fail)
    go_cut [186] (fun v186 wc => ∃ (kq : Nat) (x186_104 : Bool), v186 = .bool x186_104 ∧ Qa (Qd.j1 kq t200 t201 t217 t231 t236 x186_104 = some r) ∧ Qa (kq ≤ kj28) ∧ Qa (Kd.R (Kd.int .i64) 3 wc w.heap.size (fun k_ => some k_ ≠ (v205 : Value).ownBlock ∧ some k_ ≠ (v219 : Value).ownBlock ∧ some k_ ≠ (v238 : Value).ownBlock) v203 t200) ∧ Qa (Kd.R (Kd.int .i64) 3 wc w.heap.size (fun k_ => some k_ ≠ (v203 : Value).ownBlock ∧ some k_ ≠ (v219 : Value).ownBlock ∧ some k_ ≠ (v238 : Value).ownBlock) v205 t201) ∧ Qa (Kd.R (Kd.int .i64) 3 wc w.heap.size (fun k_ => some k_ ≠ (v203 : Value).ownBlock ∧ some k_ ≠ (v205 : Value).ownBlock ∧ some k_ ≠ (v238 : Value).ownBlock) v219 t217) ∧ Qa (Kd.R (Kd.int .i64) 3 wc w.heap.size (fun k_ => some k_ ≠ (v203 : Value).ownBlock ∧ some k_ ≠ (v205 : Value).ownBlock ∧ some k_ ≠ (v219 : Value).ownBlock) v238 t236) ∧ Qa (wc.heap[gb109]? = some (.cells #[.int .i64 t106, .int .i64 t107] 24 (0, 0))) ∧ Qa (wc.heap[gb139]? = some (.cells #[.int .i64 t136, .int .i64 t137] 24 (0, 0))) ∧ Qa (Below w.heap.size w wc))
    case first =>
     have H := HC105.out
     clear HC105
     obtain ⟨⟨t240, t241⟩, A106, H⟩ := bi H
     by_cases c107 : (!(t106 == t240) || (!(t107 == t241))) = true
     ·
      rw [if_pos c107] at H
      have c107b0 : (!(t106 == t240) || (!(t107 == t241))) = true := c107
      clear c107
      (first | rw [c107b0] | (simp only [QR, QU]; rw [c107b0]) | skip)
      exact (Qd.dead_j1 _ _ _ _ _ _ _ H HRT.out).elim
     ·
      rw [if_neg c107] at H
      have c107b0 : (!(t106 == t240) || (!(t107 == t241))) = false := by simpa using c107
      clear c107
      (first | rw [c107b0] | (simp only [QR, QU]; rw [c107b0]) | skip)
      by_cases c108 : t121 = true
      ·
       subst c108
       rw [if_pos rfl] at H
       exact (Qd.dead_j1 _ _ _ _ _ _ _ H HRT.out).elim
      ·
       replace c108 := Bool.eq_false_iff.mpr c108
       subst c108
       rw [if_neg (show ¬ (false = true) by decide)] at H
       by_cases c109 : t122 = true
       ·
        subst c109
        rw [if_pos rfl] at H
        by_cases c110 : t123 = true
        ·
         subst c110
         rw [if_pos rfl] at H
         exact (Qd.dead_j1 _ _ _ _ _ _ _ H HRT.out).elim
        ·
         replace c110 := Bool.eq_false_iff.mpr c110
         subst c110
         rw [if_neg (show ¬ (false = true) by decide)] at H
         obtain ⟨⟨t242, t243⟩, A111, H⟩ := bi H
         by_cases c112 : (!(t136 == t242) || (!(t137 == t243))) = true
         ·
          rw [if_pos c112] at H
          have c112b0 : (!(t136 == t242) || (!(t137 == t243))) = true := c112
          clear c112
          exact (Qd.dead_j1 _ _ _ _ _ _ _ H HRT.out).elim
         ·
          rw [if_neg c112] at H
          have c112b0 : (!(t136 == t242) || (!(t137 == t243))) = false := by simpa using c112
          clear c112
          obtain ⟨y244, hy244⟩ : ∃ y_ : List Int, y_ = (([4, 1] : List Int)) := ⟨_, rfl⟩
          replace H : Option.bind (Qm.f kj28 t148 y244) _ = some r := yy hy244 H
          have Ny244 := Qa.mk hy244
          clear hy244
          obtain ⟨t247, A113, H⟩ := bi H
          by_cases c114 : t247 = true
          ·
           subst c114
           rw [if_pos rfl] at H
           by_cases c115 : t151 = 22
           ·
            rw [if_pos c115] at H
            have c115b0 : (t151 == 22) = true := beq_iff_eq.mpr c115
            have c115b1 : (t151 != 22) = false := bne_eq_false_iff_eq.mpr c115
            clear c115
            by_cases c116 : t161 = 7
            ·
             rw [if_pos c116] at H
             have c116b0 : (t161 == 7) = true := beq_iff_eq.mpr c116
             have c116b1 : (t161 != 7) = false := bne_eq_false_iff_eq.mpr c116
             clear c116
             by_cases c117 : 0 < (t189.length : Int)
             ·
              rw [if_pos c117] at H
              have c117b0 : decide (0 < (t189.length : Int)) = true := decide_eq_true c117
              have c117b1 : decide (0 < t189.length) = true := decide_eq_true (by omega)
              clear c117
              obtain ⟨y249, hy249⟩ : ∃ y_ : List Int, y_ = (([6, 0] : List Int)) := ⟨_, rfl⟩
              replace H : Option.bind (Qm.f kj28 (Jo t189 0) y249) _ = some r := yy hy249 H
              have Ny249 := Qa.mk hy249
              clear hy249
              obtain ⟨t252, A118, H⟩ := bi H
              by_cases c119 : t252 = true
              ·
               subst c119
               rw [if_pos rfl] at H
               by_cases c120 : 2 < (t189.length : Int)
               ·
                rw [if_pos c120] at H
                have c120b0 : decide (2 < (t189.length : Int)) = true := decide_eq_true c120
                have c120b1 : decide (2 < t189.length) = true := decide_eq_true (by omega)
                clear c120
                obtain ⟨y254, hy254⟩ : ∃ y_ : List Int, y_ = (([0, 3] : List Int)) := ⟨_, rfl⟩
                replace H : Option.bind (Qm.f kj28 (Jo t189 2) y254) _ = some r := yy hy254 H
                have Ny254 := Qa.mk hy254
                clear hy254
                replace H := Option.bind_eq_some_iff.mp H
                obtain ⟨t257, A1210, H⟩ := H
                have hx9 : t257 = true := by cases t257 with | true => rfl | false => exact (Qd.dead_j1 _ _ _ _ _ _ _ H HRT.out).elim
                subst hx9
                have A121 := Qa.mk A1210
                clear A1210
                have H' := Qa.mk H
                clear H
                try go_wp2
                replace HO_9 := Qa.mk (Kd.R_drew HO_9.out)
                replace HO_14 := Qa.mk (Kd.N_drew HO_14.out)
                replace HO_16 := Qa.mk (Kd.R_drew HO_16.out)
                replace HO_17 := Qa.mk (Kd.R_drew HO_17.out)
                replace HO_19 := Qa.mk (Kd.R_drew HO_19.out)
                replace HO_23 := Qa.mk (Kd.R_drew HO_23.out)
                replace BK109 := Qa.mk (Qh BK109.out)
                replace BK139 := Qa.mk (Qh BK139.out)
                replace HB := Qa.mk (QM HB.out)
                obtain ⟨Ao9x, co9x, eo9x⟩ := Kd.N_slice HO_14.out
                subst eo9x
                have p248 : 0 ≤ (0 : Int) := (by omega)
                have q248 : 0 < (t189.length : Int) := dT
                obtain ⟨ad248, A248_0, c248_0, e248, hx248_0, hl248_0, hi248_0⟩ := XZ (Kd.N_reads' HO_14.out).2.2 0 p248 q248
                cases e248
                obtain ⟨ce248, hce248, hMe248, hcc248⟩ := Kd.N_get HO_14.out [] 0 p248 (by first | exact q248 | exact dT | (have e_ := (Kd.N_reads' HO_14.out).1; omega))
                obtain ⟨ua248_0, uc248_0, rfl, ul248_0, ge248_0⟩ := Kd.FK_slice_open hMe248
                have hv248_0 := hcc248 0 _ rfl
                rw [Nat.add_zero, show ((Kd.slice 3 (Kd.int .i64))).sz = 1 from rfl, Nat.mul_one] at hv248_0
                replace hv248_0 := Option.some.inj (hv248_0.symm.trans hx248_0)
                injection hv248_0 with hva_ hvn_ hvc_
                rw [hva_] at ge248_0
                rw [hvc_] at ul248_0
                have HL248_0 := Qa.mk (show Kd.V (Kd.int .i64) 3 _ w.heap.size _ _ (Jo t189 0) from Kd.V_mk ul248_0 ge248_0)
                clear hva_ hvn_ hvc_ ge248_0 ul248_0 hcc248 hce248
                have qi248 : (0 < t189.length) = True := eq_true (by omega)
                (try rw [show ((0 : Int)).toNat = 0 from rfl] at hx248_0)
                (try rw [Addr.add_zero'] at hx248_0)
                have HR248_0 := Qa.mk hi248_0
                have HC248_0 := Qa.mk hl248_0
                clear hi248_0 hl248_0
                replace p248 := eq_true p248
                replace q248 := eq_true q248
                have p253 : 0 ≤ (2 : Int) := (by omega)
                have q253 : 2 < (t189.length : Int) := dT
                obtain ⟨ad253, A253_0, c253_0, e253, hx253_0, hl253_0, hi253_0⟩ := XZ (Kd.N_reads' HO_14.out).2.2 2 p253 q253
                obtain rfl : ad248 = ad253 := (by injection e253)
                obtain ⟨ce253, hce253, hMe253, hcc253⟩ := Kd.N_get HO_14.out [] 2 p253 (by first | exact q253 | exact dT | (have e_ := (Kd.N_reads' HO_14.out).1; omega))
                obtain ⟨ua253_0, uc253_0, rfl, ul253_0, ge253_0⟩ := Kd.FK_slice_open hMe253
                have hv253_0 := hcc253 0 _ rfl
                rw [Nat.add_zero, show ((Kd.slice 3 (Kd.int .i64))).sz = 1 from rfl, Nat.mul_one] at hv253_0
                replace hv253_0 := Option.some.inj (hv253_0.symm.trans hx253_0)
                injection hv253_0 with hva_ hvn_ hvc_
                rw [hva_] at ge253_0
                rw [hvc_] at ul253_0
                have HL253_0 := Qa.mk (show Kd.V (Kd.int .i64) 3 _ w.heap.size _ _ (Jo t189 2) from Kd.V_mk ul253_0 ge253_0)
                clear hva_ hvn_ hvc_ ge253_0 ul253_0 hcc253 hce253
                (try simp only [show (2 : Int).toNat = 2 from rfl, Nat.reduceMul, Nat.reduceEqDiff, Go.Addr.add, ↓reduceIte] at hx253_0)
                have qi253 : (2 < t189.length) = True := eq_true (by omega)
                (try rw [show ((2 : Int)).toNat = 2 from rfl] at hx253_0)
                have HR253_0 := Qa.mk hi253_0
                have HC253_0 := Qa.mk hl253_0
                clear hi253_0 hl253_0
                replace p253 := eq_true p253
                replace q253 := eq_true q253
                refine JS (n := 48) (S := fun w' => w'.cell? ⟨gb109, 0, none⟩ = some (.int .i64 t106) ∧ w'.cell? ⟨gb109, 1, none⟩ = some (.int .i64 t107) ∧ w'.cell? ⟨gb139, 0, none⟩ = some (.int .i64 t136) ∧ w'.cell? ⟨gb139, 1, none⟩ = some (.int .i64 t137) ∧ w'.cell? ad248 = some (.slice A248_0 (Jo t189 0).length c248_0) ∧ w'.cell? ⟨ad248.block, ad248.off + 2, none⟩ = some (.slice A253_0 (Jo t189 2).length c253_0)) (ds := []) #[false, false, false, false, false, false, false, false, false, false, false, false, false, false, false, false, false, false, false, false, false, false, false, false, false, false, false, false, false, false, false, false, false, false, false, false, false, false, false, false, false, false, false, false, false, false, false, false] (by kernel_rfl) rfl rfl ⟨(Qb BK109.out 0).trans rfl, (Qb BK109.out 1).trans rfl, (Qb BK139.out 0).trans rfl, (Qb BK139.out 1).trans rfl, hx248_0, hx253_0⟩ (fun hHeld => ?_); refine Jk Qd.tab13 Qd.bits13 (fun HT_ HW_ => ?_)
                generalize wc.drew = w122 at HO_9 HO_14 HO_16 HO_17 HO_19 HO_23 BK109 BK139 HB HL248_0 HL253_0 HR248_0 HR253_0 hx248_0 hx253_0 hHeld ⊢
                refine tk 0 139 hHeld ?_
                refine on 1 (fun K hK => ?_)
                refine gO Tryz.func58 #[.int .i64 40, .int .i64 47] ?_
                with_reducible refine (QC.calls 40 47 t240 t241 _ A106.out).mono ?_
                rintro e w123 ⟨rfl, hb⟩
                have HS4_ := (hb.cell (World.block_lt_of_cell? _ _ (hHeld.2.2.2.2.1))).trans (hHeld.2.2.2.2.1)
                have HS5_ := (hb.cell (World.block_lt_of_cell? _ _ (hHeld.2.2.2.2.2))).trans (hHeld.2.2.2.2.2)
                refine ⟨_, rfl, ?_⟩
                replace HL248_0 := vb HL248_0 hb
                replace HR248_0 := cr HR248_0 hb
                replace HL253_0 := vb HL253_0 hb
                replace HR253_0 := cr HR253_0 hb
                replace HO_9 := rb HO_9 hb
                replace HO_14 := Qa.mk (Kd.N_below (pN HO_14.out) hb)
                replace HO_16 := rb HO_16 hb
                replace HO_17 := rb HO_17 hb
                replace HO_19 := rb HO_19 hb
                replace HO_23 := rb HO_23 hb
                replace BK109 := bb BK109 hb
                replace BK139 := bb BK139 hb
                replace HB := bs HB hb
                (try clear hb)
                (try clear hb2)
                (try clear hk)
                (try clear hi)
                refine hK.out _ _ ⟨(Qb BK109.out 0).trans rfl, (Qb BK109.out 1).trans rfl, (Qb BK139.out 0).trans rfl, (Qb BK139.out 1).trans rfl, HS4_, HS5_⟩ (fun hHeld => ?_)
                clear hK K
                refine QY (a' := ?_) ?_ ?_
                rotate_left
                ·
                 show Act.put _ (some 140) _ = _
                 simp only [Act.put, List.setIfInBounds_toArray, List.set_cons_zero, List.set_cons_succ, QR, QU]
                 rfl
                refine pu 2 141 ?_
                refine pu 3 142 ?_
                refine pu 4 143 ?_
                refine pu 5 144 ?_
                refine pu 6 145 ?_
                refine pu 7 146 ?_
                refine pu 8 147 ?_
                refine pu 9 148 ?_
                refine pu 10 149 ?_
                refine pu 11 150 ?_
                refine pu 12 151 ?_
                refine pu 13 152 ?_
                refine tk 14 153 hHeld ?_
                refine on 15 (fun K hK => ?_)
                refine gO Tryz.func58 #[.int .i64 (-3), .int .i64 14] ?_
                with_reducible refine (QC.calls (-3) 14 t242 t243 _ A111.out).mono ?_
                rintro e w124 ⟨rfl, hb⟩
                have HS4_ := (hb.cell (World.block_lt_of_cell? _ _ (hHeld.2.2.2.2.1))).trans (hHeld.2.2.2.2.1)
                have HS5_ := (hb.cell (World.block_lt_of_cell? _ _ (hHeld.2.2.2.2.2))).trans (hHeld.2.2.2.2.2)
                refine ⟨_, rfl, ?_⟩
                replace HL248_0 := vb HL248_0 hb
                replace HR248_0 := cr HR248_0 hb
                replace HL253_0 := vb HL253_0 hb
                replace HR253_0 := cr HR253_0 hb
                replace HO_9 := rb HO_9 hb
                replace HO_14 := Qa.mk (Kd.N_below (pN HO_14.out) hb)
                replace HO_16 := rb HO_16 hb
                replace HO_17 := rb HO_17 hb
                replace HO_19 := rb HO_19 hb
                replace HO_23 := rb HO_23 hb
                replace BK109 := bb BK109 hb
                replace BK139 := bb BK139 hb
                replace HB := bs HB hb
                (try clear hb)
                (try clear hb2)
                (try clear hk)
                (try clear hi)
                refine hK.out _ _ ⟨(Qb BK109.out 0).trans rfl, (Qb BK109.out 1).trans rfl, (Qb BK139.out 0).trans rfl, (Qb BK139.out 1).trans rfl, HS4_, HS5_⟩ (fun hHeld => ?_)
                clear hK K
                refine QY (a' := ?_) ?_ ?_
                rotate_left
                ·
                 show Act.put _ (some 154) _ = _
                 simp only [Act.put, List.setIfInBounds_toArray, List.set_cons_zero, List.set_cons_succ, QR, QU]
                 rfl
                refine pu 16 155 ?_
                refine pu 17 156 ?_
                refine pu 18 157 ?_
                refine pu 19 158 ?_
                refine on 20 (fun K hK => ?_)
                refine Kd.R_lit_step (Kd.int .i64) _ 3 ?hg (N := 159) ?hd (xs := ([4, 1] : List Int)) (inner := [.int .i64 4, .int .i64 1]) (ok := fun _ => True) (okp := fun _ => True) ?hr ?hp (fun _ hk => hk) trivial (Below.refl _ _) (Nat.le_refl _) (by simp) ?_; (case hd => rfl); (case hg => rfl); (case hr => first | (go_simp; done) | (go_simp; rfl)); (case hp => exact (Reps.one (show Kd.M (Kd.int .i64) _ _ _ 4 [.int .i64 4] from rfl) (Reps.one (show Kd.M (Kd.int .i64) _ _ _ 1 [.int .i64 1] from rfl) (Reps.none _ _))))
                intro v245 w125 ho126 hb hg_ hnew_
                have HS4_ := (hb.cell (World.block_lt_of_cell? _ _ (hHeld.2.2.2.2.1))).trans (hHeld.2.2.2.2.1)
                have HS5_ := (hb.cell (World.block_lt_of_cell? _ _ (hHeld.2.2.2.2.2))).trans (hHeld.2.2.2.2.2)
                clear hg_ hnew_
                (first | rw [← Ny244.out] at ho126 | (simp only [Int.reduceToNat] at ho126; rw [← Ny244.out] at ho126))
                replace HL248_0 := vb HL248_0 hb
                replace HR248_0 := cr HR248_0 hb
                replace HL253_0 := vb HL253_0 hb
                replace HR253_0 := cr HR253_0 hb
                replace HO_14 := Qa.mk (Kd.N_elder' (pN HO_14.out) (Kd.R_base ho126) hb)
                have HO246 := Qa.mk (Kd.R_lower (Kd.R_new' (Kd.R_new' (Kd.R_new' (Kd.R_new' (Kd.R_new' ho126 (Kd.R_lt (pR HO_9.out))) (Kd.R_lt (pR HO_16.out))) (Kd.R_lt (pR HO_17.out))) (Kd.R_lt (pR HO_19.out))) (Kd.R_lt (pR HO_23.out))) (Qr (pE HB)))
                replace HO_9 := re HO_9 ho126 hb
                replace HO_16 := re HO_16 ho126 hb
                replace HO_17 := re HO_17 ho126 hb
                replace HO_19 := re HO_19 ho126 hb
                replace HO_23 := re HO_23 ho126 hb
                replace BK109 := bb BK109 hb
                replace BK139 := bb BK139 hb
                replace HB := bs HB hb
                clear hb ho126
                obtain ⟨Ao127, co127, eo127⟩ := Kd.R_slice HO_9.out
                (first | subst eo127 | (injection eo127 with f1_ f2_ f3_; have f4_ := f1_.symm; have f5_ := f3_.symm; clear f1_ f2_ f3_; subst f4_; subst f5_))
                obtain ⟨Ao128, co128, eo128⟩ := Kd.R_slice HO246.out
                (first | subst eo128 | (injection eo128 with f1_ f2_ f3_; have f4_ := f1_.symm; have f5_ := f3_.symm; clear f1_ f2_ f3_; subst f4_; subst f5_))
                refine hK.out _ _ ⟨(Qb BK109.out 0).trans rfl, (Qb BK109.out 1).trans rfl, (Qb BK139.out 0).trans rfl, (Qb BK139.out 1).trans rfl, HS4_, HS5_⟩ (fun hHeld => ?_)
                clear hK K
                refine QY (a' := ?_) ?_ ?_
                rotate_left
                ·
                 show Act.put _ (some 159) _ = _
                 simp only [Act.put, List.setIfInBounds_toArray, List.set_cons_zero, List.set_cons_succ, QR, QU]
                 rfl
                refine on 21 (fun K hK => ?_)
                refine gO Tryz.func23 #[.slice Ao127 t148.length co127, .slice Ao128 y244.length co128] ?_
                with_reducible refine (Qm.calls kj28 _ _ t148 _ _ y244 true _ ?side1 ?side2 ?side3 ?side4 A113.out).mono ?_
                (case side1 => exact pC (Kd.R_reads' HO_9.out).2.2)
                (case side2 => exact (Kd.R_reads' HO_9.out).2.1)
                (case side3 => exact pC (Kd.R_reads' HO246.out).2.2)
                (case side4 => exact (Kd.R_reads' HO246.out).2.1)
                rintro e w' ⟨rfl, ⟨nd, rfl⟩⟩
                refine ⟨_, rfl, ?_⟩
                obtain ⟨Ao129, co129, eo129⟩ := Kd.N_slice HO_14.out
                (first | subst eo129 | (injection eo129 with f1_ f2_ f3_; have f4_ := f1_.symm; have f5_ := f3_.symm; clear f1_ f2_ f3_; subst f4_; subst f5_))
                refine hK.out _ _ ⟨(Qb BK109.out 0).trans rfl, (Qb BK109.out 1).trans rfl, (Qb BK139.out 0).trans rfl, (Qb BK139.out 1).trans rfl, hHeld.2.2.2.2.1, hHeld.2.2.2.2.2⟩ (fun hHeld => ?_)
                clear hK K
                refine QY (a' := ?_) ?_ ?_
                rotate_left
                ·
                 show Act.put _ (some 160) _ = _
                 simp only [Act.put, List.setIfInBounds_toArray, List.set_cons_zero, List.set_cons_succ, QR, QU]
                 rfl
                refine pu 22 161 ?_
                refine pu 23 162 ?_
                refine pu 24 163 ?_
                refine pu 25 164 ?_
                refine pu 26 165 ?_
                refine pu 27 166 ?_
                refine pu 28 167 ?_
                refine pu 29 168 ?_
                refine pu 30 169 ?_
                refine pu 31 170 ?_
                refine pu 32 171 ?_
                refine pu 33 172 ?_
                refine pu 34 173 ?_
                refine tk 35 174 hHeld ?_
                refine on 36 (fun K hK => ?_)
                refine Kd.R_lit_step (Kd.int .i64) _ 3 ?hg (N := 175) ?hd (xs := ([6, 0] : List Int)) (inner := [.int .i64 6, .int .i64 0]) (ok := fun _ => True) (okp := fun _ => True) ?hr ?hp (fun _ hk => hk) trivial (Below.refl _ _) (Nat.le_refl _) (by simp) ?_; (case hd => rfl); (case hg => rfl); (case hr => first | (go_simp; done) | (go_simp; rfl)); (case hp => exact (Reps.one (show Kd.M (Kd.int .i64) _ _ _ 6 [.int .i64 6] from rfl) (Reps.one (show Kd.M (Kd.int .i64) _ _ _ 0 [.int .i64 0] from rfl) (Reps.none _ _))))
                intro v250 w130 ho131 hb hg_ hnew_
                have HS4_ := (hb.cell (World.block_lt_of_cell? _ _ (hHeld.2.2.2.2.1))).trans (hHeld.2.2.2.2.1)
                have HS5_ := (hb.cell (World.block_lt_of_cell? _ _ (hHeld.2.2.2.2.2))).trans (hHeld.2.2.2.2.2)
                clear hg_ hnew_
                (first | rw [← Ny249.out] at ho131 | (simp only [Int.reduceToNat] at ho131; rw [← Ny249.out] at ho131))
                replace HL253_0 := vb HL253_0 hb
                replace HR253_0 := cr HR253_0 hb
                replace HO_14 := Qa.mk (Kd.N_elder' (pN HO_14.out) (Kd.R_base ho131) hb)
                replace HL248_0 := Qa.mk (Kd.V_elder' (pV HL248_0.out) (Kd.R_base ho131) hb)
                have HO251 := Qa.mk (Kd.R_lower (Kd.R_new' (Kd.R_new' (Kd.R_new' (Kd.R_new' (Kd.R_new' (Kd.R_new' ho131 (Kd.R_lt (pR HO_9.out))) (Kd.R_lt (pR HO_16.out))) (Kd.R_lt (pR HO_17.out))) (Kd.R_lt (pR HO_19.out))) (Kd.R_lt (pR HO_23.out))) (Kd.R_lt (pR HO246.out))) (Qr (pE HB)))
                replace HO_9 := re HO_9 ho131 hb
                replace HO_16 := re HO_16 ho131 hb
                replace HO_17 := re HO_17 ho131 hb
                replace HO_19 := re HO_19 ho131 hb
                replace HO_23 := re HO_23 ho131 hb
                replace HO246 := re HO246 ho131 hb
                replace BK109 := bb BK109 hb
                replace BK139 := bb BK139 hb
                replace HR248_0 := cr HR248_0 hb
                replace HB := bs HB hb
                clear hb ho131
                obtain ⟨Ao132, co132, eo132⟩ := Kd.R_slice HO251.out
                (first | subst eo132 | (injection eo132 with f1_ f2_ f3_; have f4_ := f1_.symm; have f5_ := f3_.symm; clear f1_ f2_ f3_; subst f4_; subst f5_))
                refine hK.out _ _ ⟨(Qb BK109.out 0).trans rfl, (Qb BK109.out 1).trans rfl, (Qb BK139.out 0).trans rfl, (Qb BK139.out 1).trans rfl, HS4_, HS5_⟩ (fun hHeld => ?_)
                clear hK K
                refine QY (a' := ?_) ?_ ?_
                rotate_left
                ·
                 show Act.put _ (some 175) _ = _
                 simp only [Act.put, List.setIfInBounds_toArray, List.set_cons_zero, List.set_cons_succ, QR, QU]
                 rfl
                refine on 37 (fun K hK => ?_)
                refine gO Tryz.func23 #[.slice A248_0 (Jo t189 0).length c248_0, .slice Ao132 y249.length co132] ?_
                with_reducible refine (Qm.calls kj28 _ _ (Jo t189 0) _ _ y249 true _ ?side1 ?side2 ?side3 ?side4 A118.out).mono ?_
                (case side1 => exact pC HR248_0.out)
                (case side2 => exact HC248_0.out)
                (case side3 => exact pC (Kd.R_reads' HO251.out).2.2)
                (case side4 => exact (Kd.R_reads' HO251.out).2.1)
                rintro e w' ⟨rfl, ⟨nd, rfl⟩⟩
                refine ⟨_, rfl, ?_⟩
                refine hK.out _ _ ⟨(Qb BK109.out 0).trans rfl, (Qb BK109.out 1).trans rfl, (Qb BK139.out 0).trans rfl, (Qb BK139.out 1).trans rfl, hHeld.2.2.2.2.1, hHeld.2.2.2.2.2⟩ (fun hHeld => ?_)
                clear hK K
                refine QY (a' := ?_) ?_ ?_
                rotate_left
                ·
                 show Act.put _ (some 176) _ = _
                 simp only [Act.put, List.setIfInBounds_toArray, List.set_cons_zero, List.set_cons_succ, QR, QU]
                 rfl
                refine pu 38 177 ?_
                refine pu 39 178 ?_
                refine pu 40 179 ?_
                refine pu 41 180 ?_
                refine pu 42 181 ?_
                refine tk 43 182 hHeld ?_
                refine on 44 (fun K hK => ?_)
                refine Kd.R_lit_step (Kd.int .i64) _ 3 ?hg (N := 183) ?hd (xs := ([0, 3] : List Int)) (inner := [.int .i64 0, .int .i64 3]) (ok := fun _ => True) (okp := fun _ => True) ?hr ?hp (fun _ hk => hk) trivial (Below.refl _ _) (Nat.le_refl _) (by simp) ?_; (case hd => rfl); (case hg => rfl); (case hr => first | (go_simp; done) | (go_simp; rfl)); (case hp => exact (Reps.one (show Kd.M (Kd.int .i64) _ _ _ 0 [.int .i64 0] from rfl) (Reps.one (show Kd.M (Kd.int .i64) _ _ _ 3 [.int .i64 3] from rfl) (Reps.none _ _))))
                intro v255 w133 ho134 hb hg_ hnew_
                have HS4_ := (hb.cell (World.block_lt_of_cell? _ _ (hHeld.2.2.2.2.1))).trans (hHeld.2.2.2.2.1)
                have HS5_ := (hb.cell (World.block_lt_of_cell? _ _ (hHeld.2.2.2.2.2))).trans (hHeld.2.2.2.2.2)
                clear hg_ hnew_
                (first | rw [← Ny254.out] at ho134 | (simp only [Int.reduceToNat] at ho134; rw [← Ny254.out] at ho134))
                replace HO_14 := Qa.mk (Kd.N_elder' (pN HO_14.out) (Kd.R_base ho134) hb)
                replace HL248_0 := Qa.mk (Kd.V_elder' (pV HL248_0.out) (Kd.R_base ho134) hb)
                replace HL253_0 := Qa.mk (Kd.V_elder' (pV HL253_0.out) (Kd.R_base ho134) hb)
                have HO256 := Qa.mk (Kd.R_lower (Kd.R_new' (Kd.R_new' (Kd.R_new' (Kd.R_new' (Kd.R_new' (Kd.R_new' (Kd.R_new' ho134 (Kd.R_lt (pR HO_9.out))) (Kd.R_lt (pR HO_16.out))) (Kd.R_lt (pR HO_17.out))) (Kd.R_lt (pR HO_19.out))) (Kd.R_lt (pR HO_23.out))) (Kd.R_lt (pR HO246.out))) (Kd.R_lt (pR HO251.out))) (Qr (pE HB)))
                replace HO_9 := re HO_9 ho134 hb
                replace HO_16 := re HO_16 ho134 hb
                replace HO_17 := re HO_17 ho134 hb
                replace HO_19 := re HO_19 ho134 hb
                replace HO_23 := re HO_23 ho134 hb
                replace HO246 := re HO246 ho134 hb
                replace HO251 := re HO251 ho134 hb
                replace BK109 := bb BK109 hb
                replace BK139 := bb BK139 hb
                replace HR248_0 := cr HR248_0 hb
                replace HR253_0 := cr HR253_0 hb
                replace HB := bs HB hb
                clear hb ho134
                obtain ⟨Ao135, co135, eo135⟩ := Kd.R_slice HO256.out
                (first | subst eo135 | (injection eo135 with f1_ f2_ f3_; have f4_ := f1_.symm; have f5_ := f3_.symm; clear f1_ f2_ f3_; subst f4_; subst f5_))
                refine hK.out _ _ ⟨(Qb BK109.out 0).trans rfl, (Qb BK109.out 1).trans rfl, (Qb BK139.out 0).trans rfl, (Qb BK139.out 1).trans rfl, HS4_, HS5_⟩ (fun hHeld => ?_)
                clear hK K
                refine QY (a' := ?_) ?_ ?_
                rotate_left
                ·
                 show Act.put _ (some 183) _ = _
                 simp only [Act.put, List.setIfInBounds_toArray, List.set_cons_zero, List.set_cons_succ, QR, QU]
                 rfl
                refine on 45 (fun K hK => ?_)
                refine gO Tryz.func23 #[.slice A253_0 (Jo t189 2).length c253_0, .slice Ao135 y254.length co135] ?_
                with_reducible refine (Qm.calls kj28 _ _ (Jo t189 2) _ _ y254 true _ ?side1 ?side2 ?side3 ?side4 A121.out).mono ?_
                (case side1 => exact pC HR253_0.out)
                (case side2 => exact HC253_0.out)
                (case side3 => exact pC (Kd.R_reads' HO256.out).2.2)
                (case side4 => exact (Kd.R_reads' HO256.out).2.1)
                rintro e w' ⟨rfl, ⟨nd, rfl⟩⟩
                refine ⟨_, rfl, ?_⟩
                refine hK.out _ _ ⟨(Qb BK109.out 0).trans rfl, (Qb BK109.out 1).trans rfl, (Qb BK139.out 0).trans rfl, (Qb BK139.out 1).trans rfl, hHeld.2.2.2.2.1, hHeld.2.2.2.2.2⟩ (fun hHeld => ?_)
                clear hK K
                refine QY (a' := ?_) ?_ ?_
                rotate_left
                ·
                 show Act.put _ (some 184) _ = _
                 simp only [Act.put, List.setIfInBounds_toArray, List.set_cons_zero, List.set_cons_succ, QR, QU]
                 rfl
                refine pu 46 185 ?_
                refine pu 47 186 ?_
                refine JD (JM HT_.out (by kernel_rfl)) ?_
                try go_wp2
                go_meet
                case rel => exact ⟨_, (!true), eS, H', ⟨by have := HJ28.out; first | omega | exact Nat.le_refl _⟩, ⟨by (with_reducible repeat (first | apply Kd.R_alloc | apply Kd.R_drewN | apply Kd.R_drew)); exact Kd.R_mono HO_16.out (fun _ hk => ⟨hk.1.1.1.2.1, ⟨hk.1.1.1.2.2.1, hk.1.1.1.2.2.2⟩⟩)⟩, ⟨by (with_reducible repeat (first | apply Kd.R_alloc | apply Kd.R_drewN | apply Kd.R_drew)); exact Kd.R_mono HO_17.out (fun _ hk => ⟨hk.1.1.1.2.1, ⟨hk.1.1.1.2.2.1, hk.1.1.1.2.2.2⟩⟩)⟩, ⟨by (with_reducible repeat (first | apply Kd.R_alloc | apply Kd.R_drewN | apply Kd.R_drew)); exact Kd.R_mono HO_19.out (fun _ hk => ⟨hk.1.1.1.2.1, ⟨hk.1.1.1.2.2.1, hk.1.1.1.2.2.2⟩⟩)⟩, ⟨by (with_reducible repeat (first | apply Kd.R_alloc | apply Kd.R_drewN | apply Kd.R_drew)); exact Kd.R_mono HO_23.out (fun _ hk => ⟨hk.1.1.1.2.1, ⟨hk.1.1.1.2.2.1, hk.1.1.1.2.2.2⟩⟩)⟩, ⟨pB BK109.out⟩, ⟨pB BK139.out⟩, ⟨pE HB⟩⟩
               ·
                rw [if_neg c120] at H
                exact absurd H (by simp)
              ·
               replace c119 := Bool.eq_false_iff.mpr c119
               subst c119
               rw [if_neg (show ¬ (false = true) by decide)] at H
               exact (Qd.dead_j1 _ _ _ _ _ _ _ H HRT.out).elim
             ·
              rw [if_neg c117] at H
              exact absurd H (by simp)
            ·
             rw [if_neg c116] at H
             have c116b0 : (t161 == 7) = false := beq_eq_false_iff_ne.mpr c116
             have c116b1 : (t161 != 7) = true := bne_iff_ne.mpr c116
             exact (Qd.dead_j1 _ _ _ _ _ _ _ H HRT.out).elim
           ·
            rw [if_neg c115] at H
            have c115b0 : (t151 == 22) = false := beq_eq_false_iff_ne.mpr c115
            have c115b1 : (t151 != 22) = true := bne_iff_ne.mpr c115
            exact (Qd.dead_j1 _ _ _ _ _ _ _ H HRT.out).elim
          ·
           replace c114 := Bool.eq_false_iff.mpr c114
           subst c114
           rw [if_neg (show ¬ (false = true) by decide)] at H
           exact (Qd.dead_j1 _ _ _ _ _ _ _ H HRT.out).elim
       ·
        replace c109 := Bool.eq_false_iff.mpr c109
        subst c109
        rw [if_neg (show ¬ (false = true) by decide)] at H
        exact (Qd.dead_j1 _ _ _ _ _ _ _ H HRT.out).elim
    case rest =>
     clear HC105
     try clear c1
     try clear c2
     try clear p2
     try clear c5
     try clear c10
     try clear c11
     try clear c12
     try clear c23
     try clear c24
     try clear c25
     try clear c58
     try clear c109
     try clear c114
     try clear c115
     try clear c115b0
     try clear c115b1
     try clear c116
     try clear c116b0
     try clear c116b1
     try clear c117
     try clear c119
     try clear c120
     obtain ⟨kq, x186_104, rfl, HA, HJ104, HO_16, HO_17, HO_19, HO_23, BK109, BK139, HB⟩ := hcut
     cases kq with
     | zero => exact absurd HA.out (by simp [Qd.j1])
     | succ kj104 =>
      have H := HA.out
      clear HA
      simp only [Qd.j1] at H
      by_cases c136 : x186_104 = true
      ·
       subst c136
       rw [if_pos rfl] at H
       exact absurd ((Option.some.inj H).trans HRT.out) (by simp)
      ·
       replace c136 := Bool.eq_false_iff.mpr c136
       subst c136
       rw [if_neg (show ¬ (false = true) by decide)] at H
       obtain ⟨y258, hy258⟩ : ∃ y_ : List Int, y_ = (([1] : List Int)) := ⟨_, rfl⟩
       replace H : Option.bind (Qm.f kj104 t200 y258) _ = some r := yy hy258 H
       have Ny258 := Qa.mk hy258
       clear hy258
       obtain ⟨t261, A137, H⟩ := bi H
       by_cases c138 : t261 = true
       ·
        subst c138
        rw [if_pos rfl] at H
        obtain ⟨y262, hy262⟩ : ∃ y_ : List Int, y_ = (([0, 1] : List Int)) := ⟨_, rfl⟩
        replace H : Option.bind (Qm.f kj104 t201 y262) _ = some r := yy hy262 H
        have Ny262 := Qa.mk hy262
        clear hy262
        obtain ⟨t265, A139, H⟩ := bi H
        by_cases c140 : t265 = true
        ·
         subst c140
         rw [if_pos rfl] at H
         obtain ⟨y266, hy266⟩ : ∃ y_ : List Int, y_ = (([6, 7, 8] : List Int)) := ⟨_, rfl⟩
         replace H : Option.bind (Qm.f kj104 t217 y266) _ = some r := yy hy266 H
         have Ny266 := Qa.mk hy266
         clear hy266
         obtain ⟨t269, A141, H⟩ := bi H
         by_cases c142 : t269 = true
         ·
          subst c142
          rw [if_pos rfl] at H
          by_cases c143 : t231 = 1
          ·
           rw [if_pos c143] at H
           have c143b0 : (t231 == 1) = true := beq_iff_eq.mpr c143
           have c143b1 : (t231 != 1) = false := bne_eq_false_iff_eq.mpr c143
           clear c143
           obtain ⟨y270, hy270⟩ : ∃ y_ : List Int, y_ = (([4, 4, 2] : List Int)) := ⟨_, rfl⟩
           replace H : Option.bind (Qm.f kj104 t236 y270) _ = some r := yy hy270 H
           have Ny270 := Qa.mk hy270
           clear hy270
           obtain ⟨t273, A144, H⟩ := bi H
           by_cases c145 : t273 = true
           ·
            subst c145
            rw [if_pos rfl] at H
            obtain ⟨t274, A146, H⟩ := bi H
            obtain rfl := Option.some.inj H
            go_wp2_with (first | ((with_reducible refine gd 188 ?_); (try (refine QG (by rfl) ?_; dsimp only)); refine Kd.R_lit (Kd.int .i64) _ 3 ?hg (N := 188) ?hd (xs := ([1] : List Int)) (inner := [.int .i64 1]) (ok := fun _ => True) (okp := fun _ => True) ?hr ?hp (fun _ hk => hk) trivial (Below.refl _ _) (Nat.le_refl _) (by simp) ?_; (case hd => rfl); (case hg => rfl); (case hr => first | (go_simp; done) | (go_simp; rfl)); (case hp => exact (Reps.one (show Kd.M (Kd.int .i64) _ _ _ 1 [.int .i64 1] from rfl) (Reps.none _ _))); intro v259 w147 ho148 hb hg_ hnew_; clear hg_ hnew_; (first | rw [← Ny258.out] at ho148 | (simp only [Int.reduceToNat] at ho148; rw [← Ny258.out] at ho148)); have HO260 := Qa.mk (Kd.R_lower (Kd.R_new' (Kd.R_new' (Kd.R_new' (Kd.R_new' ho148 (Kd.R_lt (pR HO_16.out))) (Kd.R_lt (pR HO_17.out))) (Kd.R_lt (pR HO_19.out))) (Kd.R_lt (pR HO_23.out))) (Qr (pE HB))); replace HO_16 := re HO_16 ho148 hb; replace HO_17 := re HO_17 ho148 hb; replace HO_19 := re HO_19 ho148 hb; replace HO_23 := re HO_23 ho148 hb; replace BK109 := bb BK109 hb; replace BK139 := bb BK139 hb; replace HB := bs HB hb; clear hb ho148; obtain ⟨Ao149, co149, eo149⟩ := Kd.R_slice HO_16.out; subst eo149; obtain ⟨Ao150, co150, eo150⟩ := Kd.R_slice HO260.out; subst eo150) | ((with_reducible refine gc 23 rfl ?_); refine gL 189 Tryz.func23 #[.slice Ao149 t200.length co149, .slice Ao150 y258.length co150] ?_; (with_reducible refine (Qm.calls kj104 _ _ t200 _ _ y258 true _ ?side1 ?side2 ?side3 ?side4 A137.out).mono ?_); (case side1 => exact pC (Kd.R_reads' HO_16.out).2.2); (case side2 => exact (Kd.R_reads' HO_16.out).2.1); (case side3 => exact pC (Kd.R_reads' HO260.out).2.2); (case side4 => exact (Kd.R_reads' HO260.out).2.1); rintro e w' ⟨rfl, ⟨nd, rfl⟩⟩; refine ⟨_, rfl, ?_⟩) | ((with_reducible refine gd 192 ?_); (try (refine QG (by rfl) ?_; dsimp only)); refine Kd.R_lit (Kd.int .i64) _ 3 ?hg (N := 192) ?hd (xs := ([0, 1] : List Int)) (inner := [.int .i64 0, .int .i64 1]) (ok := fun _ => True) (okp := fun _ => True) ?hr ?hp (fun _ hk => hk) trivial (Below.refl _ _) (Nat.le_refl _) (by simp) ?_; (case hd => rfl); (case hg => rfl); (case hr => first | (go_simp; done) | (go_simp; rfl)); (case hp => exact (Reps.one (show Kd.M (Kd.int .i64) _ _ _ 0 [.int .i64 0] from rfl) (Reps.one (show Kd.M (Kd.int .i64) _ _ _ 1 [.int .i64 1] from rfl) (Reps.none _ _)))); intro v263 w151 ho152 hb hg_ hnew_; clear hg_ hnew_; (first | rw [← Ny262.out] at ho152 | (simp only [Int.reduceToNat] at ho152; rw [← Ny262.out] at ho152)); have HO264 := Qa.mk (Kd.R_lower (Kd.R_new' (Kd.R_new' (Kd.R_new' (Kd.R_new' (Kd.R_new' ho152 (Kd.R_lt (pR HO_16.out))) (Kd.R_lt (pR HO_17.out))) (Kd.R_lt (pR HO_19.out))) (Kd.R_lt (pR HO_23.out))) (Kd.R_lt (pR HO260.out))) (Qr (pE HB))); replace HO_16 := re HO_16 ho152 hb; replace HO_17 := re HO_17 ho152 hb; replace HO_19 := re HO_19 ho152 hb; replace HO_23 := re HO_23 ho152 hb; replace HO260 := re HO260 ho152 hb; replace BK109 := bb BK109 hb; replace BK139 := bb BK139 hb; replace HB := bs HB hb; clear hb ho152; obtain ⟨Ao153, co153, eo153⟩ := Kd.R_slice HO_17.out; subst eo153; obtain ⟨Ao154, co154, eo154⟩ := Kd.R_slice HO264.out; subst eo154) | (go_at_call 23; (with_reducible refine (Qm.calls kj104 _ _ t201 _ _ y262 true _ ?side1 ?side2 ?side3 ?side4 A139.out).mono ?_); (case side1 => exact pC (Kd.R_reads' HO_17.out).2.2); (case side2 => exact (Kd.R_reads' HO_17.out).2.1); (case side3 => exact pC (Kd.R_reads' HO264.out).2.2); (case side4 => exact (Kd.R_reads' HO264.out).2.1); rintro e w' ⟨rfl, ⟨nd, rfl⟩⟩) | ((with_reducible refine gd 197 ?_); (try (refine QG (by rfl) ?_; dsimp only)); refine Kd.R_lit (Kd.int .i64) _ 3 ?hg (N := 197) ?hd (xs := ([6, 7, 8] : List Int)) (inner := [.int .i64 6, .int .i64 7, .int .i64 8]) (ok := fun _ => True) (okp := fun _ => True) ?hr ?hp (fun _ hk => hk) trivial (Below.refl _ _) (Nat.le_refl _) (by simp) ?_; (case hd => rfl); (case hg => rfl); (case hr => first | (go_simp; done) | (go_simp; rfl)); (case hp => exact (Reps.one (show Kd.M (Kd.int .i64) _ _ _ 6 [.int .i64 6] from rfl) (Reps.one (show Kd.M (Kd.int .i64) _ _ _ 7 [.int .i64 7] from rfl) (Reps.one (show Kd.M (Kd.int .i64) _ _ _ 8 [.int .i64 8] from rfl) (Reps.none _ _))))); intro v267 w155 ho156 hb hg_ hnew_; clear hg_ hnew_; (first | rw [← Ny266.out] at ho156 | (simp only [Int.reduceToNat] at ho156; rw [← Ny266.out] at ho156)); have HO268 := Qa.mk (Kd.R_lower (Kd.R_new' (Kd.R_new' (Kd.R_new' (Kd.R_new' (Kd.R_new' (Kd.R_new' ho156 (Kd.R_lt (pR HO_16.out))) (Kd.R_lt (pR HO_17.out))) (Kd.R_lt (pR HO_19.out))) (Kd.R_lt (pR HO_23.out))) (Kd.R_lt (pR HO260.out))) (Kd.R_lt (pR HO264.out))) (Qr (pE HB))); replace HO_16 := re HO_16 ho156 hb; replace HO_17 := re HO_17 ho156 hb; replace HO_19 := re HO_19 ho156 hb; replace HO_23 := re HO_23 ho156 hb; replace HO260 := re HO260 ho156 hb; replace HO264 := re HO264 ho156 hb; replace BK109 := bb BK109 hb; replace BK139 := bb BK139 hb; replace HB := bs HB hb; clear hb ho156; obtain ⟨Ao157, co157, eo157⟩ := Kd.R_slice HO_19.out; subst eo157; obtain ⟨Ao158, co158, eo158⟩ := Kd.R_slice HO268.out; subst eo158) | (go_at_call 23; (with_reducible refine (Qm.calls kj104 _ _ t217 _ _ y266 true _ ?side1 ?side2 ?side3 ?side4 A141.out).mono ?_); (case side1 => exact pC (Kd.R_reads' HO_19.out).2.2); (case side2 => exact (Kd.R_reads' HO_19.out).2.1); (case side3 => exact pC (Kd.R_reads' HO268.out).2.2); (case side4 => exact (Kd.R_reads' HO268.out).2.1); rintro e w' ⟨rfl, ⟨nd, rfl⟩⟩) | ((with_reducible refine gd 206 ?_); (try (refine QG (by rfl) ?_; dsimp only)); refine Kd.R_lit (Kd.int .i64) _ 3 ?hg (N := 206) ?hd (xs := ([4, 4, 2] : List Int)) (inner := [.int .i64 4, .int .i64 4, .int .i64 2]) (ok := fun _ => True) (okp := fun _ => True) ?hr ?hp (fun _ hk => hk) trivial (Below.refl _ _) (Nat.le_refl _) (by simp) ?_; (case hd => rfl); (case hg => rfl); (case hr => first | (go_simp; done) | (go_simp; rfl)); (case hp => exact (Reps.one (show Kd.M (Kd.int .i64) _ _ _ 4 [.int .i64 4] from rfl) (Reps.one (show Kd.M (Kd.int .i64) _ _ _ 4 [.int .i64 4] from rfl) (Reps.one (show Kd.M (Kd.int .i64) _ _ _ 2 [.int .i64 2] from rfl) (Reps.none _ _))))); intro v271 w159 ho160 hb hg_ hnew_; clear hg_ hnew_; (first | rw [← Ny270.out] at ho160 | (simp only [Int.reduceToNat] at ho160; rw [← Ny270.out] at ho160)); have HO272 := Qa.mk (Kd.R_lower (Kd.R_new' (Kd.R_new' (Kd.R_new' (Kd.R_new' (Kd.R_new' (Kd.R_new' (Kd.R_new' ho160 (Kd.R_lt (pR HO_16.out))) (Kd.R_lt (pR HO_17.out))) (Kd.R_lt (pR HO_19.out))) (Kd.R_lt (pR HO_23.out))) (Kd.R_lt (pR HO260.out))) (Kd.R_lt (pR HO264.out))) (Kd.R_lt (pR HO268.out))) (Qr (pE HB))); replace HO_16 := re HO_16 ho160 hb; replace HO_17 := re HO_17 ho160 hb; replace HO_19 := re HO_19 ho160 hb; replace HO_23 := re HO_23 ho160 hb; replace HO260 := re HO260 ho160 hb; replace HO264 := re HO264 ho160 hb; replace HO268 := re HO268 ho160 hb; replace BK109 := bb BK109 hb; replace BK139 := bb BK139 hb; replace HB := bs HB hb; clear hb ho160; obtain ⟨Ao161, co161, eo161⟩ := Kd.R_slice HO_23.out; subst eo161; obtain ⟨Ao162, co162, eo162⟩ := Kd.R_slice HO272.out; subst eo162) | (go_at_call 23; (with_reducible refine (Qm.calls kj104 _ _ t236 _ _ y270 true _ ?side1 ?side2 ?side3 ?side4 A144.out).mono ?_); (case side1 => exact pC (Kd.R_reads' HO_23.out).2.2); (case side2 => exact (Kd.R_reads' HO_23.out).2.1); (case side3 => exact pC (Kd.R_reads' HO272.out).2.2); (case side4 => exact (Kd.R_reads' HO272.out).2.1); rintro e w' ⟨rfl, ⟨nd, rfl⟩⟩) | (go_at_call 18; (refine (Jf.calls _ _ ([] : List S100) t274 _ ?side1 ?side2 A146.out).mono ?_); (case side1 => exact Kd.C_nil _ _); (case side2 => exact Nat.le_refl _); rintro e w163 ⟨rfl, hb⟩; replace HO_16 := rb HO_16 hb; replace HO_17 := rb HO_17 hb; replace HO_19 := rb HO_19 hb; replace HO_23 := rb HO_23 hb; replace HO260 := rb HO260 hb; replace HO264 := rb HO264 hb; replace HO268 := rb HO268 hb; replace HO272 := rb HO272 hb; replace BK109 := bb BK109 hb; replace BK139 := bb BK139 hb; replace HB := bs HB hb; (try clear hb); (try clear hb2); (try clear hk); (try clear hi)))
            go_ret
            exact ⟨eT, pE HB⟩
           ·
            replace c145 := Bool.eq_false_iff.mpr c145
            subst c145
            rw [if_neg (show ¬ (false = true) by decide)] at H
            exact absurd ((Option.some.inj H).trans HRT.out) (by simp)
          ·
           rw [if_neg c143] at H
           have c143b0 : (t231 == 1) = false := beq_eq_false_iff_ne.mpr c143
           have c143b1 : (t231 != 1) = true := bne_iff_ne.mpr c143
           exact absurd ((Option.some.inj H).trans HRT.out) (by simp)
         ·
          replace c142 := Bool.eq_false_iff.mpr c142
          subst c142
          rw [if_neg (show ¬ (false = true) by decide)] at H
          exact absurd ((Option.some.inj H).trans HRT.out) (by simp)
        ·
         replace c140 := Bool.eq_false_iff.mpr c140
         subst c140
         rw [if_neg (show ¬ (false = true) by decide)] at H
         exact absurd ((Option.some.inj H).trans HRT.out) (by simp)
       ·
        replace c138 := Bool.eq_false_iff.mpr c138
        subst c138
        rw [if_neg (show ¬ (false = true) by decide)] at H
        exact absurd ((Option.some.inj H).trans HRT.out) (by simp)
end Go.Proofs.YtjaapkkpmegkfaaGreat.P
