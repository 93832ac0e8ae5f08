/- Part 5 of what the law's proof needs beyond its base: words, walks of functions and plain facts. -/
import Derived.Below
import Derived.Deep.Draws
import Derived.Deep.AppendLies
import Derived.Maps.AppendAt
import Derived.OwnWalk
import Derived.Laws.BytesArg
import Derived.Laws.MakeOwn
import Derived.Laws.OwnMore
import Derived.Deep.OwnRows
import Derived.Tactics
import Derived.Lib.ConvBytes
import Derived.Laws.Slices
import Derived.WalkKit
import Derived.KernelRfl
import Derived.RowKit3
import Derived.Deep.LoopGhost
import Derived.Deep.QuietTactic
import Derived.BigQuiet
import Derived.WideLaws
import Derived.Deep.DeepCutAuto
import Derived.Deep.CutBlock
import Derived.Deep.RegionHeld3
import Derived.Laws.Rows
import Derived.Lib.AppendStr
import Derived.ArgAppend
import Derived.Laws.IdiomCopy
import Derived.RowKit
import Derived.Deep.Slices
import Derived.OpenShut
import Derived.ChangeArms
import Derived.Test.YtjaapkkpmegkfaaGreatM01
import Derived.Test.YtjaapkkpmegkfaaGreatM02
import Derived.Test.YtjaapkkpmegkfaaGreatM03
import Derived.Test.YtjaapkkpmegkfaaGreatM04
import Derived.Test.YtjaapkkpmegkfaaGreatM05
import Derived.Test.YtjaapkkpmegkfaaGreatM06
import Derived.Test.YtjaapkkpmegkfaaGreatM07
import Derived.Test.YtjaapkkpmegkfaaGreatM08
import Derived.Test.YtjaapkkpmegkfaaGreatM09
import Derived.Test.YtjaapkkpmegkfaaGreatM10
import Derived.Test.YtjaapkkpmegkfaaGreatM11
import Derived.Test.YtjaapkkpmegkfaaGreatM12
import Derived.Test.YtjaapkkpmegkfaaGreatM13
import Derived.Test.YtjaapkkpmegkfaaGreatB01
import Derived.Test.YtjaapkkpmegkfaaGreatB02
import Derived.Test.YtjaapkkpmegkfaaGreatB03
import Derived.Test.YtjaapkkpmegkfaaGreatB04
set_option linter.unusedVariables false
set_option linter.unusedSimpArgs false
namespace Go.Proofs.YtjaapkkpmegkfaaGreat.P
open Go.RowKit Go.Proofs.YtjaapkkpmegkfaaGreatW.PrintWords Go.Proofs.YtjaapkkpmegkfaaGreatW.PrintLast Go.Proofs.YtjaapkkpmegkfaaGreatW.PrintMore
attribute [local go_sem] JG JH JY JX Jv Ju JJ JK
mutual
def Qas.j0 : Nat → List S100 → Bool → Option Bool
 | 0, _, _ => none
 | k + 1, x0, x11 => if x11 = true then (some true) else (Qas.l0 k x0 0)
def Qas.l0 : Nat → List S100 → Int → Option Bool
 | 0, _, _ => none
 | k + 1, x0, x3 => if x3 < (x0.length : Int) then (if 0 ≤ x3 then (if ((Qf x0 x3).f3) > 4 then (some false) else (Qas.l0 k x0 (wrap64 (x3 + 1)))) else (none)) else (some true)
end
def Qas.f (k : Nat) (l0 : List S100) : Option Bool := if (l0.length : Int) < 3 then (Qas.j0 k l0 true) else ((Qat.f k l0).bind fun t101 => (Qas.j0 k l0 (t101 != 0)))
set_option maxHeartbeats 8000000 in
set_option maxRecDepth 100000 in
theorem Qas.calls (k : Nat) (A0 : Option Addr) (c0 : Nat) (l0 : List S100) (r : Bool) (w : World) (hr0 : Kd.C k100 w A0 l0.length l0) (hc0 : l0.length ≤ c0) (h : Qas.f k l0 = some r) :
  Calls Tryz.prog 31 #[.slice A0 l0.length c0] w fun e w' => e = .returned (.bool r) ∧ Below w.heap.size w w' := by
 have HR0 := Qa.mk hr0
 have HC0 := Qa.mk hc0
 clear hr0 hc0
 have HB := Qa.mk (Below.refl w.heap.size w)
 have H : (if (l0.length : Int) < 3 then (Qas.j0 k l0 true) else ((Qat.f k l0).bind fun t101 => (Qas.j0 k l0 (t101 != 0)))) = some r := h
 clear h
 have HC2 := Qa.mk H
 clear H
 go_enter Tryz.func31, Tryz.ntmps31
 go_upto_region 1 with (fail)
 go_cut [11] (fun v11 wc => ∃ (kq : Nat) (x11_1 : Bool), v11 = .bool x11_1 ∧ Qa (Qas.j0 kq l0 x11_1 = some r) ∧ Qa (kq ≤ k) ∧ Qa (Below w.heap.size w wc))
 case first =>
  have H := HC2.out
  clear HC2
  by_cases c3 : (l0.length : Int) < 3
  ·rw [if_pos c3] at H
   have c3b0 : decide ((l0.length : Int) < 3) = true := decide_eq_true c3
   have c3b1 : decide (l0.length < 3) = true := decide_eq_true (by omega)
   clear c3
   (first | rw [c3b0] | (simp only [QR, QU]; rw [c3b0]) | skip)
   have H' := Qa.mk H
   clear H
   go_wp2
   go_meet
   case rel => exact ⟨_, (true), eS, H', ⟨by first | omega | exact Nat.le_refl _⟩, ⟨pE HB⟩⟩
  ·rw [if_neg c3] at H
   have c3b0 : decide ((l0.length : Int) < 3) = false := decide_eq_false c3
   have c3b1 : decide (l0.length < 3) = false := decide_eq_false (by omega)
   clear c3
   (first | rw [c3b0] | (simp only [QR, QU]; rw [c3b0]) | skip)
   obtain ⟨t101, A4, H⟩ := bi H
   have H' := Qa.mk H
   clear H
   go_wp2_with (first | (go_at_call 24; (with_reducible refine (Qat.calls k _ _ l0 t101 _ ?side1 ?side2 A4.out).mono ?_); (case side1 => exact pC (Kd.C_below HR0.out HB.out)); (case side2 => exact HC0.out); rintro e w5 ⟨rfl, hb⟩; replace HB := bs HB hb; (try clear hb); (try clear hb2); (try clear hk); (try clear hi)))
   go_meet
   case rel => exact ⟨_, ((t101 != 0)), eS, H', ⟨by first | omega | exact Nat.le_refl _⟩, ⟨pE HB⟩⟩
 case rest =>
  clear HC2
  try clear p2
  try clear c3
  try clear c3b0
  try clear c3b1
  obtain ⟨kq, x11_1, rfl, HA, HJ1, HB⟩ := hcut
  cases kq with
  | zero => exact absurd HA.out (by simp [Qas.j0])
  | succ kj1 =>
   have H := HA.out
   clear HA
   simp only [Qas.j0] at H
   by_cases c6 : x11_1 = true
   ·subst c6
    rw [if_pos rfl] at H
    obtain rfl := Option.some.inj H
    go_wp2
    go_ret
    exact ⟨eT, pE HB⟩
   ·replace c6 := Bool.eq_false_iff.mpr c6
    subst c6
    rw [if_neg (show ¬ (false = true) by decide)] at H
    have H' := Qa.mk H
    clear H
    go_wp2
    go_loopg [3] kj1 (fun kq v3 w' => ∃ (x3_2 : Int), v3 = .int .i64 x3_2 ∧ Qa (Qas.l0 kq l0 x3_2 = some r) ∧ Qa (kq ≤ kj1) ∧ Qa (Below w.heap.size w w'))
    case atStart => exact ⟨(0), eS, H', ⟨Nat.le_refl _⟩, ⟨pE HB⟩⟩
    case round =>
     clear H'
     try clear p2
     try clear c3
     try clear c3b0
     try clear c3b1
     try clear c6
     try clear p2
     obtain ⟨x3_2, rfl, HA, HK2, HB⟩ := hrel
     cases gk with
     | zero => exact absurd HA.out (by simp [Qas.l0])
     | succ k2 =>
      have H := HA.out
      clear HA
      simp only [Qas.l0] at H
      by_cases c7 : x3_2 < (l0.length : Int)
      ·rw [if_pos c7] at H
       have c7b0 : decide (x3_2 < (l0.length : Int)) = true := decide_eq_true c7
       clear c7
       by_cases c8 : 0 ≤ x3_2
       ·rw [if_pos c8] at H
        have c8b0 : decide (0 ≤ x3_2) = true := decide_eq_true c8
        clear c8
        by_cases c9 : ((Qf l0 x3_2).f3) > 4
        ·rw [if_pos c9] at H
         have c9b0 : decide (4 < ((Qf l0 x3_2).f3)) = true := decide_eq_true c9
         clear c9
         obtain rfl := Option.some.inj H
         have p102 : 0 ≤ (x3_2 : Int) := dT
         have q102 : x3_2 < (l0.length : Int) := dT
         obtain ⟨ad102, e102, hx102_0, hx102_1, hx102_2, hx102_3, hx102_4⟩ := Zf HR0.out x3_2 p102 q102
         cases e102
         replace hx102_0 := cut_ HB hx102_0
         replace hx102_1 := cut_ HB hx102_1
         replace hx102_2 := cut_ HB hx102_2
         replace hx102_3 := cut_ HB hx102_3
         replace hx102_4 := cut_ HB hx102_4
         replace p102 := eq_true p102
         replace q102 := eq_true q102
         go_wp2
         go_ret
         exact ⟨eT, pE HB⟩
        ·rw [if_neg c9] at H
         have c9b0 : decide (4 < ((Qf l0 x3_2).f3)) = false := decide_eq_false c9
         clear c9
         have H' := Qa.mk H
         clear H
         have p102 : 0 ≤ (x3_2 : Int) := dT
         have q102 : x3_2 < (l0.length : Int) := dT
         obtain ⟨ad102, e102, hx102_0, hx102_1, hx102_2, hx102_3, hx102_4⟩ := Zf HR0.out x3_2 p102 q102
         cases e102
         replace hx102_0 := cut_ HB hx102_0
         replace hx102_1 := cut_ HB hx102_1
         replace hx102_2 := cut_ HB hx102_2
         replace hx102_3 := cut_ HB hx102_3
         replace hx102_4 := cut_ HB hx102_4
         replace p102 := eq_true p102
         replace q102 := eq_true q102
         go_wp2
         go_roundg k2
         case measure => have := HJ1.out; have := HK2.out; omega
         case rel => exact ⟨(wrap64 (x3_2 + 1)), eS, H', ⟨by have := HJ1.out; have := HK2.out; omega⟩, ⟨pE HB⟩⟩
       ·rw [if_neg c8] at H
        exact absurd H (by simp)
      ·rw [if_neg c7] at H
       have c7b0 : decide (x3_2 < (l0.length : Int)) = false := decide_eq_false c7
       clear c7
       obtain rfl := Option.some.inj H
       go_wp2
       go_ret
       exact ⟨eT, pE HB⟩
end Go.Proofs.YtjaapkkpmegkfaaGreat.P
namespace Go.Proofs.YtjaapkkpmegkfaaGreat.P
open Go.RowKit Go.Proofs.YtjaapkkpmegkfaaGreatW.PrintWords Go.Proofs.YtjaapkkpmegkfaaGreatW.PrintLast Go.Proofs.YtjaapkkpmegkfaaGreatW.PrintMore
set_option maxRecDepth 100000 in
theorem Qd.eval : Qd.f 60 = some true := by kernel_rfl
theorem Qd.at {k : Nat} (hk : 60 ≤ k) : Qd.f k = some true := Qbl (g := Qd.f) Qd.mono hk Qd.eval
theorem Qd.yes {k : Nat} {r : Bool} (h : Qd.f k = some r) : r = true := by
 have h1 := Qbl (g := Qd.f) Qd.mono (Nat.le_max_left k 60) h
 have h2 := Qbl (g := Qd.f) Qd.mono (Nat.le_max_right k 60) Qd.eval
 exact Option.some.inj (h1.symm.trans h2)
theorem Qd.calls (k : Nat) (r : Bool) (w : World) (h : Qd.f k = some r) : Calls Tryz.prog 15 #[] w fun e w' => e = .returned (.bool r) ∧ Below w.heap.size w w' :=
 Qd.calls_true k r w (Qd.yes h) h
end Go.Proofs.YtjaapkkpmegkfaaGreat.P
namespace Go.Proofs.YtjaapkkpmegkfaaGreat.P
open Go.RowKit Go.Proofs.YtjaapkkpmegkfaaGreatW.PrintWords Go.Proofs.YtjaapkkpmegkfaaGreatW.PrintLast Go.Proofs.YtjaapkkpmegkfaaGreatW.PrintMore
attribute [local go_sem] JG JH JY JX Jv Ju JJ JK
mutual
def Qap.j0 : Nat → List S100 → Bool → Int → Int → Int → Int → Int → Option Bool
 | 0, _, _, _, _, _, _, _ => none
 | k + 1, x0, x19, x102000, x102001, x102002, x102003, x102004 => if x19 = true then ((Qd.f k).bind fun t103 => (some t103)) else ((Qa4.f x0).bind fun t104 => ((Jb.f k t104 x102000 x102001 x102002 x102003 x102004).bind fun bt107 => ((Qax.f k t104 x0).bind fun t112 => (if t112 = true then ((Qa7.f k x0 x102000 x102001 x102002 x102003 x102004).bind fun t113 => (if t113 = 0 then ((Qao.f k x0 x102000 x102001 x102002 x102003 x102004).bind fun bt117 => (if bt117.2 = true then (Qap.j1 k x0 bt107.1 bt107.2.1 bt107.2.2 t113 bt117.1) else (Qap.j1 k x0 bt107.1 bt107.2.1 bt107.2.2 9 bt117.1))) else (Qap.j1 k x0 bt107.1 bt107.2.1 bt107.2.2 t113 (([] : List Int))))) else (some false)))))
def Qap.j1 : Nat → List S100 → List Int → Int → Int → Int → List Int → Option Bool
 | 0, _, _, _, _, _, _ => none
 | k + 1, x0, x6, x7, x8, x9, x10 => if x9 = 0 then (if x8 = 0 then ((Qm.f k x6 x10).bind fun t121 => (if t121 = true then ((Qau.f k x0 x10).bind fun t122 => (if x7 = t122 then ((Qd.f k).bind fun t123 => (some t123)) else (some false))) else (some false))) else (some false)) else (if x8 = x9 then (if (x6.length : Int) = 0 then (if x7 = 0 then ((Qd.f k).bind fun t124 => (some t124)) else (some false)) else (some false)) else (some false))
end
def Qap.f (k : Nat) (l0 : List S100) (a1_0 a1_1 a1_2 a1_3 a1_4 : Int) : Option Bool := if (l0.length : Int) > 20 then (Qap.j0 k l0 true a1_0 a1_1 a1_2 a1_3 a1_4) else ((Qas.f k l0).bind fun t102 => (Qap.j0 k l0 (!t102) a1_0 a1_1 a1_2 a1_3 a1_4))
set_option maxHeartbeats 8000000 in
set_option maxRecDepth 100000 in
theorem Qap.calls_true (k : Nat) (A0 : Option Addr) (c0 : Nat) (l0 : List S100) (a1_0 a1_1 a1_2 a1_3 a1_4 : Int) (r : Bool) (w : World) (hr0 : Kd.C k100 w A0 l0.length l0) (hc0 : l0.length ≤ c0) (hrt : r = true) (h : Qap.f k l0 a1_0 a1_1 a1_2 a1_3 a1_4 = some r) :
  Calls Tryz.prog 4 #[.slice A0 l0.length c0, .agg #[.int .i64 a1_0, .int .i64 a1_1, .int .i64 a1_2, .int .i64 a1_3, .int .i64 a1_4]] w fun e w' => e = .returned (.bool r) ∧ Below w.heap.size w w' := by
 have hu26 := Tryz.underlying26
 have HRT := Qa.mk hrt
 clear hrt
 have HR0 := Qa.mk hr0
 have HC0 := Qa.mk hc0
 clear hr0 hc0
 have HB := Qa.mk (Below.refl w.heap.size w)
 have H : (if (l0.length : Int) > 20 then (Qap.j0 k l0 true a1_0 a1_1 a1_2 a1_3 a1_4) else ((Qas.f k l0).bind fun t102 => (Qap.j0 k l0 (!t102) a1_0 a1_1 a1_2 a1_3 a1_4))) = some r := h
 clear h
 have HC3 := Qa.mk H
 clear H
 go_enter Tryz.func4, Tryz.ntmps4
 go_upto_region 1 with (first | ((with_reducible refine gd 3 ?_); (try (refine QG (by rfl) ?_; dsimp only)); refine bx 3 #[.int .i64 a1_0, .int .i64 a1_1, .int .i64 a1_2, .int .i64 a1_3, .int .i64 a1_4] 26 ?_; intro gb101 hg w4 BK101 hb; have GW101 := gs HB hg; replace HB := bs HB hb; clear hb hg))
 (try simp only [Act.put, List.setIfInBounds_toArray, List.set_cons_zero, List.set_cons_succ])
 go_cut [19] (fun v19 wc => ∃ (kq : Nat) (x19_2 : Bool), v19 = .bool x19_2 ∧ Qa (Qap.j0 kq l0 x19_2 a1_0 a1_1 a1_2 a1_3 a1_4 = some r) ∧ Qa (kq ≤ k) ∧ Qa (wc.heap[gb101]? = some (.cells #[.int .i64 a1_0, .int .i64 a1_1, .int .i64 a1_2, .int .i64 a1_3, .int .i64 a1_4] 26 (0, 0))) ∧ Qa (Below w.heap.size w wc))
 case first =>
  have H := HC3.out
  clear HC3
  by_cases c5 : (l0.length : Int) > 20
  ·rw [if_pos c5] at H
   have c5b0 : decide (20 < (l0.length : Int)) = true := decide_eq_true c5
   have c5b1 : decide (20 < l0.length) = true := decide_eq_true (by omega)
   clear c5
   (first | rw [c5b0] | (simp only [QR, QU]; rw [c5b0]) | skip)
   have H' := Qa.mk H
   clear H
   go_wp2
   go_meet
   case rel => exact ⟨_, (true), eS, H', ⟨by first | omega | exact Nat.le_refl _⟩, ⟨pB BK101.out⟩, ⟨pE HB⟩⟩
  ·rw [if_neg c5] at H
   have c5b0 : decide (20 < (l0.length : Int)) = false := decide_eq_false c5
   have c5b1 : decide (20 < l0.length) = false := decide_eq_false (by omega)
   clear c5
   (first | rw [c5b0] | (simp only [QR, QU]; rw [c5b0]) | skip)
   obtain ⟨t102, A6, H⟩ := bi H
   have H' := Qa.mk H
   clear H
   go_wp2_with (first | (go_at_call 31; (with_reducible refine (Qas.calls k _ _ l0 t102 _ ?side1 ?side2 A6.out).mono ?_); (case side1 => exact pC (Kd.C_below HR0.out HB.out)); (case side2 => exact HC0.out); rintro e w7 ⟨rfl, hb⟩; replace BK101 := bb BK101 hb; replace HB := bs HB hb; (try clear hb); (try clear hb2); (try clear hk); (try clear hi)))
   go_meet
   case rel => exact ⟨_, (!t102), eS, H', ⟨by first | omega | exact Nat.le_refl _⟩, ⟨pB BK101.out⟩, ⟨pE HB⟩⟩
 case rest =>
  clear HC3
  try clear p2
  try clear c4
  try clear c5
  try clear c5b0
  try clear c5b1
  obtain ⟨kq, x19_2, rfl, HA, HJ2, BK101, HB⟩ := hcut
  cases kq with
  | zero => exact absurd HA.out (by simp [Qap.j0])
  | succ kj2 =>
   have H := HA.out
   clear HA
   simp only [Qap.j0] at H
   by_cases c8 : x19_2 = true
   ·subst c8
    rw [if_pos rfl] at H
    obtain ⟨t103, A9, H⟩ := bi H
    obtain rfl := Option.some.inj H
    go_wp2_with (first | ((with_reducible refine gc 15 rfl ?_); refine gL 20 Tryz.func15 #[] ?_; (with_reducible refine (Qd.calls kj2  t103 _ A9.out).mono ?_); rintro e w10 ⟨rfl, hb⟩; refine ⟨_, rfl, ?_⟩; replace BK101 := bb BK101 hb; replace HB := bs HB hb; clear hb))
    go_ret
    exact ⟨eT, pE HB⟩
   ·replace c8 := Bool.eq_false_iff.mpr c8
    subst c8
    rw [if_neg (show ¬ (false = true) by decide)] at H
    obtain ⟨t104, A11, H⟩ := bi H
    obtain ⟨⟨t107, t110, t111⟩, A12, H⟩ := bi H
    obtain ⟨t112, A13, H⟩ := bi H
    by_cases c14 : t112 = true
    ·subst c14
     rw [if_pos rfl] at H
     obtain ⟨t113, A15, H⟩ := bi H
     obtain ⟨y114, hy114⟩ : ∃ y_ : List Int, y_ = (([] : List Int)) := ⟨_, rfl⟩
     replace H : (if t113 = 0 then ((Qao.f kj2 l0 a1_0 a1_1 a1_2 a1_3 a1_4).bind fun bt117 => (if bt117.2 = true then (Qap.j1 kj2 l0 t107 t110 t111 t113 bt117.1) else (Qap.j1 kj2 l0 t107 t110 t111 9 bt117.1))) else (Qap.j1 kj2 l0 t107 t110 t111 t113 y114)) = some r := yy hy114 H
     have Ny114 := Qa.mk hy114
     clear hy114
     have HC16 := Qa.mk H
     clear H
     go_upto_if 39 with (first | ((with_reducible refine gc 16 rfl ?_); refine gL 22 Tryz.func16 #[.slice A0 l0.length c0] ?_; (with_reducible refine (Qa4.calls _ _ l0 t104 _ ?side1 ?side2 A11.out).mono ?_); (case side1 => exact pC (Kd.C_below HR0.out HB.out)); (case side2 => exact HC0.out); rintro e w17 ⟨v105, rfl, ho0, hb⟩; refine ⟨_, rfl, ?_⟩; have HO106 := rl ho0 HB; replace BK101 := bb BK101 hb; replace HB := bs HB hb; clear hb ho0; obtain ⟨hcz18_0, hcz18_1, hcz18_2, hcz18_3, hcz18_4, hfz18_0, hfz18_1, hfz18_2, hfz18_3, hfz18_4⟩ := cf5 BK101; obtain ⟨Ao19, co19, eo19⟩ := Kd.R_slice HO106.out; subst eo19) | ((with_reducible refine gc 32 rfl ?_); refine gL 26 Tryz.func32 #[.slice Ao19 t104.length co19, .agg #[.int .i64 a1_0, .int .i64 a1_1, .int .i64 a1_2, .int .i64 a1_3, .int .i64 a1_4]] ?_; (with_reducible refine (Jb.calls kj2 _ _ t104 a1_0 a1_1 a1_2 a1_3 a1_4 t107 t110 t111 _ ?side1 ?side2 A12.out).mono ?_); (case side1 => exact pC (Kd.R_reads' HO106.out).2.2); (case side2 => exact (Kd.R_reads' HO106.out).2.1); rintro e w20 ⟨v108, rfl, ho0, hb⟩; refine ⟨_, rfl, ?_⟩; replace HO106 := rb HO106 hb; have HO109 := rl ho0 HB; replace BK101 := bb BK101 hb; replace HB := bs HB hb; clear hb ho0) | ((with_reducible refine gc 22 rfl ?_); refine gL 32 Tryz.func22 #[.slice Ao19 t104.length co19, .slice A0 l0.length c0] ?_; (with_reducible refine (Qax.calls kj2 _ _ t104 _ _ l0 true _ ?side1 ?side2 ?side3 ?side4 A13.out).mono ?_); (case side1 => exact pC (Kd.R_reads' HO106.out).2.2); (case side2 => exact (Kd.R_reads' HO106.out).2.1); (case side3 => exact pC (Kd.C_below HR0.out HB.out)); (case side4 => exact HC0.out); rintro e w' ⟨rfl, ⟨nd, rfl⟩⟩; refine ⟨_, rfl, ?_⟩; obtain ⟨hcz21_0, hcz21_1, hcz21_2, hcz21_3, hcz21_4, hfz21_0, hfz21_1, hfz21_2, hfz21_3, hfz21_4⟩ := cf5 BK101) | ((with_reducible refine gc 27 rfl ?_); refine gL 36 Tryz.func27 #[.slice A0 l0.length c0, .agg #[.int .i64 a1_0, .int .i64 a1_1, .int .i64 a1_2, .int .i64 a1_3, .int .i64 a1_4]] ?_; (with_reducible refine (Qa7.calls kj2 _ _ l0 a1_0 a1_1 a1_2 a1_3 a1_4 t113 _ ?side1 ?side2 A15.out).mono ?_); (case side1 => exact pC (Kd.C_below HR0.out (pE HB))); (case side2 => exact HC0.out); rintro e w22 ⟨rfl, hb⟩; refine ⟨_, rfl, ?_⟩; replace HO106 := rb HO106 hb; replace HO109 := rb HO109 hb; replace BK101 := bb BK101 hb; replace HB := bs HB hb; clear hb) | ((with_reducible refine gd 37 ?_); (try (refine QG (by rfl) ?_; dsimp only)); refine Kd.R_lit (Kd.int .i64) _ 3 ?hg (N := 37) ?hd (xs := ([] : List Int)) (inner := []) (ok := fun _ => True) (okp := fun _ => True) ?hr ?hp (fun _ hk => hk) trivial (Below.refl _ _) (Nat.le_refl _) (by simp) ?_; (case hd => rfl); (case hg => rfl); (case hr => first | (go_simp; done) | (go_simp; rfl)); (case hp => exact (Reps.none _ _)); intro v115 w23 ho24 hb hg_ hnew_; clear hg_ hnew_; (first | rw [← Ny114.out] at ho24 | (simp only [Int.reduceToNat] at ho24; rw [← Ny114.out] at ho24)); replace HO106 := rb HO106 hb; have HO116 := Qa.mk (Kd.R_lower (Kd.R_new' ho24 (Kd.R_lt (pR HO109.out))) (Qr (pE HB))); replace HO109 := re HO109 ho24 hb; replace BK101 := bb BK101 hb; replace HB := bs HB hb; clear hb ho24))
     (try simp only [Act.put, List.setIfInBounds_toArray, List.set_cons_zero, List.set_cons_succ])
     go_cut [9, 10] (fun v9 v10 wc => ∃ (kq : Nat) (x9_15 : Int) (x10_15 : List Int), v9 = .int .i64 x9_15 ∧ Qa (Qap.j1 kq l0 t107 t110 t111 x9_15 x10_15 = some r) ∧ Qa (kq ≤ kj2) ∧ Qa (Kd.R (Kd.int .i64) 3 wc w.heap.size (fun k_ => some k_ ≠ (v10 : Value).ownBlock) v108 t107) ∧ Qa (Kd.R (Kd.int .i64) 3 wc w.heap.size (fun k_ => some k_ ≠ (v108 : Value).ownBlock) v10 x10_15) ∧ Qa (wc.heap[gb101]? = some (.cells #[.int .i64 a1_0, .int .i64 a1_1, .int .i64 a1_2, .int .i64 a1_3, .int .i64 a1_4] 26 (0, 0))) ∧ Qa (Below w.heap.size w wc))
     case first =>
      have H := HC16.out
      clear HC16
      by_cases c25 : t113 = 0
      ·rw [if_pos c25] at H
       have c25b0 : (t113 == 0) = true := beq_iff_eq.mpr c25
       have c25b1 : (t113 != 0) = false := bne_eq_false_iff_eq.mpr c25
       clear c25
       (first | rw [c25b0] | (simp only [QR, QU]; rw [c25b0]) | skip)
       obtain ⟨⟨t117, t120⟩, A26, H⟩ := bi H
       by_cases c27 : t120 = true
       ·subst c27
        rw [if_pos rfl] at H
        have H' := Qa.mk H
        clear H
        obtain ⟨hcz28_0, hcz28_1, hcz28_2, hcz28_3, hcz28_4, hfz28_0, hfz28_1, hfz28_2, hfz28_3, hfz28_4⟩ := cf5 BK101
        go_wp2_with (first | ((with_reducible refine gc 33 rfl ?_); refine gL 43 Tryz.func33 #[.slice A0 l0.length c0, .agg #[.int .i64 a1_0, .int .i64 a1_1, .int .i64 a1_2, .int .i64 a1_3, .int .i64 a1_4]] ?_; (with_reducible refine (Qao.calls kj2 _ _ l0 a1_0 a1_1 a1_2 a1_3 a1_4 t117 true _ ?side1 ?side2 A26.out).mono ?_); (case side1 => exact pC (Kd.C_below HR0.out HB.out)); (case side2 => exact HC0.out); rintro e w29 ⟨v118, rfl, ho0, hb⟩; refine ⟨_, rfl, ?_⟩; replace HO106 := rb HO106 hb; have HO119 := Qa.mk (Kd.R_lower (Kd.R_new' (Kd.R_new' ho0 (Kd.R_lt (pR HO109.out))) (Kd.R_lt (pR HO116.out))) (Qr (pE HB))); replace HO109 := re HO109 ho0 hb; replace HO116 := re HO116 ho0 hb; replace BK101 := bb BK101 hb; replace HB := bs HB hb; clear hb ho0))
        go_meet
        case rel => exact ⟨_, (t113), (t117), eS, H', ⟨by have := HJ2.out; first | omega | exact Nat.le_refl _⟩, ⟨by (with_reducible repeat (first | apply Kd.R_alloc | apply Kd.R_drewN | apply Kd.R_drew)); exact Kd.R_mono HO109.out (fun _ hk => hk.2)⟩, ⟨by (with_reducible repeat (first | apply Kd.R_alloc | apply Kd.R_drewN | apply Kd.R_drew)); exact Kd.R_mono HO119.out (fun _ hk => hk.1.2)⟩, ⟨pB BK101.out⟩, ⟨pE HB⟩⟩
       ·replace c27 := Bool.eq_false_iff.mpr c27
        subst c27
        rw [if_neg (show ¬ (false = true) by decide)] at H
        have H' := Qa.mk H
        clear H
        obtain ⟨hcz30_0, hcz30_1, hcz30_2, hcz30_3, hcz30_4, hfz30_0, hfz30_1, hfz30_2, hfz30_3, hfz30_4⟩ := cf5 BK101
        go_wp2_with (first | ((with_reducible refine gc 33 rfl ?_); refine gL 43 Tryz.func33 #[.slice A0 l0.length c0, .agg #[.int .i64 a1_0, .int .i64 a1_1, .int .i64 a1_2, .int .i64 a1_3, .int .i64 a1_4]] ?_; (with_reducible refine (Qao.calls kj2 _ _ l0 a1_0 a1_1 a1_2 a1_3 a1_4 t117 false _ ?side1 ?side2 A26.out).mono ?_); (case side1 => exact pC (Kd.C_below HR0.out HB.out)); (case side2 => exact HC0.out); rintro e w31 ⟨v118, rfl, ho0, hb⟩; refine ⟨_, rfl, ?_⟩; replace HO106 := rb HO106 hb; have HO119 := Qa.mk (Kd.R_lower (Kd.R_new' (Kd.R_new' ho0 (Kd.R_lt (pR HO109.out))) (Kd.R_lt (pR HO116.out))) (Qr (pE HB))); replace HO109 := re HO109 ho0 hb; replace HO116 := re HO116 ho0 hb; replace BK101 := bb BK101 hb; replace HB := bs HB hb; clear hb ho0))
        go_meet
        case rel => exact ⟨_, (9), (t117), eS, H', ⟨by have := HJ2.out; first | omega | exact Nat.le_refl _⟩, ⟨by (with_reducible repeat (first | apply Kd.R_alloc | apply Kd.R_drewN | apply Kd.R_drew)); exact Kd.R_mono HO109.out (fun _ hk => hk.2)⟩, ⟨by (with_reducible repeat (first | apply Kd.R_alloc | apply Kd.R_drewN | apply Kd.R_drew)); exact Kd.R_mono HO119.out (fun _ hk => hk.1.2)⟩, ⟨pB BK101.out⟩, ⟨pE HB⟩⟩
      ·rw [if_neg c25] at H
       have c25b0 : (t113 == 0) = false := beq_eq_false_iff_ne.mpr c25
       have c25b1 : (t113 != 0) = true := bne_iff_ne.mpr c25
       (first | rw [c25b0] | (simp only [QR, QU]; rw [c25b0]) | skip)
       have H' := Qa.mk H
       clear H
       go_wp2
       go_meet
       case rel => exact ⟨_, (t113), (y114), eS, H', ⟨by have := HJ2.out; first | omega | exact Nat.le_refl _⟩, ⟨by (with_reducible repeat (first | apply Kd.R_alloc | apply Kd.R_drewN | apply Kd.R_drew)); exact Kd.R_mono HO109.out (fun _ hk => hk.2)⟩, ⟨by (with_reducible repeat (first | apply Kd.R_alloc | apply Kd.R_drewN | apply Kd.R_drew)); exact Kd.R_mono HO116.out (fun _ hk => hk.2)⟩, ⟨pB BK101.out⟩, ⟨pE HB⟩⟩
     case rest =>
      clear HC16
      try clear c1
      try clear c2
      try clear p2
      try clear c3
      try clear c4
      try clear c5
      try clear c5b0
      try clear c5b1
      try clear c8
      try clear c14
      try clear c15
      try clear c16
      try clear c22
      try clear c25
      try clear c25b0
      try clear c25b1
      try clear c27
      try clear hcz18_0
      try clear hcz18_1
      try clear hcz18_2
      try clear hcz18_3
      try clear hcz18_4
      try clear hcz21_0
      try clear hcz21_1
      try clear hcz21_2
      try clear hcz21_3
      try clear hcz21_4
      try clear hcz28_0
      try clear hcz28_1
      try clear hcz28_2
      try clear hcz28_3
      try clear hcz28_4
      try clear hcz30_0
      try clear hcz30_1
      try clear hcz30_2
      try clear hcz30_3
      try clear hcz30_4
      try clear hfz18_0
      try clear hfz18_1
      try clear hfz18_2
      try clear hfz18_3
      try clear hfz18_4
      try clear hfz21_0
      try clear hfz21_1
      try clear hfz21_2
      try clear hfz21_3
      try clear hfz21_4
      try clear hfz28_0
      try clear hfz28_1
      try clear hfz28_2
      try clear hfz28_3
      try clear hfz28_4
      try clear hfz30_0
      try clear hfz30_1
      try clear hfz30_2
      try clear hfz30_3
      try clear hfz30_4
      try clear p2
      obtain ⟨kq, x9_15, x10_15, rfl, HA, HJ15, HO_6, HO_10, BK101, HB⟩ := hcut
      cases kq with
      | zero => exact absurd HA.out (by simp [Qap.j1])
      | succ kj15 =>
       have H := HA.out
       clear HA
       simp only [Qap.j1] at H
       by_cases c32 : x9_15 = 0
       ·rw [if_pos c32] at H
        have c32b0 : (x9_15 == 0) = true := beq_iff_eq.mpr c32
        have c32b1 : (x9_15 != 0) = false := bne_eq_false_iff_eq.mpr c32
        clear c32
        by_cases c33 : t111 = 0
        ·rw [if_pos c33] at H
         have c33b0 : (t111 == 0) = true := beq_iff_eq.mpr c33
         have c33b1 : (t111 != 0) = false := bne_eq_false_iff_eq.mpr c33
         clear c33
         obtain ⟨t121, A34, H⟩ := bi H
         by_cases c35 : t121 = true
         ·subst c35
          rw [if_pos rfl] at H
          obtain ⟨t122, A36, H⟩ := bi H
          by_cases c37 : t110 = t122
          ·rw [if_pos c37] at H
           have c37b0 : (t110 == t122) = true := beq_iff_eq.mpr c37
           have c37b1 : (t110 != t122) = false := bne_eq_false_iff_eq.mpr c37
           clear c37
           obtain ⟨t123, A38, H⟩ := bi H
           obtain rfl := Option.some.inj H
           obtain ⟨Ao39, co39, eo39⟩ := Kd.R_slice HO_6.out
           subst eo39
           obtain ⟨Ao40, co40, eo40⟩ := Kd.R_slice HO_10.out
           subst eo40
           go_wp2_with (first | (go_at_call 23; (with_reducible refine (Qm.calls kj15 _ _ t107 _ _ x10_15 true _ ?side1 ?side2 ?side3 ?side4 A34.out).mono ?_); (case side1 => exact pC (Kd.R_reads' HO_6.out).2.2); (case side2 => exact (Kd.R_reads' HO_6.out).2.1); (case side3 => exact pC (Kd.R_reads' HO_10.out).2.2); (case side4 => exact (Kd.R_reads' HO_10.out).2.1); rintro e w' ⟨rfl, ⟨nd, rfl⟩⟩) | (go_at_call 34; (with_reducible refine (Qau.calls kj15 _ _ l0 _ _ x10_15 t122 _ ?side1 ?side2 ?side3 ?side4 A36.out).mono ?_); (case side1 => exact pC (Kd.C_below HR0.out (pE HB))); (case side2 => exact HC0.out); (case side3 => exact pC (Kd.R_reads' HO_10.out).2.2); (case side4 => exact (Kd.R_reads' HO_10.out).2.1); rintro e w' ⟨rfl, ⟨nd, rfl⟩⟩) | (go_at_call 15; (with_reducible refine (Qd.calls kj15  t123 _ A38.out).mono ?_); rintro e w41 ⟨rfl, hb⟩; replace HO_6 := rb HO_6 hb; replace HO_10 := rb HO_10 hb; replace BK101 := bb BK101 hb; replace HB := bs HB hb; (try clear hb); (try clear hb2); (try clear hk); (try clear hi)))
           go_ret
           exact ⟨eT, pE HB⟩
          ·rw [if_neg c37] at H
           have c37b0 : (t110 == t122) = false := beq_eq_false_iff_ne.mpr c37
           have c37b1 : (t110 != t122) = true := bne_iff_ne.mpr c37
           exact absurd ((Option.some.inj H).trans HRT.out) (by simp)
         ·replace c35 := Bool.eq_false_iff.mpr c35
          subst c35
          rw [if_neg (show ¬ (false = true) by decide)] at H
          exact absurd ((Option.some.inj H).trans HRT.out) (by simp)
        ·rw [if_neg c33] at H
         have c33b0 : (t111 == 0) = false := beq_eq_false_iff_ne.mpr c33
         have c33b1 : (t111 != 0) = true := bne_iff_ne.mpr c33
         exact absurd ((Option.some.inj H).trans HRT.out) (by simp)
       ·rw [if_neg c32] at H
        have c32b0 : (x9_15 == 0) = false := beq_eq_false_iff_ne.mpr c32
        have c32b1 : (x9_15 != 0) = true := bne_iff_ne.mpr c32
        by_cases c42 : t111 = x9_15
        ·rw [if_pos c42] at H
         have c42b0 : (t111 == x9_15) = true := beq_iff_eq.mpr c42
         have c42b1 : (t111 != x9_15) = false := bne_eq_false_iff_eq.mpr c42
         clear c42
         by_cases c43 : (t107.length : Int) = 0
         ·rw [if_pos c43] at H
          have c43b0 : ((t107.length : Int) == 0) = true := beq_iff_eq.mpr c43
          have c43b1 : ((t107.length : Int) != 0) = false := bne_eq_false_iff_eq.mpr c43
          clear c43
          by_cases c44 : t110 = 0
          ·rw [if_pos c44] at H
           have c44b0 : (t110 == 0) = true := beq_iff_eq.mpr c44
           have c44b1 : (t110 != 0) = false := bne_eq_false_iff_eq.mpr c44
           clear c44
           obtain ⟨t124, A45, H⟩ := bi H
           obtain rfl := Option.some.inj H
           obtain ⟨Ao46, co46, eo46⟩ := Kd.R_slice HO_6.out
           subst eo46
           go_wp2_with (first | (go_at_call 15; (with_reducible refine (Qd.calls kj15  t124 _ A45.out).mono ?_); rintro e w47 ⟨rfl, hb⟩; replace HO_6 := rb HO_6 hb; replace HO_10 := rb HO_10 hb; replace BK101 := bb BK101 hb; replace HB := bs HB hb; (try clear hb); (try clear hb2); (try clear hk); (try clear hi)))
           go_ret
           exact ⟨eT, pE HB⟩
          ·rw [if_neg c44] at H
           have c44b0 : (t110 == 0) = false := beq_eq_false_iff_ne.mpr c44
           have c44b1 : (t110 != 0) = true := bne_iff_ne.mpr c44
           exact absurd ((Option.some.inj H).trans HRT.out) (by simp)
         ·rw [if_neg c43] at H
          have c43b0 : ((t107.length : Int) == 0) = false := beq_eq_false_iff_ne.mpr c43
          have c43b1 : ((t107.length : Int) != 0) = true := bne_iff_ne.mpr c43
          have c43b2 : ¬ (t107 = []) := fun h_ => c43 (by rw [h_]; rfl)
          exact absurd ((Option.some.inj H).trans HRT.out) (by simp)
        ·rw [if_neg c42] at H
         have c42b0 : (t111 == x9_15) = false := beq_eq_false_iff_ne.mpr c42
         have c42b1 : (t111 != x9_15) = true := bne_iff_ne.mpr c42
         exact absurd ((Option.some.inj H).trans HRT.out) (by simp)
    ·replace c14 := Bool.eq_false_iff.mpr c14
     subst c14
     rw [if_neg (show ¬ (false = true) by decide)] at H
     exact absurd ((Option.some.inj H).trans HRT.out) (by simp)
end Go.Proofs.YtjaapkkpmegkfaaGreat.P
