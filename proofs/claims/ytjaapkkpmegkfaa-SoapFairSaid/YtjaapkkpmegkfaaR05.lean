/- Part 5 of what the law's proof needs: words, walks of functions and plain facts. -/
import Derived.RangeFuncNested
import Derived.RangeFuncBound
import Derived.RangeFuncCalls
import Derived.RangeFuncLeaves
import Derived.Shelf.Abstract
import Derived.Shelf.RegionOpen
import Derived.OwnWalkIn
import Derived.TacticsInMore
import Derived.LoopNIn
import Derived.LoopIn
import Derived.WalkKit
import Derived.Test.YtjaapkkpmegkfaaR02
import Derived.Test.YtjaapkkpmegkfaaR04
set_option linter.unusedVariables false
set_option linter.unusedSimpArgs false
namespace Go.Proofs.Ytjaapkkpmegkfaa.P
open Go.RowKit Go.Proofs.YtjaapkkpmegkfaaW.PrintWords Go.Proofs.YtjaapkkpmegkfaaW.PrintLast Go.Proofs.YtjaapkkpmegkfaaW.PrintMore
attribute [local go_sem] JG JH JY JX Jv Ju JJ JK
def ZU.f (a0_0 a0_1 a0_2 a0_3 a0_4 : Int) : Option Int := some a0_1
set_option maxHeartbeats 8000000 in
set_option maxRecDepth 100000 in
theorem ZU.calls (a0_0 a0_1 a0_2 a0_3 a0_4 r : Int) (w : World) (h : ZU.f a0_0 a0_1 a0_2 a0_3 a0_4 = some r) :
  Calls Try.prog 61 #[.agg #[.int .i64 a0_0, .int .i64 a0_1, .int .i64 a0_2, .int .i64 a0_3, .int .i64 a0_4]] w fun e w' => e = .returned (.int .i64 r) ∧ Below w.heap.size w w' := by
 have hu83 := Try.underlying83; have HB := Qa.mk (Below.refl w.heap.size w); have H : (some a0_1) = some r := h; clear h; obtain rfl := Option.some.inj H; go_enter Try.func61, Try.ntmps61; go_wp2_with (first | (refine bx 1 #[.int .i64 a0_0, .int .i64 a0_1, .int .i64 a0_2, .int .i64 a0_3, .int .i64 a0_4] 83 ?_; intro gb101 hg w2 BK101 hb; have GW101 := gs HB hg; replace HB := bs HB hb; clear hb hg; obtain ⟨_, _, _, _, _, _, _, _, _, _⟩ := cf5 BK101)); go_ret; exact ⟨eT, pE HB⟩
def Qw.l0 : Nat → Int → List Int → Int → Int → Int → Int → Int → Int → Int → List S83 → Option Int
 | 0, _, _, _, _, _, _, _, _, _, _ => none
 | k + 1, x6, x9, x10, x11, x102000, x102001, x102002, x102003, x102004, x102005 => if x11 < x10 then (if 0 ≤ x11 then (if x11 < (x9.length : Int) then (if x11 < (x102005.length : Int) then ((ZU.f ((Qf x102005 x11).f0.f0) ((Qf x102005 x11).f0.f1) ((Qf x102005 x11).f1) ((Qf x102005 x11).f2) ((Qf x102005 x11).f3)).bind fun t104 => (Qw.l0 k (wrap64 (x6 + (wrap64 ((rd x9 x11) * t104)))) x9 x10 (wrap64 (x11 + 1)) x102000 x102001 x102002 x102003 x102004 x102005)) else (none)) else (none)) else (none)) else (some x6)
def Qw.f (k : Nat) (a0_0 a0_1 a0_2 a0_3 a0_4 : Int) (l0_5 : List S83) (l1 : List Int)  : Option Int := Qw.l0 k 0 l1 (l1.length : Int) 0 a0_0 a0_1 a0_2 a0_3 a0_4 l0_5
theorem Qw.mono_l : ∀ k, (∀ y0 y1 y2 y3 y4 y5 y6 y7 y8 y9, LeO (Qw.l0 k y0 y1 y2 y3 y4 y5 y6 y7 y8 y9) (Qw.l0 (k + 1) y0 y1 y2 y3 y4 y5 y6 y7 y8 y9))
 | 0 => fun _ _ _ _ _ _ _ _ _ _ r h => by simp [Qw.l0] at h
 | k + 1 => by
  have ih0 := Qw.mono_l k
  ·intro y0 y1 y2 y3 y4 y5 y6 y7 y8 y9
   unfold Qw.l0
   repeat' first
   | (with_reducible exact ih0 _ _ _ _ _ _ _ _ _ _)
   | (with_reducible exact LeO.refl _)
   | (with_reducible exact LeO.none _)
   | (with_reducible refine LeO.ite ?_ ?_)
   | (with_reducible refine LeO.bind ?_ (fun _ => ?_))
theorem Qw.mono : ∀ a0 a1 a2 a3 a4 a5 a6 k, LeO (Qw.f k a0 a1 a2 a3 a4 a5 a6) (Qw.f (k + 1) a0 a1 a2 a3 a4 a5 a6) := by
 intro a0 a1 a2 a3 a4 a5 a6 k; have ih0 := Qw.mono_l k; unfold Qw.f
 repeat' first
   | (with_reducible exact ih0 _ _ _ _ _ _ _ _ _ _)
   | (with_reducible exact LeO.refl _)
   | (with_reducible exact LeO.none _)
   | (with_reducible refine LeO.ite ?_ ?_)
   | (with_reducible refine LeO.bind ?_ (fun _ => ?_))
set_option maxHeartbeats 8000000 in
set_option maxRecDepth 100000 in
theorem Qw.calls (k : Nat) (a0_0 a0_1 a0_2 a0_3 a0_4 : Int) (A0_5 : Option Addr) (c0_5 : Nat) (l0_5 : List S83) (A1 : Option Addr) (c1 : Nat) (l1 : List Int)  (r : Int) (w : World) (hr0_5 : Kd.C k83 w A0_5 l0_5.length l0_5) (hc0_5 : l0_5.length ≤ c0_5) (hr1 : Kd.C (Kd.int .i64) w A1 l1.length l1) (hc1 : l1.length ≤ c1) (h : Qw.f k a0_0 a0_1 a0_2 a0_3 a0_4 l0_5 l1 = some r) :
  Calls Try.prog 33 #[.agg #[.int .i64 a0_0, .int .i64 a0_1, .int .i64 a0_2, .int .i64 a0_3, .int .i64 a0_4, .slice A0_5 l0_5.length c0_5], .slice A1 l1.length c1, .func (.func 61) #[] #[]] w fun e w' => e = .returned (.int .i64 r) ∧ Below w.heap.size w w' := by
 have hu75 := Try.underlying75; have hu83 := Try.underlying83; have HR0_5 := Qa.mk hr0_5; have HC0_5 := Qa.mk hc0_5; clear hr0_5 hc0_5; have HR1 := Qa.mk hr1; have HC1 := Qa.mk hc1; clear hr1 hc1; have HB := Qa.mk (Below.refl w.heap.size w); have H : (Qw.l0 k 0 l1 (l1.length : Int) 0 a0_0 a0_1 a0_2 a0_3 a0_4 l0_5) = some r := h; clear h; have H' := Qa.mk H; clear H; go_enter Try.func33, Try.ntmps33; go_wp2_with (first | (refine bx 3 #[.int .i64 a0_0, .int .i64 a0_1, .int .i64 a0_2, .int .i64 a0_3, .int .i64 a0_4, .slice A0_5 l0_5.length c0_5] 75 ?_; intro gb101 hg w4 BK101 hb; have GW101 := gs HB hg; replace HB := bs HB hb; clear hb hg))
 (try simp only [Act.put, List.setIfInBounds_toArray, List.set_cons_zero, List.set_cons_succ])
 go_loopg [6, 11] k (fun kq v6 v11 w' => ∃ (x6_1 : Int) (x11_1 : Int), v6 = .int .i64 x6_1 ∧ v11 = .int .i64 x11_1 ∧ Qa (Qw.l0 kq x6_1 l1 (l1.length : Int) x11_1 a0_0 a0_1 a0_2 a0_3 a0_4 l0_5 = some r) ∧ Qa (kq ≤ k) ∧ Qa (w'.heap[gb101]? = some (.cells #[.int .i64 a0_0, .int .i64 a0_1, .int .i64 a0_2, .int .i64 a0_3, .int .i64 a0_4, (.slice A0_5 l0_5.length c0_5)] 75 (0, 0))) ∧ Qa (Below w.heap.size w w'))
 case atStart => exact ⟨(0), (0), eS, eS, H', ⟨Nat.le_refl _⟩, ⟨pB BK101.out⟩, ⟨pE HB⟩⟩
 case round =>
  clear H'; try clear c1
  try clear p2
  obtain ⟨x6_1, x11_1, rfl, rfl, HA, HK1, BK101, HB⟩ := hrel
  cases gk with
  | zero => exact absurd HA.out (by simp [Qw.l0])
  | succ k1 =>
   have H := HA.out; clear HA; simp only [Qw.l0] at H; by_cases c5 : x11_1 < (l1.length : Int)
   ·rw [if_pos c5] at H
    have c5b0 : decide (x11_1 < (l1.length : Int)) = true := decide_eq_true c5; clear c5; by_cases c6 : 0 ≤ x11_1
    ·rw [if_pos c6] at H
     have c6b0 : decide (0 ≤ x11_1) = true := decide_eq_true c6; clear c6; by_cases c7 : x11_1 < (l1.length : Int)
     ·rw [if_pos c7] at H
      have c7b0 : decide (x11_1 < (l1.length : Int)) = true := decide_eq_true c7; clear c7; by_cases c8 : x11_1 < (l0_5.length : Int)
      ·rw [if_pos c8] at H
       have c8b0 : decide (x11_1 < (l0_5.length : Int)) = true := decide_eq_true c8; clear c8; obtain ⟨t104, A9, H⟩ := bi H; have H' := Qa.mk H; clear H; have p102 : 0 ≤ (x11_1 : Int) := dT; have q102 : x11_1 < (l1.length : Int) := dT; obtain ⟨ad102, e102, hx102_0⟩ := Kd.at_int HR1.out x11_1 p102 q102
       cases e102
       replace hx102_0 := cut_ HB hx102_0; replace p102 := eq_true p102; replace q102 := eq_true q102; obtain ⟨_, _, _, _, _, _, _, _, _, _, _, _⟩ := cf6 BK101; have p103 : 0 ≤ (x11_1 : Int) := dT; have q103 : x11_1 < (l0_5.length : Int) := dT; obtain ⟨ad103, e103, hx103_0, hx103_1, hx103_2, hx103_3, hx103_4⟩ := Zf HR0_5.out x11_1 p103 q103
       cases e103
       replace hx103_0 := cut_ HB hx103_0; replace hx103_1 := cut_ HB hx103_1; replace hx103_2 := cut_ HB hx103_2; replace hx103_3 := cut_ HB hx103_3; replace hx103_4 := cut_ HB hx103_4; replace p103 := eq_true p103; replace q103 := eq_true q103; go_wp2_with (first | (go_at_call 61; (with_reducible refine (ZU.calls ((Qf l0_5 x11_1).f0.f0) ((Qf l0_5 x11_1).f0.f1) ((Qf l0_5 x11_1).f1) ((Qf l0_5 x11_1).f2) ((Qf l0_5 x11_1).f3) t104 _ A9.out).mono ?_); rintro e w11 ⟨rfl, hb⟩; replace BK101 := bb BK101 hb; replace HB := bs HB hb; (try clear hb); (try clear hb2); (try clear hk); (try clear hi)))
       go_roundg k1
       case measure => have := HK1.out; omega
       case rel => exact ⟨(wrap64 (x6_1 + (wrap64 ((rd l1 x11_1) * t104)))), (wrap64 (x11_1 + 1)), eS, eS, H', ⟨by have := HK1.out; omega⟩, ⟨pB BK101.out⟩, ⟨pE HB⟩⟩
      ·rw [if_neg c8] at H
       exact absurd H (by simp)
     ·rw [if_neg c7] at H
      exact absurd H (by simp)
    ·rw [if_neg c6] at H
     exact absurd H (by simp)
   ·rw [if_neg c5] at H
    have c5b0 : decide (x11_1 < (l1.length : Int)) = false := decide_eq_false c5; clear c5; obtain rfl := Option.some.inj H; go_wp2; go_ret; exact ⟨eT, pE HB⟩
def QS.f (k : Nat) (a0_0 a0_1 a0_2 a0_3 a0_4 : Int) (l0_5 : List S83) (l1 : List Int) : Option (Int × Int) := (QP.f a0_0 a0_1 a0_2 a0_3 a0_4 l0_5).bind fun bt103 => ((Qp.f k a0_0 a0_1 a0_2 a0_3 a0_4 l0_5 l1).bind fun t106 => ((Qw.f k a0_0 a0_1 a0_2 a0_3 a0_4 l0_5 l1).bind fun t107 => (some (wrap64 (t106 - bt103.2), wrap64 (t107 - bt103.1)))))
theorem QS.mono : ∀ a0 a1 a2 a3 a4 a5 a6 k, LeO (QS.f k a0 a1 a2 a3 a4 a5 a6) (QS.f (k + 1) a0 a1 a2 a3 a4 a5 a6) := by
 intro a0 a1 a2 a3 a4 a5 a6 k; unfold QS.f
 repeat' first
   | (with_reducible exact Qp.mono _ _ _ _ _ _ _ _)
   | (with_reducible exact Qw.mono _ _ _ _ _ _ _ _)
   | (with_reducible exact LeO.refl _)
   | (with_reducible exact LeO.none _)
   | (with_reducible refine LeO.ite ?_ ?_)
   | (with_reducible refine LeO.bind ?_ (fun _ => ?_))
def QS.T2 : Bool × List (List Nat × List Nat) := (true, [([], []), ([], []), ([0, 1], [0, 1]), ([], []), ([3], [3]), ([2, 4], [2, 4]), ([], []), ([], []), ([6, 7, 2], [6, 7]), ([], []), ([9], [9]), ([8, 10], [8, 10]), ([5, 11], [5, 11]), ([12, 8, 0, 1, 2, 3, 4, 5, 6, 7, 8, 9, 10, 11, 12], [12])])
def QS.B2 : List Nat := [0, 0, 3, 0, 8, 31, 0, 0, 199, 0, 512, 1991, 4095, 8191]
theorem QS.tab2 : rtab .any (ZG Try.f32 2) = QS.T2 := by kernel_rfl
theorem QS.bits2 : J0 QS.T2.2 QS.B2 = true := by kernel_rfl
set_option maxHeartbeats 8000000 in
set_option maxRecDepth 100000 in
theorem QS.calls (k : Nat) (a0_0 a0_1 a0_2 a0_3 a0_4 : Int) (A0_5 : Option Addr) (c0_5 : Nat) (l0_5 : List S83) (A1 : Option Addr) (c1 : Nat) (l1 : List Int) (r1 r2 : Int) (w : World) (hr0_5 : Kd.C k83 w A0_5 l0_5.length l0_5) (hc0_5 : l0_5.length ≤ c0_5) (hr1 : Kd.C (Kd.int .i64) w A1 l1.length l1) (hc1 : l1.length ≤ c1) (h : QS.f k a0_0 a0_1 a0_2 a0_3 a0_4 l0_5 l1 = some (r1, r2)) :
  Calls Try.prog 32 #[.agg #[.int .i64 a0_0, .int .i64 a0_1, .int .i64 a0_2, .int .i64 a0_3, .int .i64 a0_4, .slice A0_5 l0_5.length c0_5], .slice A1 l1.length c1] w fun e w' => e = .returned (.agg #[.int .i64 r1, .int .i64 r2]) ∧ Below w.heap.size w w' := by
 have hu75 := Try.underlying75; have hu36 := Try.underlying36; have HR0_5 := Qa.mk hr0_5; have HC0_5 := Qa.mk hc0_5; clear hr0_5 hc0_5; have HR1 := Qa.mk hr1; have HC1 := Qa.mk hc1; clear hr1 hc1; have HB := Qa.mk (Below.refl w.heap.size w); have H : ((QP.f a0_0 a0_1 a0_2 a0_3 a0_4 l0_5).bind fun bt103 => ((Qp.f k a0_0 a0_1 a0_2 a0_3 a0_4 l0_5 l1).bind fun t106 => ((Qw.f k a0_0 a0_1 a0_2 a0_3 a0_4 l0_5 l1).bind fun t107 => (some (wrap64 (t106 - bt103.2), wrap64 (t107 - bt103.1)))))) = some (r1, r2) := h; clear h; obtain ⟨⟨t103, t104⟩, A3, H⟩ := bi H; obtain ⟨t106, A4, H⟩ := bi H; obtain ⟨t107, A5, H⟩ := bi H; simp only [Option.some.injEq, Prod.mk.injEq] at H; obtain ⟨rfl, rfl⟩ := H; go_enter Try.func32, Try.ntmps32
 try go_wp2_with (first | (refine bx 2 #[.int .i64 a0_0, .int .i64 a0_1, .int .i64 a0_2, .int .i64 a0_3, .int .i64 a0_4, .slice A0_5 l0_5.length c0_5] 75 ?_; intro gb101 hg w6 BK101 hb; have GW101 := gs HB hg; replace HB := bs HB hb; clear hb hg) | (refine bx 4 #[.int .i64 0, .int .i64 0] 36 ?_; intro gb102 hg w7 BK102 hb; have GW102 := gs HB hg; replace HB := bs HB hb; have NB101_102 := nl BK101 hg; have NB102_101 := nr BK101 hg; replace BK101 := bb BK101 hb; clear hb hg; have hnb8 := NB101_102.out; have hnc8 := NB102_101.out; obtain ⟨_, _, _, _, _, _, _, _, _, _, _, _⟩ := cf6 BK101) | ((with_reducible refine gc 30 rfl ?_); refine gL 7 Try.func30 #[.agg #[.int .i64 a0_0, .int .i64 a0_1, .int .i64 a0_2, .int .i64 a0_3, .int .i64 a0_4, .slice A0_5 l0_5.length c0_5]] ?_; (with_reducible refine (QP.calls a0_0 a0_1 a0_2 a0_3 a0_4 _ _ l0_5 t103 t104 _ ?side1 ?side2 A3.out).mono ?_); (case side1 => exact pC (Kd.C_below HR0_5.out HB.out)); (case side2 => exact HC0_5.out); rintro e w10 ⟨rfl, hb⟩; refine ⟨_, rfl, ?_⟩; replace BK101 := bb BK101 hb; replace BK102 := bb BK102 hb; replace HB := bs HB hb; clear hb) | (refine bx 5 #[.int .i64 0, .int .i64 0] 36 ?_; intro gb105 hg w11 BK105 hb; have GW105 := gs HB hg; replace HB := bs HB hb; have NB101_105 := nl BK101 hg; have NB105_101 := nr BK101 hg; replace BK101 := bb BK101 hb; have NB102_105 := nl BK102 hg; have NB105_102 := nr BK102 hg; replace BK102 := bb BK102 hb; clear hb hg; have hnb12 := NB105_101.out; have hnc12 := NB101_105.out; have hnb13 := NB105_102.out; have hnc13 := NB102_105.out; obtain ⟨_, _, _, _⟩ := cf2 BK105))
 have n0_ : Qa (((w11.setCell ⟨gb105, 0, none⟩ (.int .i64 t103)).setCell ⟨gb105, 1, none⟩ (.int .i64 t104)).heap[gb101]? = some (.cells #[.int .i64 a0_0, .int .i64 a0_1, .int .i64 a0_2, .int .i64 a0_3, .int .i64 a0_4, .slice A0_5 l0_5.length c0_5] 75 (0, 0))) := ⟨pF BK101⟩; have n1_ : Qa (((w11.setCell ⟨gb105, 0, none⟩ (.int .i64 t103)).setCell ⟨gb105, 1, none⟩ (.int .i64 t104)).heap[gb102]? = some (.cells #[.int .i64 0, .int .i64 0] 36 (0, 0))) := ⟨pF BK102⟩; have n2_ : Qa (((w11.setCell ⟨gb105, 0, none⟩ (.int .i64 t103)).setCell ⟨gb105, 1, none⟩ (.int .i64 t104)).heap[gb105]? = some (.cells #[.int .i64 t103, .int .i64 t104] 36 (0, 0))) := ⟨by refine pB ?_; refine Qg (cs := #[.int .i64 t103, .int .i64 0]) ?_ 1 _ rfl; refine pB ?_; refine Qg (cs := #[.int .i64 0, .int .i64 0]) ?_ 0 _ rfl; (with_reducible repeat (first | refine Qt ?_ _ | refine Qh ?_ | refine blk_alloc ?_ _)); exact BK105.out⟩; have n3_ : Qa (Below w.heap.size w ((w11.setCell ⟨gb105, 0, none⟩ (.int .i64 t103)).setCell ⟨gb105, 1, none⟩ (.int .i64 t104))) := ⟨pE HB⟩
 (try clear BK101)
 (try clear BK102)
 (try clear BK105)
 (try clear HB)
 generalize ((w11.setCell ⟨gb105, 0, none⟩ (.int .i64 t103)).setCell ⟨gb105, 1, none⟩ (.int .i64 t104)) = w15 at n0_ n1_ n2_ n3_ ⊢; have BK101 := n0_; have BK102 := n1_; have BK105 := n2_; have HB := n3_; clear n0_ n1_ n2_ n3_; replace BK101 := Qa.mk (Qh BK101.out); replace BK102 := Qa.mk (Qh BK102.out); replace BK105 := Qa.mk (Qh BK105.out); replace HB := Qa.mk (QM HB.out); refine JS (n := 14) (S := fun w' => w'.cell? ⟨gb101, 0, none⟩ = some (.int .i64 a0_0) ∧ w'.cell? ⟨gb101, 1, none⟩ = some (.int .i64 a0_1) ∧ w'.cell? ⟨gb101, 2, none⟩ = some (.int .i64 a0_2) ∧ w'.cell? ⟨gb101, 3, none⟩ = some (.int .i64 a0_3) ∧ w'.cell? ⟨gb101, 4, none⟩ = some (.int .i64 a0_4) ∧ w'.cell? ⟨gb101, 5, none⟩ = some (.slice A0_5 l0_5.length c0_5) ∧ w'.cell? ⟨gb105, 0, none⟩ = some (.int .i64 t103) ∧ w'.cell? ⟨gb105, 1, none⟩ = some (.int .i64 t104)) (ds := []) #[false, false, false, false, false, false, false, false, false, false, false, false, false, false] (by kernel_rfl) rfl rfl ⟨cz0 BK101, cz1 BK101, cz2 BK101, cz3 BK101, cz4 BK101, cz5 BK101, cz0 BK105, cz1 BK105⟩ (fun hHeld => ?_); refine Jk QS.tab2 QS.bits2 (fun HT_ HW_ => ?_); generalize w15.drew = w16 at BK101 BK102 BK105 HB hHeld ⊢; refine pu 1 9 ?_; refine pu 3 11 ?_; refine pu 7 15 ?_; refine pu 9 17 ?_; refine tk 0 8 hHeld ?_; refine tk 4 12 hHeld ?_; refine tk 6 14 hHeld ?_; refine tk 10 18 hHeld ?_; refine on 2 (fun K hK => ?_); refine gO Try.func33 #[.agg #[.int .i64 a0_0, .int .i64 a0_1, .int .i64 a0_2, .int .i64 a0_3, .int .i64 a0_4, .slice A0_5 l0_5.length c0_5], .slice A1 l1.length c1, .func (.func 60) #[] #[]] ?_
 with_reducible refine (Qp.calls k a0_0 a0_1 a0_2 a0_3 a0_4 _ _ l0_5 _ _ l1  t106 _ ?side1 ?side2 ?side3 ?side4 A4.out).mono ?_
 (case side1 => exact pC (Kd.C_below HR0_5.out HB.out))
 (case side2 => exact HC0_5.out)
 (case side3 => exact pC (Kd.C_below HR1.out HB.out))
 (case side4 => exact HC1.out)
 rintro e w17 ⟨rfl, hb⟩; refine ⟨_, rfl, ?_⟩; replace BK101 := bb BK101 hb; replace BK102 := bb BK102 hb; replace BK105 := bb BK105 hb; replace HB := bs HB hb
 (try clear hb)
 (try clear hb2)
 (try clear hk)
 (try clear hi)
 refine hK.out _ _ ⟨cz0 BK101, cz1 BK101, cz2 BK101, cz3 BK101, cz4 BK101, cz5 BK101, cz0 BK105, cz1 BK105⟩ (fun hHeld => ?_); clear hK K; refine QY (a' := ?_) ?_ ?_
 rotate_left
 ·show Act.put _ (some 10) _ = _
  simp only [Act.put, List.setIfInBounds_toArray, List.set_cons_zero, List.set_cons_succ, QR, QU]; rfl
 refine pu 5 13 ?_; refine on 8 (fun K hK => ?_); refine gO Try.func33 #[.agg #[.int .i64 a0_0, .int .i64 a0_1, .int .i64 a0_2, .int .i64 a0_3, .int .i64 a0_4, .slice A0_5 l0_5.length c0_5], .slice A1 l1.length c1, .func (.func 61) #[] #[]] ?_
 with_reducible refine (Qw.calls k a0_0 a0_1 a0_2 a0_3 a0_4 _ _ l0_5 _ _ l1  t107 _ ?side1 ?side2 ?side3 ?side4 A5.out).mono ?_
 (case side1 => exact pC (Kd.C_below HR0_5.out HB.out))
 (case side2 => exact HC0_5.out)
 (case side3 => exact pC (Kd.C_below HR1.out HB.out))
 (case side4 => exact HC1.out)
 rintro e w18 ⟨rfl, hb⟩; refine ⟨_, rfl, ?_⟩; replace BK101 := bb BK101 hb; replace BK102 := bb BK102 hb; replace BK105 := bb BK105 hb; replace HB := bs HB hb
 (try clear hb)
 (try clear hb2)
 (try clear hk)
 (try clear hi)
 refine hK.out _ _ ⟨cz0 BK101, cz1 BK101, cz2 BK101, cz3 BK101, cz4 BK101, cz5 BK101, cz0 BK105, cz1 BK105⟩ (fun hHeld => ?_); clear hK K; refine QY (a' := ?_) ?_ ?_
 rotate_left
 ·show Act.put _ (some 16) _ = _
  simp only [Act.put, List.setIfInBounds_toArray, List.set_cons_zero, List.set_cons_succ, QR, QU]; rfl
 refine pu 11 19 ?_; refine pu 12 20 ?_; refine on 13 (fun K hK => ?_); have hs19 : w18.cell? ⟨gb102, 0, none⟩ = some (.int .i64 0) := (Qb BK102.out 0).trans rfl; have hfs19 := Qq BK102.out 0; have hns19_0 := NB101_102.out; have hns19_2 := NB105_102.out; have hms19_0 := NB102_101.out; have hms19_2 := NB102_105.out; have hs20 : w18.cell? ⟨gb102, 1, none⟩ = some (.int .i64 0) := (Qb BK102.out 1).trans rfl; have hfs20 := Qq BK102.out 1; have hns20_0 := NB101_102.out; have hns20_2 := NB105_102.out; have hms20_0 := NB102_101.out; have hms20_2 := NB102_105.out; refine Z7 (w1 := ?_) (by rfl) rfl ?_ ?_
 rotate_left
 ·go_simp
  rfl
 refine hK.out _ _ ⟨((QW (p := ⟨gb102, _, none⟩) NB101_102.out _).trans (((QW (p := ⟨gb102, _, none⟩) NB101_102.out _).trans (hHeld.1)))), ((QW (p := ⟨gb102, _, none⟩) NB101_102.out _).trans (((QW (p := ⟨gb102, _, none⟩) NB101_102.out _).trans (hHeld.2.1)))), ((QW (p := ⟨gb102, _, none⟩) NB101_102.out _).trans (((QW (p := ⟨gb102, _, none⟩) NB101_102.out _).trans (hHeld.2.2.1)))), ((QW (p := ⟨gb102, _, none⟩) NB101_102.out _).trans (((QW (p := ⟨gb102, _, none⟩) NB101_102.out _).trans (hHeld.2.2.2.1)))), ((QW (p := ⟨gb102, _, none⟩) NB101_102.out _).trans (((QW (p := ⟨gb102, _, none⟩) NB101_102.out _).trans (hHeld.2.2.2.2.1)))), ((QW (p := ⟨gb102, _, none⟩) NB101_102.out _).trans (((QW (p := ⟨gb102, _, none⟩) NB101_102.out _).trans (hHeld.2.2.2.2.2.1)))), ((QW (p := ⟨gb102, _, none⟩) NB105_102.out _).trans (((QW (p := ⟨gb102, _, none⟩) NB105_102.out _).trans (hHeld.2.2.2.2.2.2.1)))), ((QW (p := ⟨gb102, _, none⟩) NB105_102.out _).trans (((QW (p := ⟨gb102, _, none⟩) NB105_102.out _).trans (hHeld.2.2.2.2.2.2.2))))⟩ (fun hHeld => ?_); clear hK K; refine JD (JM HT_.out (by kernel_rfl)) ?_
 try go_wp2
 refine bodyPost_ret (results_cell_row rfl _ _ gb102 36 #[.int .i64 (wrap64 (t106 - t104)), .int .i64 (wrap64 (t107 - t103))] (0, 0) _ rfl (by refine pB ?_; refine Qg (cs := #[.int .i64 (wrap64 (t106 - t104)), .int .i64 0]) ?_ 1 _ rfl; refine pB ?_; refine Qg (cs := #[.int .i64 0, .int .i64 0]) ?_ 0 _ rfl; (with_reducible repeat (first | refine Qt ?_ _ | refine Qh ?_ | refine blk_alloc ?_ _)); exact BK102.out) Try.underlying36 rfl (by kernel_rfl)) rfl ?_; exact ⟨eT, pE HB⟩
def Zw.f (a0_0 a0_1 a0_2 a0_3 a0_4 : Int) : Option Int := some a0_3
set_option maxHeartbeats 8000000 in
set_option maxRecDepth 100000 in
theorem Zw.calls (a0_0 a0_1 a0_2 a0_3 a0_4 r : Int) (w : World) (h : Zw.f a0_0 a0_1 a0_2 a0_3 a0_4 = some r) :
  Calls Try.prog 34 #[.agg #[.int .i64 a0_0, .int .i64 a0_1, .int .i64 a0_2, .int .i64 a0_3, .int .i64 a0_4]] w fun e w' => e = .returned (.int .i64 r) ∧ Below w.heap.size w w' := by
 have hu83 := Try.underlying83; have HB := Qa.mk (Below.refl w.heap.size w); have H : (some a0_3) = some r := h; clear h; obtain rfl := Option.some.inj H; go_enter Try.func34, Try.ntmps34; go_wp2_with (first | (refine bx 1 #[.int .i64 a0_0, .int .i64 a0_1, .int .i64 a0_2, .int .i64 a0_3, .int .i64 a0_4] 83 ?_; intro gb101 hg w2 BK101 hb; have GW101 := gs HB hg; replace HB := bs HB hb; clear hb hg; obtain ⟨_, _, _, _, _, _, _, _, _, _⟩ := cf5 BK101)); go_ret; exact ⟨eT, pE HB⟩
def Qj.l0 : Nat → Int → List Int → Int → Int → Int → Int → Int → Int → Int → List S83 → Option Int
 | 0, _, _, _, _, _, _, _, _, _, _ => none
 | k + 1, x6, x9, x10, x11, x102000, x102001, x102002, x102003, x102004, x102005 => if x11 < x10 then (if 0 ≤ x11 then (if x11 < (x9.length : Int) then (if x11 < (x102005.length : Int) then ((Zw.f ((Qf x102005 x11).f0.f0) ((Qf x102005 x11).f0.f1) ((Qf x102005 x11).f1) ((Qf x102005 x11).f2) ((Qf x102005 x11).f3)).bind fun t104 => (Qj.l0 k (wrap64 (x6 + (wrap64 ((rd x9 x11) * t104)))) x9 x10 (wrap64 (x11 + 1)) x102000 x102001 x102002 x102003 x102004 x102005)) else (none)) else (none)) else (none)) else (some x6)
def Qj.f (k : Nat) (a0_0 a0_1 a0_2 a0_3 a0_4 : Int) (l0_5 : List S83) (l1 : List Int)  : Option Int := Qj.l0 k 0 l1 (l1.length : Int) 0 a0_0 a0_1 a0_2 a0_3 a0_4 l0_5
theorem Qj.mono_l : ∀ k, (∀ y0 y1 y2 y3 y4 y5 y6 y7 y8 y9, LeO (Qj.l0 k y0 y1 y2 y3 y4 y5 y6 y7 y8 y9) (Qj.l0 (k + 1) y0 y1 y2 y3 y4 y5 y6 y7 y8 y9))
 | 0 => fun _ _ _ _ _ _ _ _ _ _ r h => by simp [Qj.l0] at h
 | k + 1 => by
  have ih0 := Qj.mono_l k
  ·intro y0 y1 y2 y3 y4 y5 y6 y7 y8 y9
   unfold Qj.l0
   repeat' first
   | (with_reducible exact ih0 _ _ _ _ _ _ _ _ _ _)
   | (with_reducible exact LeO.refl _)
   | (with_reducible exact LeO.none _)
   | (with_reducible refine LeO.ite ?_ ?_)
   | (with_reducible refine LeO.bind ?_ (fun _ => ?_))
theorem Qj.mono : ∀ a0 a1 a2 a3 a4 a5 a6 k, LeO (Qj.f k a0 a1 a2 a3 a4 a5 a6) (Qj.f (k + 1) a0 a1 a2 a3 a4 a5 a6) := by
 intro a0 a1 a2 a3 a4 a5 a6 k; have ih0 := Qj.mono_l k; unfold Qj.f
 repeat' first
   | (with_reducible exact ih0 _ _ _ _ _ _ _ _ _ _)
   | (with_reducible exact LeO.refl _)
   | (with_reducible exact LeO.none _)
   | (with_reducible refine LeO.ite ?_ ?_)
   | (with_reducible refine LeO.bind ?_ (fun _ => ?_))
set_option maxHeartbeats 8000000 in
set_option maxRecDepth 100000 in
theorem Qj.calls (k : Nat) (a0_0 a0_1 a0_2 a0_3 a0_4 : Int) (A0_5 : Option Addr) (c0_5 : Nat) (l0_5 : List S83) (A1 : Option Addr) (c1 : Nat) (l1 : List Int)  (r : Int) (w : World) (hr0_5 : Kd.C k83 w A0_5 l0_5.length l0_5) (hc0_5 : l0_5.length ≤ c0_5) (hr1 : Kd.C (Kd.int .i64) w A1 l1.length l1) (hc1 : l1.length ≤ c1) (h : Qj.f k a0_0 a0_1 a0_2 a0_3 a0_4 l0_5 l1 = some r) :
  Calls Try.prog 33 #[.agg #[.int .i64 a0_0, .int .i64 a0_1, .int .i64 a0_2, .int .i64 a0_3, .int .i64 a0_4, .slice A0_5 l0_5.length c0_5], .slice A1 l1.length c1, .func (.func 34) #[] #[]] w fun e w' => e = .returned (.int .i64 r) ∧ Below w.heap.size w w' := by
 have hu75 := Try.underlying75; have hu83 := Try.underlying83; have HR0_5 := Qa.mk hr0_5; have HC0_5 := Qa.mk hc0_5; clear hr0_5 hc0_5; have HR1 := Qa.mk hr1; have HC1 := Qa.mk hc1; clear hr1 hc1; have HB := Qa.mk (Below.refl w.heap.size w); have H : (Qj.l0 k 0 l1 (l1.length : Int) 0 a0_0 a0_1 a0_2 a0_3 a0_4 l0_5) = some r := h; clear h; have H' := Qa.mk H; clear H; go_enter Try.func33, Try.ntmps33; go_wp2_with (first | (refine bx 3 #[.int .i64 a0_0, .int .i64 a0_1, .int .i64 a0_2, .int .i64 a0_3, .int .i64 a0_4, .slice A0_5 l0_5.length c0_5] 75 ?_; intro gb101 hg w4 BK101 hb; have GW101 := gs HB hg; replace HB := bs HB hb; clear hb hg))
 (try simp only [Act.put, List.setIfInBounds_toArray, List.set_cons_zero, List.set_cons_succ])
 go_loopg [6, 11] k (fun kq v6 v11 w' => ∃ (x6_1 : Int) (x11_1 : Int), v6 = .int .i64 x6_1 ∧ v11 = .int .i64 x11_1 ∧ Qa (Qj.l0 kq x6_1 l1 (l1.length : Int) x11_1 a0_0 a0_1 a0_2 a0_3 a0_4 l0_5 = some r) ∧ Qa (kq ≤ k) ∧ Qa (w'.heap[gb101]? = some (.cells #[.int .i64 a0_0, .int .i64 a0_1, .int .i64 a0_2, .int .i64 a0_3, .int .i64 a0_4, (.slice A0_5 l0_5.length c0_5)] 75 (0, 0))) ∧ Qa (Below w.heap.size w w'))
 case atStart => exact ⟨(0), (0), eS, eS, H', ⟨Nat.le_refl _⟩, ⟨pB BK101.out⟩, ⟨pE HB⟩⟩
 case round =>
  clear H'; try clear c1
  try clear p2
  obtain ⟨x6_1, x11_1, rfl, rfl, HA, HK1, BK101, HB⟩ := hrel
  cases gk with
  | zero => exact absurd HA.out (by simp [Qj.l0])
  | succ k1 =>
   have H := HA.out; clear HA; simp only [Qj.l0] at H; by_cases c5 : x11_1 < (l1.length : Int)
   ·rw [if_pos c5] at H
    have c5b0 : decide (x11_1 < (l1.length : Int)) = true := decide_eq_true c5; clear c5; by_cases c6 : 0 ≤ x11_1
    ·rw [if_pos c6] at H
     have c6b0 : decide (0 ≤ x11_1) = true := decide_eq_true c6; clear c6; by_cases c7 : x11_1 < (l1.length : Int)
     ·rw [if_pos c7] at H
      have c7b0 : decide (x11_1 < (l1.length : Int)) = true := decide_eq_true c7; clear c7; by_cases c8 : x11_1 < (l0_5.length : Int)
      ·rw [if_pos c8] at H
       have c8b0 : decide (x11_1 < (l0_5.length : Int)) = true := decide_eq_true c8; clear c8; obtain ⟨t104, A9, H⟩ := bi H; have H' := Qa.mk H; clear H; have p102 : 0 ≤ (x11_1 : Int) := dT; have q102 : x11_1 < (l1.length : Int) := dT; obtain ⟨ad102, e102, hx102_0⟩ := Kd.at_int HR1.out x11_1 p102 q102
       cases e102
       replace hx102_0 := cut_ HB hx102_0; replace p102 := eq_true p102; replace q102 := eq_true q102; obtain ⟨_, _, _, _, _, _, _, _, _, _, _, _⟩ := cf6 BK101; have p103 : 0 ≤ (x11_1 : Int) := dT; have q103 : x11_1 < (l0_5.length : Int) := dT; obtain ⟨ad103, e103, hx103_0, hx103_1, hx103_2, hx103_3, hx103_4⟩ := Zf HR0_5.out x11_1 p103 q103
       cases e103
       replace hx103_0 := cut_ HB hx103_0; replace hx103_1 := cut_ HB hx103_1; replace hx103_2 := cut_ HB hx103_2; replace hx103_3 := cut_ HB hx103_3; replace hx103_4 := cut_ HB hx103_4; replace p103 := eq_true p103; replace q103 := eq_true q103; go_wp2_with (first | (go_at_call 34; (with_reducible refine (Zw.calls ((Qf l0_5 x11_1).f0.f0) ((Qf l0_5 x11_1).f0.f1) ((Qf l0_5 x11_1).f1) ((Qf l0_5 x11_1).f2) ((Qf l0_5 x11_1).f3) t104 _ A9.out).mono ?_); rintro e w11 ⟨rfl, hb⟩; replace BK101 := bb BK101 hb; replace HB := bs HB hb; (try clear hb); (try clear hb2); (try clear hk); (try clear hi)))
       go_roundg k1
       case measure => have := HK1.out; omega
       case rel => exact ⟨(wrap64 (x6_1 + (wrap64 ((rd l1 x11_1) * t104)))), (wrap64 (x11_1 + 1)), eS, eS, H', ⟨by have := HK1.out; omega⟩, ⟨pB BK101.out⟩, ⟨pE HB⟩⟩
      ·rw [if_neg c8] at H
       exact absurd H (by simp)
     ·rw [if_neg c7] at H
      exact absurd H (by simp)
    ·rw [if_neg c6] at H
     exact absurd H (by simp)
   ·rw [if_neg c5] at H
    have c5b0 : decide (x11_1 < (l1.length : Int)) = false := decide_eq_false c5; clear c5; obtain rfl := Option.some.inj H; go_wp2; go_ret; exact ⟨eT, pE HB⟩
def Q0.f (k : Nat) (l0 : List S83) (a1_0 a1_1 a1_2 a1_3 a1_4 : Int) (l2 : List Int) : Option (Bool × Bool × Bool × Int) := (QJ.f k l0 a1_0 a1_1 a1_2 a1_3 a1_4 l2).bind fun bt102 => (if bt102.2.2.2.2.2.2 = 0 then ((QS.f k bt102.1 bt102.2.1 bt102.2.2.1 bt102.2.2.2.1 bt102.2.2.2.2.1 bt102.2.2.2.2.2.1 l2).bind fun bt112 => ((Qj.f k bt102.1 bt102.2.1 bt102.2.2.1 bt102.2.2.2.1 bt102.2.2.2.2.1 bt102.2.2.2.2.2.1 l2).bind fun t115 => (some (decide (bt112.1 ≥ 0), decide (bt112.2 ≥ 0), decide (t115 > a1_4), 0)))) else (some (false, false, false, bt102.2.2.2.2.2.2)))
theorem Q0.mono : ∀ a0 a1 a2 a3 a4 a5 a6 k, LeO (Q0.f k a0 a1 a2 a3 a4 a5 a6) (Q0.f (k + 1) a0 a1 a2 a3 a4 a5 a6) := by
 intro a0 a1 a2 a3 a4 a5 a6 k; unfold Q0.f
 repeat' first
   | (with_reducible exact QS.mono _ _ _ _ _ _ _ _)
   | (with_reducible exact Qj.mono _ _ _ _ _ _ _ _)
   | (with_reducible exact QJ.mono _ _ _ _ _ _ _ _)
   | (with_reducible exact LeO.refl _)
   | (with_reducible exact LeO.none _)
   | (with_reducible refine LeO.ite ?_ ?_)
   | (with_reducible refine LeO.bind ?_ (fun _ => ?_))
def Q0.T5 : Bool × List (List Nat × List Nat) := (true, [([], []), ([0], [0]), ([1], [1]), ([], []), ([3], [3]), ([4], [4]), ([], []), ([], []), ([6, 7], [6, 7]), ([], []), ([9], [9]), ([8, 10], [8, 10]), ([2, 8, 0, 1, 2], [2]), ([5, 12, 0, 1, 2, 3, 4, 5, 12], [5]), ([11, 13, 0, 1, 2, 3, 4, 5, 6, 7, 8, 9, 10, 11, 12, 13], [11]), ([14, 0, 1, 2, 3, 4, 5, 6, 7, 8, 9, 10, 11, 12, 13, 14], [])])
def Q0.B5 : List Nat := [0, 1, 3, 0, 8, 24, 0, 0, 192, 0, 512, 1984, 455, 4607, 16383, 32767]
theorem Q0.tab5 : rtab .any (ZG Try.f13 5) = Q0.T5 := by kernel_rfl
theorem Q0.bits5 : J0 Q0.T5.2 Q0.B5 = true := by kernel_rfl
set_option maxHeartbeats 8000000 in
set_option maxRecDepth 100000 in
theorem Q0.calls (k : Nat) (A0 : Option Addr) (c0 : Nat) (l0 : List S83) (a1_0 a1_1 a1_2 a1_3 a1_4 : Int) (A2 : Option Addr) (c2 : Nat) (l2 : List Int) (r1 : Bool) (r2 : Bool) (r3 : Bool) (r4 : Int) (w : World) (hr0 : Kd.C k83 w A0 l0.length l0) (hc0 : l0.length ≤ c0) (hr2 : Kd.C (Kd.int .i64) w A2 l2.length l2) (hc2 : l2.length ≤ c2) (h : Q0.f k l0 a1_0 a1_1 a1_2 a1_3 a1_4 l2 = some (r1, r2, r3, r4)) :
  Calls Try.prog 13 #[.slice A0 l0.length c0, .agg #[.int .i64 a1_0, .int .i64 a1_1, .int .i64 a1_2, .int .i64 a1_3, .int .i64 a1_4], .slice A2 l2.length c2] w fun e w' => e = .returned (.tuple #[.bool r1, .bool r2, .bool r3, .int .i64 r4]) ∧ Below w.heap.size w w' := by
 have hu40 := Try.underlying40; have hu75 := Try.underlying75; have hu36 := Try.underlying36; have HR0 := Qa.mk hr0; have HC0 := Qa.mk hc0; clear hr0 hc0; have HR2 := Qa.mk hr2; have HC2 := Qa.mk hc2; clear hr2 hc2; have HB := Qa.mk (Below.refl w.heap.size w); have H : ((QJ.f k l0 a1_0 a1_1 a1_2 a1_3 a1_4 l2).bind fun bt102 => (if bt102.2.2.2.2.2.2 = 0 then ((QS.f k bt102.1 bt102.2.1 bt102.2.2.1 bt102.2.2.2.1 bt102.2.2.2.2.1 bt102.2.2.2.2.2.1 l2).bind fun bt112 => ((Qj.f k bt102.1 bt102.2.1 bt102.2.2.1 bt102.2.2.2.1 bt102.2.2.2.2.1 bt102.2.2.2.2.2.1 l2).bind fun t115 => (some (decide (bt112.1 ≥ 0), decide (bt112.2 ≥ 0), decide (t115 > a1_4), 0)))) else (some (false, false, false, bt102.2.2.2.2.2.2)))) = some (r1, r2, r3, r4) := h; clear h; obtain ⟨⟨t102, t103, t104, t105, t106, t107, t110⟩, A4, H⟩ := bi H; by_cases c5 : t110 = 0
 ·rw [if_pos c5] at H
  have c5b0 : (t110 == 0) = true := beq_iff_eq.mpr c5; have c5b1 : (t110 != 0) = false := bne_eq_false_iff_eq.mpr c5; clear c5; obtain ⟨⟨t112, t113⟩, A6, H⟩ := bi H; obtain ⟨t115, A7, H⟩ := bi H; simp only [Option.some.injEq, Prod.mk.injEq] at H; obtain ⟨rfl, rfl, rfl, rfl⟩ := H; go_enter Try.func13, Try.ntmps13
  try go_wp2_with (first | (refine bx 4 #[.int .i64 a1_0, .int .i64 a1_1, .int .i64 a1_2, .int .i64 a1_3, .int .i64 a1_4] 40 ?_; intro gb101 hg w8 BK101 hb; have GW101 := gs HB hg; replace HB := bs HB hb; clear hb hg; obtain ⟨_, _, _, _, _, _, _, _, _, _⟩ := cf5 BK101) | ((with_reducible refine gc 31 rfl ?_); refine gL 16 Try.func31 #[.slice A0 l0.length c0, .agg #[.int .i64 a1_0, .int .i64 a1_1, .int .i64 a1_2, .int .i64 a1_3, .int .i64 a1_4], .slice A2 l2.length c2] ?_; (with_reducible refine (QJ.calls k (fun k_ => k_ < w.heap.size) _ _ l0 a1_0 a1_1 a1_2 a1_3 a1_4 _ _ l2 t102 t103 t104 t105 t106 t107 t110 _ ?side1 ?side2 ?side3 A4.out).mono ?_); (case side1 => exact Kd.V_mk HC0.out (Kd.F_below (Kd.C_F JT HR0.out) (pE HB))); (case side2 => exact pC (Kd.C_below HR2.out HB.out)); (case side3 => exact HC2.out); rintro e w10 ⟨v108, rfl, ho0, hb⟩; refine ⟨_, rfl, ?_⟩; have HO109 := Qa.mk (Kd.V_lower (Kd.V_mono (ok' := fun k_ => k_ ≠ gb101) ho0 (fun k_ hk_ => Or.elim hk_ (fun hs_ => fun e_ => Nat.not_le.2 hs_ (by rw [e_]; exact GW101.out)) (fun hn_ => (Kd.freshB (g := gb101) (o := .cells #[.int .i64 a1_0, .int .i64 a1_1, .int .i64 a1_2, .int .i64 a1_3, .int .i64 a1_4] 40 (0, 0)) (pB BK101.out) k_ hn_)))) (Qr (pE HB))); replace BK101 := bb BK101 hb; replace HB := bs HB hb; clear hb ho0) | (refine bx 10 #[.int .i64 0, .int .i64 0, .int .i64 0, .int .i64 0, .int .i64 0, .slice none 0 0] 75 ?_; intro gb111 hg w11 hbox hb; replace HO109 := ve HO109 hg hb; have BK111 := hbox; have GW111 := gs HB hg; replace HB := bs HB hb; have NB101_111 := nl BK101 hg; have NB111_101 := nr BK101 hg; replace BK101 := bb BK101 hb; clear hb hg; have hnb12 := NB111_101.out; have hnc12 := NB101_111.out; obtain ⟨_, _, _, _, _, _, _, _, _, _, _, _⟩ := cf6 BK111; obtain ⟨Ao14, co14, eo14⟩ := Kd.V_slice HO109.out; subst eo14) | ((with_reducible refine gc 32 rfl ?_); refine gL 24 Try.func32 #[.agg #[.int .i64 t102, .int .i64 t103, .int .i64 t104, .int .i64 t105, .int .i64 t106, .slice Ao14 t107.length co14], .slice A2 l2.length c2] ?_; (with_reducible refine (QS.calls k t102 t103 t104 t105 t106 _ _ t107 _ _ l2 t112 t113 _ ?side1 ?side2 ?side3 ?side4 A6.out).mono ?_); (case side1 => refine (Kd.V_reads' (e := 83) (base := w.heap.size) (ok := fun k_ => (k_ ≠ gb101 ∧ k_ ≠ gb111)) (n := t107.length) (c := co14) ?_).2.2; exact (by refine pV ?_; exact (Kd.V_mono (Vf6 (g := gb111) (Kd.V_mono HO109.out (fun k_ hk => (⟨hk, hk.2⟩ : _ ∧ k_ ≠ gb111)))) (fun _ h_ => h_.1)))); (case side2 => exact (Kd.V_reads' HO109.out).2.1); (case side3 => exact Kd.C_below HR2.out (pE HB)); (case side4 => exact HC2.out); rintro e w15 ⟨rfl, hb⟩; refine ⟨_, rfl, ?_⟩; replace HO109 := Qa.mk (Kd.V_below (by refine pV ?_; exact (Kd.V_mono (Vf6 (g := gb111) (Kd.V_mono HO109.out (fun k_ hk => (⟨hk, hk.2⟩ : _ ∧ k_ ≠ gb111)))) (fun _ h_ => h_.1))) hb); replace BK101 := bf BK101 hb; replace BK111 := Qa.mk (QX (g := gb111) (o := .cells #[.int .i64 t102, .int .i64 t103, .int .i64 t104, .int .i64 t105, .int .i64 t106, .slice Ao14 t107.length co14] 75 (0, 0)) (by refine pB ?_; refine Qg (cs := #[.int .i64 t102, .int .i64 t103, .int .i64 t104, .int .i64 t105, .int .i64 t106, .slice none 0 0]) ?_ 5 _ rfl; refine pB ?_; refine Qg (cs := #[.int .i64 t102, .int .i64 t103, .int .i64 t104, .int .i64 t105, .int .i64 0, .slice none 0 0]) ?_ 4 _ rfl; refine pB ?_; refine Qg (cs := #[.int .i64 t102, .int .i64 t103, .int .i64 t104, .int .i64 0, .int .i64 0, .slice none 0 0]) ?_ 3 _ rfl; refine pB ?_; refine Qg (cs := #[.int .i64 t102, .int .i64 t103, .int .i64 0, .int .i64 0, .int .i64 0, .slice none 0 0]) ?_ 2 _ rfl; refine pB ?_; refine Qg (cs := #[.int .i64 t102, .int .i64 0, .int .i64 0, .int .i64 0, .int .i64 0, .slice none 0 0]) ?_ 1 _ rfl; refine pB ?_; refine Qg (cs := #[.int .i64 0, .int .i64 0, .int .i64 0, .int .i64 0, .int .i64 0, .slice none 0 0]) ?_ 0 _ rfl; (with_reducible repeat (first | refine Qt ?_ _ | refine Qh ?_ | refine blk_alloc ?_ _)); exact BK111.out) hb); replace HB := bs HB hb; clear hb) | (refine bx 11 #[.int .i64 0, .int .i64 0] 36 ?_; intro gb114 hg w16 hbox hb; replace HO109 := ve HO109 hg hb; have BK114 := hbox; have GW114 := gs HB hg; replace HB := bs HB hb; have NB101_114 := nl BK101 hg; have NB114_101 := nr BK101 hg; replace BK101 := bb BK101 hb; have NB111_114 := nl BK111 hg; have NB114_111 := nr BK111 hg; replace BK111 := bb BK111 hb; clear hb hg; have hnb17 := NB114_101.out; have hnc17 := NB101_114.out; have hnb18 := NB114_111.out; have hnc18 := NB111_114.out; obtain ⟨_, _, _, _⟩ := cf2 BK114))
  have n0_ : Qa (Kd.V k83 83 ((w16.setCell ⟨gb114, 0, none⟩ (.int .i64 t112)).setCell ⟨gb114, 1, none⟩ (.int .i64 t113)) w.heap.size (fun k_ => k_ ≠ gb101 ∧ k_ ≠ gb111 ∧ k_ ≠ gb114) (.slice Ao14 t107.length co14) t107) := ⟨by (with_reducible repeat (first | apply Kd.V_alloc | apply Kd.V_drewN | apply Kd.V_drew)); exact Kd.V_mono (Vf2 (g := gb114) (Kd.V_mono HO109.out (fun k_ hk => (⟨hk, hk.2⟩ : _ ∧ k_ ≠ gb114)))) (fun _ hk => ⟨hk.1.1.1, ⟨hk.1.1.2, hk.1.2⟩⟩)⟩; have n1_ : Qa (((w16.setCell ⟨gb114, 0, none⟩ (.int .i64 t112)).setCell ⟨gb114, 1, none⟩ (.int .i64 t113)).heap[gb101]? = some (.cells #[.int .i64 a1_0, .int .i64 a1_1, .int .i64 a1_2, .int .i64 a1_3, .int .i64 a1_4] 40 (0, 0))) := ⟨pF BK101⟩; have n2_ : Qa (((w16.setCell ⟨gb114, 0, none⟩ (.int .i64 t112)).setCell ⟨gb114, 1, none⟩ (.int .i64 t113)).heap[gb111]? = some (.cells #[.int .i64 t102, .int .i64 t103, .int .i64 t104, .int .i64 t105, .int .i64 t106, .slice Ao14 t107.length co14] 75 (0, 0))) := ⟨pF BK111⟩; have n3_ : Qa (((w16.setCell ⟨gb114, 0, none⟩ (.int .i64 t112)).setCell ⟨gb114, 1, none⟩ (.int .i64 t113)).heap[gb114]? = some (.cells #[.int .i64 t112, .int .i64 t113] 36 (0, 0))) := ⟨by refine pB ?_; refine Qg (cs := #[.int .i64 t112, .int .i64 0]) ?_ 1 _ rfl; refine pB ?_; refine Qg (cs := #[.int .i64 0, .int .i64 0]) ?_ 0 _ rfl; (with_reducible repeat (first | refine Qt ?_ _ | refine Qh ?_ | refine blk_alloc ?_ _)); exact BK114.out⟩; have n4_ : Qa (Below w.heap.size w ((w16.setCell ⟨gb114, 0, none⟩ (.int .i64 t112)).setCell ⟨gb114, 1, none⟩ (.int .i64 t113))) := ⟨pE HB⟩
  (try clear HO109)
  (try clear BK101)
  (try clear BK111)
  (try clear BK114)
  (try clear HB)
  generalize ((w16.setCell ⟨gb114, 0, none⟩ (.int .i64 t112)).setCell ⟨gb114, 1, none⟩ (.int .i64 t113)) = w20 at n0_ n1_ n2_ n3_ n4_ ⊢; have HO109 := n0_; have BK101 := n1_; have BK111 := n2_; have BK114 := n3_; have HB := n4_; clear n0_ n1_ n2_ n3_ n4_; replace HO109 := Qa.mk (Kd.V_drew HO109.out); replace BK101 := Qa.mk (Qh BK101.out); replace BK111 := Qa.mk (Qh BK111.out); replace BK114 := Qa.mk (Qh BK114.out); replace HB := Qa.mk (QM HB.out); refine JS (n := 16) (S := fun w' => w'.cell? ⟨gb114, 0, none⟩ = some (.int .i64 t112) ∧ w'.cell? ⟨gb114, 1, none⟩ = some (.int .i64 t113) ∧ w'.cell? ⟨gb111, 0, none⟩ = some (.int .i64 t102) ∧ w'.cell? ⟨gb111, 1, none⟩ = some (.int .i64 t103) ∧ w'.cell? ⟨gb111, 2, none⟩ = some (.int .i64 t104) ∧ w'.cell? ⟨gb111, 3, none⟩ = some (.int .i64 t105) ∧ w'.cell? ⟨gb111, 4, none⟩ = some (.int .i64 t106) ∧ w'.cell? ⟨gb111, 5, none⟩ = some (.slice Ao14 t107.length co14) ∧ w'.cell? ⟨gb101, 0, none⟩ = some (.int .i64 a1_0) ∧ w'.cell? ⟨gb101, 1, none⟩ = some (.int .i64 a1_1) ∧ w'.cell? ⟨gb101, 2, none⟩ = some (.int .i64 a1_2) ∧ w'.cell? ⟨gb101, 3, none⟩ = some (.int .i64 a1_3) ∧ w'.cell? ⟨gb101, 4, none⟩ = some (.int .i64 a1_4)) (ds := []) #[false, false, false, false, false, false, false, false, false, false, false, false, false, false, false, false] (by kernel_rfl) rfl rfl ⟨cz0 BK114, cz1 BK114, cz0 BK111, cz1 BK111, cz2 BK111, cz3 BK111, cz4 BK111, cz5 BK111, cz0 BK101, cz1 BK101, cz2 BK101, cz3 BK101, cz4 BK101⟩ (fun hHeld => ?_); refine Jk Q0.tab5 Q0.bits5 (fun HT_ HW_ => ?_); generalize w20.drew = w21 at HO109 BK101 BK111 BK114 HB hHeld ⊢; refine pu 0 25 ?_; refine pu 3 28 ?_; refine pu 7 32 ?_; refine pu 9 34 ?_; refine tk 1 26 hHeld ?_; refine pu 2 27 ?_; refine tk 4 29 hHeld ?_; refine pu 5 30 ?_; refine tk 6 31 hHeld ?_; refine tk 10 35 hHeld ?_; refine on 8 (fun K hK => ?_); refine gO Try.func33 #[.agg #[.int .i64 t102, .int .i64 t103, .int .i64 t104, .int .i64 t105, .int .i64 t106, .slice Ao14 t107.length co14], .slice A2 l2.length c2, .func (.func 34) #[] #[]] ?_
  with_reducible refine (Qj.calls k t102 t103 t104 t105 t106 _ _ t107 _ _ l2  t115 _ ?side1 ?side2 ?side3 ?side4 A7.out).mono ?_
  (case side1 => exact pC (Kd.V_reads' HO109.out).2.2)
  (case side2 => exact (Kd.V_reads' HO109.out).2.1)
  (case side3 => exact pC (Kd.C_below HR2.out HB.out))
  (case side4 => exact HC2.out)
  rintro e w22 ⟨rfl, hb⟩; refine ⟨_, rfl, ?_⟩; replace HO109 := vb HO109 hb; replace BK101 := bb BK101 hb; replace BK111 := bb BK111 hb; replace BK114 := bb BK114 hb; replace HB := bs HB hb
  (try clear hb)
  (try clear hb2)
  (try clear hk)
  (try clear hi)
  refine hK.out _ _ ⟨cz0 BK114, cz1 BK114, cz0 BK111, cz1 BK111, cz2 BK111, cz3 BK111, cz4 BK111, cz5 BK111, cz0 BK101, cz1 BK101, cz2 BK101, cz3 BK101, cz4 BK101⟩ (fun hHeld => ?_); clear hK K; refine QY (a' := ?_) ?_ ?_
  rotate_left
  ·show Act.put _ (some 33) _ = _
   simp only [Act.put, List.setIfInBounds_toArray, List.set_cons_zero, List.set_cons_succ, QR, QU]; rfl
  refine pu 11 36 ?_; refine pu 12 6 ?_; refine pu 13 7 ?_; refine pu 14 8 ?_; refine pu 15 9 ?_; refine JD (JM HT_.out (by kernel_rfl)) ?_
  try go_wp2
  refine bodyPost_ret (Xe (rs := [.tmp 6, .tmp 7, .tmp 8, .tmp 9]) rfl (by simp) (.tmp (.tmp (.tmp (.tmp .nil))))) rfl ?_; exact ⟨eT, pE HB⟩
 ·rw [if_neg c5] at H
  have c5b0 : (t110 == 0) = false := beq_eq_false_iff_ne.mpr c5; have c5b1 : (t110 != 0) = true := bne_iff_ne.mpr c5; simp only [Option.some.injEq, Prod.mk.injEq] at H; obtain ⟨rfl, rfl, rfl, rfl⟩ := H; go_enter Try.func13, Try.ntmps13; go_wp2_with (first | (refine bx 4 #[.int .i64 a1_0, .int .i64 a1_1, .int .i64 a1_2, .int .i64 a1_3, .int .i64 a1_4] 40 ?_; intro gb101 hg w23 BK101 hb; have GW101 := gs HB hg; replace HB := bs HB hb; clear hb hg; obtain ⟨_, _, _, _, _, _, _, _, _, _⟩ := cf5 BK101) | ((with_reducible refine gc 31 rfl ?_); refine gL 16 Try.func31 #[.slice A0 l0.length c0, .agg #[.int .i64 a1_0, .int .i64 a1_1, .int .i64 a1_2, .int .i64 a1_3, .int .i64 a1_4], .slice A2 l2.length c2] ?_; (with_reducible refine (QJ.calls k (fun k_ => k_ < w.heap.size) _ _ l0 a1_0 a1_1 a1_2 a1_3 a1_4 _ _ l2 t102 t103 t104 t105 t106 t107 t110 _ ?side1 ?side2 ?side3 A4.out).mono ?_); (case side1 => exact Kd.V_mk HC0.out (Kd.F_below (Kd.C_F JT HR0.out) (pE HB))); (case side2 => exact pC (Kd.C_below HR2.out HB.out)); (case side3 => exact HC2.out); rintro e w25 ⟨v108, rfl, ho0, hb⟩; refine ⟨_, rfl, ?_⟩; have HO109 := Qa.mk (Kd.V_lower (Kd.V_mono (ok' := fun k_ => k_ ≠ gb101) ho0 (fun k_ hk_ => Or.elim hk_ (fun hs_ => fun e_ => Nat.not_le.2 hs_ (by rw [e_]; exact GW101.out)) (fun hn_ => (Kd.freshB (g := gb101) (o := .cells #[.int .i64 a1_0, .int .i64 a1_1, .int .i64 a1_2, .int .i64 a1_3, .int .i64 a1_4] 40 (0, 0)) (pB BK101.out) k_ hn_)))) (Qr (pE HB))); replace BK101 := bb BK101 hb; replace HB := bs HB hb; clear hb ho0) | (refine bx 10 #[.int .i64 0, .int .i64 0, .int .i64 0, .int .i64 0, .int .i64 0, .slice none 0 0] 75 ?_; intro gb111 hg w26 hbox hb; replace HO109 := ve HO109 hg hb; have BK111 := hbox; have GW111 := gs HB hg; replace HB := bs HB hb; have NB101_111 := nl BK101 hg; have NB111_101 := nr BK101 hg; replace BK101 := bb BK101 hb; clear hb hg; have hnb27 := NB111_101.out; have hnc27 := NB101_111.out; obtain ⟨_, _, _, _, _, _, _, _, _, _, _, _⟩ := cf6 BK111; obtain ⟨Ao29, co29, eo29⟩ := Kd.V_slice HO109.out; subst eo29)); refine bodyPost_ret (Xe (rs := [.tmp 6, .tmp 7, .tmp 8, .tmp 9]) rfl (by simp) (.tmp (.tmp (.tmp (.tmp .nil))))) rfl ?_; exact ⟨eT, pE HB⟩
def JE.f (k : Nat) (l0 : List S83) (a1_0 a1_1 a1_2 a1_3 a1_4 : Int) (l2 : List Int) : Option (Int × Int × Int) := (QJ.f k l0 a1_0 a1_1 a1_2 a1_3 a1_4 l2).bind fun bt103 => (if bt103.2.2.2.2.2.2 = 0 then ((QS.f k bt103.1 bt103.2.1 bt103.2.2.1 bt103.2.2.2.1 bt103.2.2.2.2.1 bt103.2.2.2.2.2.1 l2).bind fun bt113 => (some (bt113.1, bt113.2, 0))) else (some (0, 0, bt103.2.2.2.2.2.2)))
theorem JE.mono : ∀ a0 a1 a2 a3 a4 a5 a6 k, LeO (JE.f k a0 a1 a2 a3 a4 a5 a6) (JE.f (k + 1) a0 a1 a2 a3 a4 a5 a6) := by
 intro a0 a1 a2 a3 a4 a5 a6 k; unfold JE.f
 repeat' first
   | (with_reducible exact QS.mono _ _ _ _ _ _ _ _)
   | (with_reducible exact QJ.mono _ _ _ _ _ _ _ _)
   | (with_reducible exact LeO.refl _)
   | (with_reducible exact LeO.none _)
   | (with_reducible refine LeO.ite ?_ ?_)
   | (with_reducible refine LeO.bind ?_ (fun _ => ?_))
set_option maxHeartbeats 8000000 in
set_option maxRecDepth 100000 in
theorem JE.calls (k : Nat) (A0 : Option Addr) (c0 : Nat) (l0 : List S83) (a1_0 a1_1 a1_2 a1_3 a1_4 : Int) (A2 : Option Addr) (c2 : Nat) (l2 : List Int) (r1 r2 r3 : Int) (w : World) (hr0 : Kd.C k83 w A0 l0.length l0) (hc0 : l0.length ≤ c0) (hr2 : Kd.C (Kd.int .i64) w A2 l2.length l2) (hc2 : l2.length ≤ c2) (h : JE.f k l0 a1_0 a1_1 a1_2 a1_3 a1_4 l2 = some (r1, r2, r3)) :
  Calls Try.prog 15 #[.slice A0 l0.length c0, .agg #[.int .i64 a1_0, .int .i64 a1_1, .int .i64 a1_2, .int .i64 a1_3, .int .i64 a1_4], .slice A2 l2.length c2] w fun e w' => e = .returned (.tuple #[.agg #[.int .i64 r1, .int .i64 r2], .int .i64 r3]) ∧ Below w.heap.size w w' := by
 have hu40 := Try.underlying40; have hu36 := Try.underlying36; have hu75 := Try.underlying75; have HR0 := Qa.mk hr0; have HC0 := Qa.mk hc0; clear hr0 hc0; have HR2 := Qa.mk hr2; have HC2 := Qa.mk hc2; clear hr2 hc2; have HB := Qa.mk (Below.refl w.heap.size w); have H : ((QJ.f k l0 a1_0 a1_1 a1_2 a1_3 a1_4 l2).bind fun bt103 => (if bt103.2.2.2.2.2.2 = 0 then ((QS.f k bt103.1 bt103.2.1 bt103.2.2.1 bt103.2.2.2.1 bt103.2.2.2.2.1 bt103.2.2.2.2.2.1 l2).bind fun bt113 => (some (bt113.1, bt113.2, 0))) else (some (0, 0, bt103.2.2.2.2.2.2)))) = some (r1, r2, r3) := h; clear h; obtain ⟨⟨t103, t104, t105, t106, t107, t108, t111⟩, A4, H⟩ := bi H; by_cases c5 : t111 = 0
 ·rw [if_pos c5] at H
  have c5b0 : (t111 == 0) = true := beq_iff_eq.mpr c5; have c5b1 : (t111 != 0) = false := bne_eq_false_iff_eq.mpr c5; clear c5; obtain ⟨⟨t113, t114⟩, A6, H⟩ := bi H; simp only [Option.some.injEq, Prod.mk.injEq] at H; obtain ⟨rfl, rfl, rfl⟩ := H; go_enter Try.func15, Try.ntmps15; go_wp2_with (first | (refine bx 4 #[.int .i64 a1_0, .int .i64 a1_1, .int .i64 a1_2, .int .i64 a1_3, .int .i64 a1_4] 40 ?_; intro gb101 hg w7 BK101 hb; have GW101 := gs HB hg; replace HB := bs HB hb; clear hb hg) | (refine bx 6 #[.int .i64 0, .int .i64 0] 36 ?_; intro gb102 hg w8 BK102 hb; have GW102 := gs HB hg; replace HB := bs HB hb; have NB101_102 := nl BK101 hg; have NB102_101 := nr BK101 hg; replace BK101 := bb BK101 hb; clear hb hg; have hnb9 := NB101_102.out; have hnc9 := NB102_101.out; obtain ⟨_, _, _, _, _, _, _, _, _, _⟩ := cf5 BK101) | ((with_reducible refine gc 31 rfl ?_); refine gL 14 Try.func31 #[.slice A0 l0.length c0, .agg #[.int .i64 a1_0, .int .i64 a1_1, .int .i64 a1_2, .int .i64 a1_3, .int .i64 a1_4], .slice A2 l2.length c2] ?_; (with_reducible refine (QJ.calls k (fun k_ => k_ < w.heap.size) _ _ l0 a1_0 a1_1 a1_2 a1_3 a1_4 _ _ l2 t103 t104 t105 t106 t107 t108 t111 _ ?side1 ?side2 ?side3 A4.out).mono ?_); (case side1 => exact Kd.V_mk HC0.out (Kd.F_below (Kd.C_F JT HR0.out) (pE HB))); (case side2 => exact pC (Kd.C_below HR2.out HB.out)); (case side3 => exact HC2.out); rintro e w11 ⟨v109, rfl, ho0, hb⟩; refine ⟨_, rfl, ?_⟩; have HO110 := Qa.mk (Kd.V_lower (Kd.V_mono (ok' := fun k_ => k_ ≠ gb101 ∧ k_ ≠ gb102) ho0 (fun k_ hk_ => ⟨Or.elim hk_ (fun hs_ => fun e_ => Nat.not_le.2 hs_ (by rw [e_]; exact GW101.out)) (fun hn_ => (Kd.freshB (g := gb101) (o := .cells #[.int .i64 a1_0, .int .i64 a1_1, .int .i64 a1_2, .int .i64 a1_3, .int .i64 a1_4] 40 (0, 0)) (pB BK101.out) k_ hn_)), Or.elim hk_ (fun hs_ => fun e_ => Nat.not_le.2 hs_ (by rw [e_]; exact GW102.out)) (fun hn_ => (Kd.freshB (g := gb102) (o := .cells #[.int .i64 0, .int .i64 0] 36 (0, 0)) (pB BK102.out) k_ hn_))⟩)) (Qr (pE HB))); replace BK101 := bb BK101 hb; replace BK102 := bb BK102 hb; replace HB := bs HB hb; clear hb ho0) | (refine bx 8 #[.int .i64 0, .int .i64 0, .int .i64 0, .int .i64 0, .int .i64 0, .slice none 0 0] 75 ?_; intro gb112 hg w12 hbox hb; replace HO110 := ve HO110 hg hb; have BK112 := hbox; have GW112 := gs HB hg; replace HB := bs HB hb; have NB101_112 := nl BK101 hg; have NB112_101 := nr BK101 hg; replace BK101 := bb BK101 hb; have NB102_112 := nl BK102 hg; have NB112_102 := nr BK102 hg; replace BK102 := bb BK102 hb; clear hb hg; have hnb13 := NB112_101.out; have hnc13 := NB101_112.out; have hnb14 := NB112_102.out; have hnc14 := NB102_112.out; obtain ⟨_, _, _, _, _, _, _, _, _, _, _, _⟩ := cf6 BK112; obtain ⟨Ao16, co16, eo16⟩ := Kd.V_slice HO110.out; subst eo16) | ((with_reducible refine gc 32 rfl ?_); refine gL 23 Try.func32 #[.agg #[.int .i64 t103, .int .i64 t104, .int .i64 t105, .int .i64 t106, .int .i64 t107, .slice Ao16 t108.length co16], .slice A2 l2.length c2] ?_; (with_reducible refine (QS.calls k t103 t104 t105 t106 t107 _ _ t108 _ _ l2 t113 t114 _ ?side1 ?side2 ?side3 ?side4 A6.out).mono ?_); (case side1 => refine (Kd.V_reads' (e := 83) (base := w.heap.size) (ok := fun k_ => ((k_ ≠ gb101 ∧ k_ ≠ gb102) ∧ k_ ≠ gb112)) (n := t108.length) (c := co16) ?_).2.2; exact (by refine pV ?_; exact (Kd.V_mono (Vf6 (g := gb112) (Kd.V_mono HO110.out (fun k_ hk => (⟨hk, hk.2⟩ : _ ∧ k_ ≠ gb112)))) (fun _ h_ => h_.1)))); (case side2 => exact (Kd.V_reads' HO110.out).2.1); (case side3 => exact Kd.C_below HR2.out (pE HB)); (case side4 => exact HC2.out); rintro e w17 ⟨rfl, hb⟩; refine ⟨_, rfl, ?_⟩; replace HO110 := Qa.mk (Kd.V_below (by refine pV ?_; exact (Kd.V_mono (Vf6 (g := gb112) (Kd.V_mono HO110.out (fun k_ hk => (⟨hk, hk.2⟩ : _ ∧ k_ ≠ gb112)))) (fun _ h_ => h_.1))) hb); replace BK101 := bf BK101 hb; replace BK102 := bf BK102 hb; replace BK112 := Qa.mk (QX (g := gb112) (o := .cells #[.int .i64 t103, .int .i64 t104, .int .i64 t105, .int .i64 t106, .int .i64 t107, .slice Ao16 t108.length co16] 75 (0, 0)) (by refine pB ?_; refine Qg (cs := #[.int .i64 t103, .int .i64 t104, .int .i64 t105, .int .i64 t106, .int .i64 t107, .slice none 0 0]) ?_ 5 _ rfl; refine pB ?_; refine Qg (cs := #[.int .i64 t103, .int .i64 t104, .int .i64 t105, .int .i64 t106, .int .i64 0, .slice none 0 0]) ?_ 4 _ rfl; refine pB ?_; refine Qg (cs := #[.int .i64 t103, .int .i64 t104, .int .i64 t105, .int .i64 0, .int .i64 0, .slice none 0 0]) ?_ 3 _ rfl; refine pB ?_; refine Qg (cs := #[.int .i64 t103, .int .i64 t104, .int .i64 0, .int .i64 0, .int .i64 0, .slice none 0 0]) ?_ 2 _ rfl; refine pB ?_; refine Qg (cs := #[.int .i64 t103, .int .i64 0, .int .i64 0, .int .i64 0, .int .i64 0, .slice none 0 0]) ?_ 1 _ rfl; refine pB ?_; refine Qg (cs := #[.int .i64 0, .int .i64 0, .int .i64 0, .int .i64 0, .int .i64 0, .slice none 0 0]) ?_ 0 _ rfl; (with_reducible repeat (first | refine Qt ?_ _ | refine Qh ?_ | refine blk_alloc ?_ _)); exact BK112.out) hb); replace HB := bs HB hb; clear hb; obtain ⟨_, _, _, _⟩ := cf2 BK102)); refine bodyPost_ret (JL rfl _ _ gb102 36 #[.int .i64 t113, .int .i64 t114] (0, 0) _ rfl (by refine pB ?_; refine Qg (cs := #[.int .i64 t113, .int .i64 0]) ?_ 1 _ rfl; refine pB ?_; refine Qg (cs := #[.int .i64 0, .int .i64 0]) ?_ 0 _ rfl; (with_reducible repeat (first | refine Qt ?_ _ | refine Qh ?_ | refine blk_alloc ?_ _)); exact BK102.out) Try.underlying36 rfl (by kernel_rfl)) rfl ?_; exact ⟨eT, pE HB⟩
 ·rw [if_neg c5] at H
  have c5b0 : (t111 == 0) = false := beq_eq_false_iff_ne.mpr c5; have c5b1 : (t111 != 0) = true := bne_iff_ne.mpr c5; simp only [Option.some.injEq, Prod.mk.injEq] at H; obtain ⟨rfl, rfl, rfl⟩ := H; go_enter Try.func15, Try.ntmps15; go_wp2_with (first | (refine bx 4 #[.int .i64 a1_0, .int .i64 a1_1, .int .i64 a1_2, .int .i64 a1_3, .int .i64 a1_4] 40 ?_; intro gb101 hg w19 BK101 hb; have GW101 := gs HB hg; replace HB := bs HB hb; clear hb hg) | (refine bx 6 #[.int .i64 0, .int .i64 0] 36 ?_; intro gb102 hg w20 BK102 hb; have GW102 := gs HB hg; replace HB := bs HB hb; have NB101_102 := nl BK101 hg; have NB102_101 := nr BK101 hg; replace BK101 := bb BK101 hb; clear hb hg; have hnb21 := NB101_102.out; have hnc21 := NB102_101.out; obtain ⟨_, _, _, _, _, _, _, _, _, _⟩ := cf5 BK101) | ((with_reducible refine gc 31 rfl ?_); refine gL 14 Try.func31 #[.slice A0 l0.length c0, .agg #[.int .i64 a1_0, .int .i64 a1_1, .int .i64 a1_2, .int .i64 a1_3, .int .i64 a1_4], .slice A2 l2.length c2] ?_; (with_reducible refine (QJ.calls k (fun k_ => k_ < w.heap.size) _ _ l0 a1_0 a1_1 a1_2 a1_3 a1_4 _ _ l2 t103 t104 t105 t106 t107 t108 t111 _ ?side1 ?side2 ?side3 A4.out).mono ?_); (case side1 => exact Kd.V_mk HC0.out (Kd.F_below (Kd.C_F JT HR0.out) (pE HB))); (case side2 => exact pC (Kd.C_below HR2.out HB.out)); (case side3 => exact HC2.out); rintro e w23 ⟨v109, rfl, ho0, hb⟩; refine ⟨_, rfl, ?_⟩; have HO110 := Qa.mk (Kd.V_lower (Kd.V_mono (ok' := fun k_ => k_ ≠ gb101 ∧ k_ ≠ gb102) ho0 (fun k_ hk_ => ⟨Or.elim hk_ (fun hs_ => fun e_ => Nat.not_le.2 hs_ (by rw [e_]; exact GW101.out)) (fun hn_ => (Kd.freshB (g := gb101) (o := .cells #[.int .i64 a1_0, .int .i64 a1_1, .int .i64 a1_2, .int .i64 a1_3, .int .i64 a1_4] 40 (0, 0)) (pB BK101.out) k_ hn_)), Or.elim hk_ (fun hs_ => fun e_ => Nat.not_le.2 hs_ (by rw [e_]; exact GW102.out)) (fun hn_ => (Kd.freshB (g := gb102) (o := .cells #[.int .i64 0, .int .i64 0] 36 (0, 0)) (pB BK102.out) k_ hn_))⟩)) (Qr (pE HB))); replace BK101 := bb BK101 hb; replace BK102 := bb BK102 hb; replace HB := bs HB hb; clear hb ho0) | (refine bx 8 #[.int .i64 0, .int .i64 0, .int .i64 0, .int .i64 0, .int .i64 0, .slice none 0 0] 75 ?_; intro gb112 hg w24 hbox hb; replace HO110 := ve HO110 hg hb; have BK112 := hbox; have GW112 := gs HB hg; replace HB := bs HB hb; have NB101_112 := nl BK101 hg; have NB112_101 := nr BK101 hg; replace BK101 := bb BK101 hb; have NB102_112 := nl BK102 hg; have NB112_102 := nr BK102 hg; replace BK102 := bb BK102 hb; clear hb hg; have hnb25 := NB112_101.out; have hnc25 := NB101_112.out; have hnb26 := NB112_102.out; have hnc26 := NB102_112.out; obtain ⟨_, _, _, _, _, _, _, _, _, _, _, _⟩ := cf6 BK112; obtain ⟨Ao28, co28, eo28⟩ := Kd.V_slice HO110.out; subst eo28; obtain ⟨_, _, _, _⟩ := cf2 BK102)); refine bodyPost_ret (JL rfl _ _ gb102 36 #[.int .i64 0, .int .i64 0] (0, 0) _ rfl (by refine pB ?_; refine Qg (cs := #[.int .i64 0, .int .i64 0]) ?_ 1 _ rfl; refine pB ?_; refine Qg (cs := #[.int .i64 0, .int .i64 0]) ?_ 0 _ rfl; refine pB ?_; refine Qx ?_ NB102_112.out _; refine pB ?_; refine Qx ?_ NB102_112.out _; refine pB ?_; refine Qx ?_ NB102_112.out _; refine pB ?_; refine Qx ?_ NB102_112.out _; refine pB ?_; refine Qx ?_ NB102_112.out _; refine pB ?_; refine Qx ?_ NB102_112.out _; (with_reducible repeat (first | refine Qt ?_ _ | refine Qh ?_ | refine blk_alloc ?_ _)); exact BK102.out) Try.underlying36 rfl (by kernel_rfl)) rfl ?_; exact ⟨eT, pE HB⟩
def ZE.f (a0_0 a0_1 a0_2 a0_3 a0_4 : Int) : Option Int := some a0_2
set_option maxHeartbeats 8000000 in
set_option maxRecDepth 100000 in
theorem ZE.calls (a0_0 a0_1 a0_2 a0_3 a0_4 r : Int) (w : World) (h : ZE.f a0_0 a0_1 a0_2 a0_3 a0_4 = some r) :
  Calls Try.prog 37 #[.agg #[.int .i64 a0_0, .int .i64 a0_1, .int .i64 a0_2, .int .i64 a0_3, .int .i64 a0_4]] w fun e w' => e = .returned (.int .i64 r) ∧ Below w.heap.size w w' := by
 have hu83 := Try.underlying83; have HB := Qa.mk (Below.refl w.heap.size w); have H : (some a0_2) = some r := h; clear h; obtain rfl := Option.some.inj H; go_enter Try.func37, Try.ntmps37; go_wp2_with (first | (refine bx 1 #[.int .i64 a0_0, .int .i64 a0_1, .int .i64 a0_2, .int .i64 a0_3, .int .i64 a0_4] 83 ?_; intro gb101 hg w2 BK101 hb; have GW101 := gs HB hg; replace HB := bs HB hb; clear hb hg; obtain ⟨_, _, _, _, _, _, _, _, _, _⟩ := cf5 BK101)); go_ret; exact ⟨eT, pE HB⟩
def Qi.l0 : Nat → Int → List Int → Int → Int → Int → Int → Int → Int → Int → List S83 → Option Int
 | 0, _, _, _, _, _, _, _, _, _, _ => none
 | k + 1, x6, x9, x10, x11, x102000, x102001, x102002, x102003, x102004, x102005 => if x11 < x10 then (if 0 ≤ x11 then (if x11 < (x9.length : Int) then (if x11 < (x102005.length : Int) then ((ZE.f ((Qf x102005 x11).f0.f0) ((Qf x102005 x11).f0.f1) ((Qf x102005 x11).f1) ((Qf x102005 x11).f2) ((Qf x102005 x11).f3)).bind fun t104 => (Qi.l0 k (wrap64 (x6 + (wrap64 ((rd x9 x11) * t104)))) x9 x10 (wrap64 (x11 + 1)) x102000 x102001 x102002 x102003 x102004 x102005)) else (none)) else (none)) else (none)) else (some x6)
def Qi.f (k : Nat) (a0_0 a0_1 a0_2 a0_3 a0_4 : Int) (l0_5 : List S83) (l1 : List Int)  : Option Int := Qi.l0 k 0 l1 (l1.length : Int) 0 a0_0 a0_1 a0_2 a0_3 a0_4 l0_5
theorem Qi.mono_l : ∀ k, (∀ y0 y1 y2 y3 y4 y5 y6 y7 y8 y9, LeO (Qi.l0 k y0 y1 y2 y3 y4 y5 y6 y7 y8 y9) (Qi.l0 (k + 1) y0 y1 y2 y3 y4 y5 y6 y7 y8 y9))
 | 0 => fun _ _ _ _ _ _ _ _ _ _ r h => by simp [Qi.l0] at h
 | k + 1 => by
  have ih0 := Qi.mono_l k
  ·intro y0 y1 y2 y3 y4 y5 y6 y7 y8 y9
   unfold Qi.l0
   repeat' first
   | (with_reducible exact ih0 _ _ _ _ _ _ _ _ _ _)
   | (with_reducible exact LeO.refl _)
   | (with_reducible exact LeO.none _)
   | (with_reducible refine LeO.ite ?_ ?_)
   | (with_reducible refine LeO.bind ?_ (fun _ => ?_))
theorem Qi.mono : ∀ a0 a1 a2 a3 a4 a5 a6 k, LeO (Qi.f k a0 a1 a2 a3 a4 a5 a6) (Qi.f (k + 1) a0 a1 a2 a3 a4 a5 a6) := by
 intro a0 a1 a2 a3 a4 a5 a6 k; have ih0 := Qi.mono_l k; unfold Qi.f
 repeat' first
   | (with_reducible exact ih0 _ _ _ _ _ _ _ _ _ _)
   | (with_reducible exact LeO.refl _)
   | (with_reducible exact LeO.none _)
   | (with_reducible refine LeO.ite ?_ ?_)
   | (with_reducible refine LeO.bind ?_ (fun _ => ?_))
set_option maxHeartbeats 8000000 in
set_option maxRecDepth 100000 in
theorem Qi.calls (k : Nat) (a0_0 a0_1 a0_2 a0_3 a0_4 : Int) (A0_5 : Option Addr) (c0_5 : Nat) (l0_5 : List S83) (A1 : Option Addr) (c1 : Nat) (l1 : List Int)  (r : Int) (w : World) (hr0_5 : Kd.C k83 w A0_5 l0_5.length l0_5) (hc0_5 : l0_5.length ≤ c0_5) (hr1 : Kd.C (Kd.int .i64) w A1 l1.length l1) (hc1 : l1.length ≤ c1) (h : Qi.f k a0_0 a0_1 a0_2 a0_3 a0_4 l0_5 l1 = some r) :
  Calls Try.prog 33 #[.agg #[.int .i64 a0_0, .int .i64 a0_1, .int .i64 a0_2, .int .i64 a0_3, .int .i64 a0_4, .slice A0_5 l0_5.length c0_5], .slice A1 l1.length c1, .func (.func 37) #[] #[]] w fun e w' => e = .returned (.int .i64 r) ∧ Below w.heap.size w w' := by
 have hu75 := Try.underlying75; have hu83 := Try.underlying83; have HR0_5 := Qa.mk hr0_5; have HC0_5 := Qa.mk hc0_5; clear hr0_5 hc0_5; have HR1 := Qa.mk hr1; have HC1 := Qa.mk hc1; clear hr1 hc1; have HB := Qa.mk (Below.refl w.heap.size w); have H : (Qi.l0 k 0 l1 (l1.length : Int) 0 a0_0 a0_1 a0_2 a0_3 a0_4 l0_5) = some r := h; clear h; have H' := Qa.mk H; clear H; go_enter Try.func33, Try.ntmps33; go_wp2_with (first | (refine bx 3 #[.int .i64 a0_0, .int .i64 a0_1, .int .i64 a0_2, .int .i64 a0_3, .int .i64 a0_4, .slice A0_5 l0_5.length c0_5] 75 ?_; intro gb101 hg w4 BK101 hb; have GW101 := gs HB hg; replace HB := bs HB hb; clear hb hg))
 (try simp only [Act.put, List.setIfInBounds_toArray, List.set_cons_zero, List.set_cons_succ])
 go_loopg [6, 11] k (fun kq v6 v11 w' => ∃ (x6_1 : Int) (x11_1 : Int), v6 = .int .i64 x6_1 ∧ v11 = .int .i64 x11_1 ∧ Qa (Qi.l0 kq x6_1 l1 (l1.length : Int) x11_1 a0_0 a0_1 a0_2 a0_3 a0_4 l0_5 = some r) ∧ Qa (kq ≤ k) ∧ Qa (w'.heap[gb101]? = some (.cells #[.int .i64 a0_0, .int .i64 a0_1, .int .i64 a0_2, .int .i64 a0_3, .int .i64 a0_4, (.slice A0_5 l0_5.length c0_5)] 75 (0, 0))) ∧ Qa (Below w.heap.size w w'))
 case atStart => exact ⟨(0), (0), eS, eS, H', ⟨Nat.le_refl _⟩, ⟨pB BK101.out⟩, ⟨pE HB⟩⟩
 case round =>
  clear H'; try clear c1
  try clear p2
  obtain ⟨x6_1, x11_1, rfl, rfl, HA, HK1, BK101, HB⟩ := hrel
  cases gk with
  | zero => exact absurd HA.out (by simp [Qi.l0])
  | succ k1 =>
   have H := HA.out; clear HA; simp only [Qi.l0] at H; by_cases c5 : x11_1 < (l1.length : Int)
   ·rw [if_pos c5] at H
    have c5b0 : decide (x11_1 < (l1.length : Int)) = true := decide_eq_true c5; clear c5; by_cases c6 : 0 ≤ x11_1
    ·rw [if_pos c6] at H
     have c6b0 : decide (0 ≤ x11_1) = true := decide_eq_true c6; clear c6; by_cases c7 : x11_1 < (l1.length : Int)
     ·rw [if_pos c7] at H
      have c7b0 : decide (x11_1 < (l1.length : Int)) = true := decide_eq_true c7; clear c7; by_cases c8 : x11_1 < (l0_5.length : Int)
      ·rw [if_pos c8] at H
       have c8b0 : decide (x11_1 < (l0_5.length : Int)) = true := decide_eq_true c8; clear c8; obtain ⟨t104, A9, H⟩ := bi H; have H' := Qa.mk H; clear H; have p102 : 0 ≤ (x11_1 : Int) := dT; have q102 : x11_1 < (l1.length : Int) := dT; obtain ⟨ad102, e102, hx102_0⟩ := Kd.at_int HR1.out x11_1 p102 q102
       cases e102
       replace hx102_0 := cut_ HB hx102_0; replace p102 := eq_true p102; replace q102 := eq_true q102; obtain ⟨_, _, _, _, _, _, _, _, _, _, _, _⟩ := cf6 BK101; have p103 : 0 ≤ (x11_1 : Int) := dT; have q103 : x11_1 < (l0_5.length : Int) := dT; obtain ⟨ad103, e103, hx103_0, hx103_1, hx103_2, hx103_3, hx103_4⟩ := Zf HR0_5.out x11_1 p103 q103
       cases e103
       replace hx103_0 := cut_ HB hx103_0; replace hx103_1 := cut_ HB hx103_1; replace hx103_2 := cut_ HB hx103_2; replace hx103_3 := cut_ HB hx103_3; replace hx103_4 := cut_ HB hx103_4; replace p103 := eq_true p103; replace q103 := eq_true q103; go_wp2_with (first | (go_at_call 37; (with_reducible refine (ZE.calls ((Qf l0_5 x11_1).f0.f0) ((Qf l0_5 x11_1).f0.f1) ((Qf l0_5 x11_1).f1) ((Qf l0_5 x11_1).f2) ((Qf l0_5 x11_1).f3) t104 _ A9.out).mono ?_); rintro e w11 ⟨rfl, hb⟩; replace BK101 := bb BK101 hb; replace HB := bs HB hb; (try clear hb); (try clear hb2); (try clear hk); (try clear hi)))
       go_roundg k1
       case measure => have := HK1.out; omega
       case rel => exact ⟨(wrap64 (x6_1 + (wrap64 ((rd l1 x11_1) * t104)))), (wrap64 (x11_1 + 1)), eS, eS, H', ⟨by have := HK1.out; omega⟩, ⟨pB BK101.out⟩, ⟨pE HB⟩⟩
      ·rw [if_neg c8] at H
       exact absurd H (by simp)
     ·rw [if_neg c7] at H
      exact absurd H (by simp)
    ·rw [if_neg c6] at H
     exact absurd H (by simp)
   ·rw [if_neg c5] at H
    have c5b0 : decide (x11_1 < (l1.length : Int)) = false := decide_eq_false c5; clear c5; obtain rfl := Option.some.inj H; go_wp2; go_ret; exact ⟨eT, pE HB⟩
def JU.f (a0 a1_0 a1_1 a1_2 a1_3 a1_4 a2_0 : Int) : Option Bool := some (decide ((wrap64 (a0 * a1_0)) ≥ a2_0))
set_option maxHeartbeats 8000000 in
set_option maxRecDepth 100000 in
theorem JU.calls (a0 : Int) (B1 : Nat) (a1_0 a1_1 a1_2 a1_3 a1_4 : Int) (B2 : Nat) (a2_0 : Int) (r : Bool) (w : World) (hb1 : w.heap[B1]? = some (.cells #[.int .i64 a1_0, .int .i64 a1_1, .int .i64 a1_2, .int .i64 a1_3, .int .i64 a1_4] 83 (0, 0))) (hb2 : w.heap[B2]? = some (.cells #[.int .i64 a2_0] 3 (0, 0))) (nb1_2 : B1 ≠ B2) (h : JU.f a0 a1_0 a1_1 a1_2 a1_3 a1_4 a2_0 = some r) :
  Calls Try.prog 76 #[.int .i64 a0, .pointer (some ⟨B1, 0, none⟩), .pointer (some ⟨B2, 0, none⟩)] w fun e w' => e = .returned (.bool r) ∧ JB w w' := by
 have BK1 := Qa.mk hb1; clear hb1; have BK2 := Qa.mk hb2; clear hb2; have NB1_2 := Qa.mk nb1_2; have NB2_1 := Qa.mk nb1_2.symm; clear nb1_2; have H : (some (decide ((wrap64 (a0 * a1_0)) ≥ a2_0))) = some r := h; clear h; obtain rfl := Option.some.inj H; have hnb4 := NB1_2.out; have hnc4 := NB2_1.out; obtain ⟨_, _, _, _, _, _, _, _, _, _⟩ := cf5 BK1; obtain ⟨_, _⟩ := cf1 BK2; go_enter Try.func76, Try.ntmps76; go_wp2; go_ret; exact ⟨eS, dS⟩
def Qo.l0 : Nat → Int → Int → Int → Int → Int → Int → Int → Int → Option Int
 | 0, _, _, _, _, _, _, _, _ => none
 | k + 1, x5, x6, x57000, x57001, x57002, x57003, x57004, x58000 => if x5 < x6 then ((JU.f (wrap64 ((IntKind.u64.wrap (wrap64 (x5 + x6))) / 2)) x57000 x57001 x57002 x57003 x57004 x58000).bind fun t101 => (if t101 = true then (Qo.l0 k x5 (wrap64 ((IntKind.u64.wrap (wrap64 (x5 + x6))) / 2)) x57000 x57001 x57002 x57003 x57004 x58000) else (Qo.l0 k (wrap64 ((wrap64 ((IntKind.u64.wrap (wrap64 (x5 + x6))) / 2)) + 1)) x6 x57000 x57001 x57002 x57003 x57004 x58000))) else (some x5)
def Qo.f (k : Nat) (a0 a56_0 a56_1 a56_2 a56_3 a56_4 a57_0 : Int) : Option Int := Qo.l0 k 0 a0 a56_0 a56_1 a56_2 a56_3 a56_4 a57_0
theorem Qo.mono_l : ∀ k, (∀ y0 y1 y2 y3 y4 y5 y6 y7, LeO (Qo.l0 k y0 y1 y2 y3 y4 y5 y6 y7) (Qo.l0 (k + 1) y0 y1 y2 y3 y4 y5 y6 y7))
 | 0 => fun _ _ _ _ _ _ _ _ r h => by simp [Qo.l0] at h
 | k + 1 => by
  have ih0 := Qo.mono_l k
  ·intro y0 y1 y2 y3 y4 y5 y6 y7
   unfold Qo.l0
   repeat' first
   | (with_reducible exact ih0 _ _ _ _ _ _ _ _)
   | (with_reducible exact LeO.refl _)
   | (with_reducible exact LeO.none _)
   | (with_reducible refine LeO.ite ?_ ?_)
   | (with_reducible refine LeO.bind ?_ (fun _ => ?_))
theorem Qo.mono : ∀ a0 a1 a2 a3 a4 a5 a6 k, LeO (Qo.f k a0 a1 a2 a3 a4 a5 a6) (Qo.f (k + 1) a0 a1 a2 a3 a4 a5 a6) := by
 intro a0 a1 a2 a3 a4 a5 a6 k; have ih0 := Qo.mono_l k; unfold Qo.f
 repeat' first
   | (with_reducible exact ih0 _ _ _ _ _ _ _ _)
   | (with_reducible exact LeO.refl _)
   | (with_reducible exact LeO.none _)
   | (with_reducible refine LeO.ite ?_ ?_)
   | (with_reducible refine LeO.bind ?_ (fun _ => ?_))
set_option maxHeartbeats 8000000 in
set_option maxRecDepth 100000 in
theorem Qo.calls (k : Nat) (a0 : Int) (B56 : Nat) (a56_0 a56_1 a56_2 a56_3 a56_4 : Int) (B57 : Nat) (a57_0 r : Int) (w : World) (hb56 : w.heap[B56]? = some (.cells #[.int .i64 a56_0, .int .i64 a56_1, .int .i64 a56_2, .int .i64 a56_3, .int .i64 a56_4] 83 (0, 0))) (hb57 : w.heap[B57]? = some (.cells #[.int .i64 a57_0] 3 (0, 0))) (nb56_57 : B56 ≠ B57) (h : Qo.f k a0 a56_0 a56_1 a56_2 a56_3 a56_4 a57_0 = some r) :
  Calls Try.prog 42 #[.int .i64 a0, .func (.func 76) #[] #[.pointer (some ⟨B56, 0, none⟩), .pointer (some ⟨B57, 0, none⟩)]] w fun e w' => e = .returned (.int .i64 r) ∧ Below w.heap.size w w' := by
 have BK56 := Qa.mk hb56; clear hb56; have BK57 := Qa.mk hb57; clear hb57; have NB56_57 := Qa.mk nb56_57; have NB57_56 := Qa.mk nb56_57.symm; clear nb56_57; have HB := Qa.mk (Below.refl w.heap.size w); have H : (Qo.l0 k 0 a0 a56_0 a56_1 a56_2 a56_3 a56_4 a57_0) = some r := h; clear h; have H' := Qa.mk H; clear H; go_enter Try.func42, Try.ntmps42; go_wp2
 (try simp only [Act.put, List.setIfInBounds_toArray, List.set_cons_zero, List.set_cons_succ])
 go_loopg [5, 6] k (fun kq v5 v6 w' => ∃ (x5_1 : Int) (x6_1 : Int), v5 = .int .i64 x5_1 ∧ v6 = .int .i64 x6_1 ∧ Qa (Qo.l0 kq x5_1 x6_1 a56_0 a56_1 a56_2 a56_3 a56_4 a57_0 = some r) ∧ Qa (kq ≤ k) ∧ Qa (w'.heap[B56]? = some (.cells #[.int .i64 a56_0, .int .i64 a56_1, .int .i64 a56_2, .int .i64 a56_3, .int .i64 a56_4] 83 (0, 0))) ∧ Qa (w'.heap[B57]? = some (.cells #[.int .i64 a57_0] 3 (0, 0))) ∧ Qa (Below w.heap.size w w'))
 case atStart => exact ⟨(0), (a0), eS, eS, H', ⟨Nat.le_refl _⟩, ⟨pB BK56.out⟩, ⟨pB BK57.out⟩, ⟨pE HB⟩⟩
 case round =>
  clear H'; try clear p2
  obtain ⟨x5_1, x6_1, rfl, rfl, HA, HK1, BK56, BK57, HB⟩ := hrel
  cases gk with
  | zero => exact absurd HA.out (by simp [Qo.l0])
  | succ k1 =>
   have H := HA.out; clear HA; simp only [Qo.l0] at H; by_cases c3 : x5_1 < x6_1
   ·rw [if_pos c3] at H
    have c3b0 : decide (x5_1 < x6_1) = true := decide_eq_true c3; clear c3; obtain ⟨t101, A4, H⟩ := bi H; by_cases c5 : t101 = true
    ·subst c5
     rw [if_pos rfl] at H; have H' := Qa.mk H; clear H; go_wp2_with (first | (go_at_call 76; (with_reducible refine (JU.calls (wrap64 ((IntKind.u64.wrap (wrap64 (x5_1 + x6_1))) / 2)) B56 a56_0 a56_1 a56_2 a56_3 a56_4 B57 a57_0 true _ ?side1 ?side2 ?side3 A4.out).mono ?_); (case side1 => exact pB BK56.out); (case side2 => exact pB BK57.out); (case side3 => exact NB56_57.out); rintro e w' ⟨rfl, ⟨nd, rfl⟩⟩))
     go_roundg k1
     case measure => have := HK1.out; omega
     case rel => exact ⟨(x5_1), (wrap64 ((IntKind.u64.wrap (wrap64 (x5_1 + x6_1))) / 2)), eS, eS, H', ⟨by have := HK1.out; omega⟩, ⟨pB BK56.out⟩, ⟨pB BK57.out⟩, ⟨pE HB⟩⟩
    ·replace c5 := Bool.eq_false_iff.mpr c5
     subst c5; rw [if_neg (show ¬ (false = true) by decide)] at H; have H' := Qa.mk H; clear H; go_wp2_with (first | (go_at_call 76; (with_reducible refine (JU.calls (wrap64 ((IntKind.u64.wrap (wrap64 (x5_1 + x6_1))) / 2)) B56 a56_0 a56_1 a56_2 a56_3 a56_4 B57 a57_0 false _ ?side1 ?side2 ?side3 A4.out).mono ?_); (case side1 => exact pB BK56.out); (case side2 => exact pB BK57.out); (case side3 => exact NB56_57.out); rintro e w' ⟨rfl, ⟨nd, rfl⟩⟩))
     go_roundg k1
     case measure => have := HK1.out; omega
     case rel => exact ⟨(wrap64 ((wrap64 ((IntKind.u64.wrap (wrap64 (x5_1 + x6_1))) / 2)) + 1)), (x6_1), eS, eS, H', ⟨by have := HK1.out; omega⟩, ⟨pB BK56.out⟩, ⟨pB BK57.out⟩, ⟨pE HB⟩⟩
   ·rw [if_neg c3] at H
    have c3b0 : decide (x5_1 < x6_1) = false := decide_eq_false c3; clear c3; obtain rfl := Option.some.inj H; go_wp2; go_ret; exact ⟨eT, pE HB⟩
end Go.Proofs.Ytjaapkkpmegkfaa.P
namespace Go.Proofs.Ytjaapkkpmegkfaa.R
open Go.RowKit Go.Shelf
structure Jg (B lo c : Nat) (W W' : World) : Prop where
 os : W'.os = W.os
 tape : W'.tape = W.tape
 output : W'.output = W.output
 size : W.heap.size ≤ W'.heap.size
 same : ∀ (k : Nat) (o : Obj), W.heap[k]? = some o → ¬ (lo ≤ k ∧ k < lo + c) → (B ≤ k → o.isCells = true) → W'.heap[k]? = some o
theorem Jg.refl (B lo c : Nat) (W : World) : Jg B lo c W W := ⟨rfl, rfl, rfl, Nat.le_refl _, fun _ _ h _ _ => h⟩
theorem Jg.trans {B lo c : Nat} {X Y Z : World} (h : Jg B lo c X Y) (k : Jg B lo c Y Z) : Jg B lo c X Z :=
 ⟨k.os.trans h.os, k.tape.trans h.tape, k.output.trans h.output, Nat.le_trans h.size k.size, fun j o ho h1 h2 => k.same j o (h.same j o ho h1 h2) h1 h2⟩
theorem Jg.of_below {B lo c : Nat} {W W' : World} (h : Below W.heap.size W W') : Jg B lo c W W' :=
 ⟨h.os, h.tape, h.output, h.size, fun k o ho _ _ => (h.block k (Array.getElem?_eq_some_iff.1 ho).1).trans ho⟩
theorem Jg.lower {B B' lo c : Nat} {W W' : World} (h : Jg B' lo c W W') (hB : B ≤ B') : Jg B lo c W W' :=
 ⟨h.os, h.tape, h.output, h.size, fun k o ho h1 h2 => h.same k o ho h1 (fun h3 => h2 (by omega))⟩
theorem Jg.none_ {B lo lo' : Nat} {W W' : World} (h : Jg B lo 0 W W') : Jg B lo' 0 W W' :=
 ⟨h.os, h.tape, h.output, h.size, fun k o ho h1 h2 => h.same k o ho (fun h3 => by omega) h2⟩
def Stab {β : Type} (B lo c : Nat) (J : β → World → Prop) : Prop := ∀ i W W', J i W → Jg B lo c W W' → J i W'
structure JF (n₀ : Nat) (Ex : Nat → Prop) (B : Nat) (E : Nat → Prop) (W W' : World) : Prop where
 size : W.heap.size ≤ W'.heap.size
 same : ∀ k, k < W.heap.size → (k < n₀ ∧ ¬ Ex k ∨ B ≤ k ∧ E (k - B)) → W'.heap[k]? = W.heap[k]?
 book : ∀ (k : Nat) (o : Obj), B ≤ k → W.heap[k]? = some o → o.isCells = false → W'.heap[k]? = some o
theorem JF.refl (n₀ : Nat) (Ex : Nat → Prop) (B : Nat) (E : Nat → Prop) (W : World) : JF n₀ Ex B E W W := ⟨Nat.le_refl _, fun _ _ _ => rfl, fun _ _ _ h _ => h⟩
theorem JF.trans {n₀ : Nat} {Ex : Nat → Prop} {B : Nat} {E : Nat → Prop} {X Y Z : World} (h : JF n₀ Ex B E X Y) (k : JF n₀ Ex B E Y Z) : JF n₀ Ex B E X Z :=
 ⟨Nat.le_trans h.size k.size, fun j hj h1 => (k.same j (Nat.lt_of_lt_of_le hj h.size) h1).trans (h.same j hj h1), fun j o hB ho hc => k.book j o hB (h.book j o hB ho hc) hc⟩
theorem JF.of_below {n₀ : Nat} {Ex : Nat → Prop} {B : Nat} {E : Nat → Prop} {W W' : World} (h : Below W.heap.size W W') : JF n₀ Ex B E W W' :=
 ⟨h.size, fun k hk _ => h.block k hk, fun k o _ ho _ => (h.block k (Array.getElem?_eq_some_iff.1 ho).1).trans ho⟩
theorem JF.istep {n₀ : Nat} {Ex : Nat → Prop} {B : Nat} {E : Nat → Prop} {X Y Z : World} {b lo : Nat} (h : JF n₀ Ex B E X Y) (k : Jg b lo 0 Y Z) (hb : X.heap.size ≤ b) : JF n₀ Ex B E X Z := by
 have key : ∀ j, j < X.heap.size → ∀ o, Y.heap[j]? = some o → Z.heap[j]? = some o := fun j hj o ho => k.same j o ho (fun h3 => by omega) (fun h3 => by omega)
 have ex : ∀ j, j < X.heap.size → Y.heap[j]? = Z.heap[j]? := fun j hj => by
  have hy : j < Y.heap.size := Nat.lt_of_lt_of_le hj h.size; rw [key j hj _ (Array.getElem?_eq_getElem hy), Array.getElem?_eq_getElem hy]
 exact ⟨Nat.le_trans h.size k.size, fun j hj h1 => (ex j hj).symm.trans (h.same j hj h1), fun j o hB ho hc => key j (Array.getElem?_eq_some_iff.1 ho).1 o (h.book j o hB ho hc)⟩
def X1 {α : Type} (F : Fence) (n : Nat) (P : Program) (g : Nat) (lb : Array Value) (xs : List α) (Rv : α → Array Value → World → Prop) (Ex : Nat → Prop) (c : Nat) (E : Nat → Prop) (w : World) : Prop :=
 ∀ (l : Nat) (J Jx : Nat → World → Prop) (W : World), Below w.heap.size w W → Stab W.heap.size W.heap.size c J → Stab W.heap.size W.heap.size c Jx →
  (∀ i x vs W1, xs[i]? = some x → J i W1 → Rv x vs W1 → W.heap.size + c ≤ W1.heap.size → YieldAt F (n - 1) P l vs W1 fun e W' =>
   (e = .returned (.bool true) ∧ J (i + 1) W' ∧ JF w.heap.size Ex W.heap.size E W1 W') ∨ (e = .returned (.bool false) ∧ Jx (i + 1) W' ∧ JF w.heap.size Ex W.heap.size E W1 W')) →
  J 0 W →
  CallsIn F n P g (#[.func (.yield l) #[] #[]] ++ lb) W fun e W' => (∃ v, e = .returned v) ∧ (J xs.length W' ∨ ∃ i, i ≤ xs.length ∧ Jx i W')
structure ZR (n₀ : Nat) (Ex : Nat → Prop) (B0 B : Nat) (E : Nat → Prop) (W W' : World) : Prop where
 book : ∀ (k : Nat) (o : Obj), B0 ≤ k → W.heap[k]? = some o → o.isCells = false → W'.heap[k]? = some o
 keep : JF n₀ Ex B E W W'
def bPost (n₀ : Nat) (Ex : Nat → Prop) (B0 B : Nat) (E : Nat → Prop) (I : Nat → World → Prop) (Ix : Code → Nat → World → Prop) (j : Nat) (W : World) : Exit → Act → World → Prop
 | .normal, _, W' => ZR n₀ Ex B0 B E W W' ∧ I j W'
 | .ret, _, W' => ZR n₀ Ex B0 B E W W' ∧ Ix .ret j W'
 | .exit id, _, W' => ZR n₀ Ex B0 B E W W' ∧ Ix (.exit id) j W'
 | .goto t, _, W' => ZR n₀ Ex B0 B E W W' ∧ Ix (.goto t) j W'
 | .panic _, _, _ => False
 | .outgrown, _, _ => False
variable {F : Fence} {n : Nat} {P : Program}
theorem JV {B lo c : Nat} {W : World} {l : Nat} {o : Obj} (o' : Obj) (hl : W.heap[l]? = some o) (ho : o.isCells = false) (hB : B ≤ l) : Jg B lo c W (W.putObj l o') :=
 ⟨rfl, rfl, rfl, by simp, fun k o2 h2 _ h3 => by
  have hne : k ≠ l := fun e => by subst e; rw [hl] at h2; cases h2; rw [h3 hB] at ho; cases ho
  exact (World.putObj_heap_other hne).trans h2⟩
theorem Zg {n₀ : Nat} {Ex : Nat → Prop} {B : Nat} {E : Nat → Prop} {W : World} {l : Nat} (o' : Obj) (h0 : n₀ ≤ l) (hB : l < B) : JF n₀ Ex B E W (W.putObj l o') :=
 ⟨by simp, fun k _ h1 => World.putObj_heap_other (fun e => by omega), fun k o hk ho _ => (World.putObj_heap_other (fun e => by omega)).trans ho⟩
theorem ZW {α : Type} {g : Operand} {ps : Array Tmp} {assign body : Code} {Q : Exit → Act → World → Prop} {a : Act} {w : World}
  (hro : F.round = none) (h1 : F.depth.isSome = true → 1 ≤ n) {gf : Nat} {lb : Array Value} (hg : a.eval g = .func (.func gf) #[] lb) (hFg : F.fn gf) (eg : ∀ args w, (callFunc gf args).run P w = .ok (.enter gf args) w)
  {xs : List α} {Rv : α → Array Value → World → Prop} {Ex : Nat → Prop} {c : Nat} {E : Nat → Prop} {w0 : World} (hseq : X1 F (n - 1) P gf lb xs Rv Ex c E w0) (hb0 : Below w0.heap.size w0 w)
  (hps : ∀ x vs W, Rv x vs W → vs.size = ps.size)
  (I : Nat → World → Prop) (Ix : Code → Nat → World → Prop) (hI : Stab w.heap.size (w.heap.size + 2) c I) (hIx : ∀ cd, Stab w.heap.size (w.heap.size + 2) c (Ix cd)) (h0 : I 0 w)
  (Ax : Nat → α → Act → World → Prop) (hAx : ∀ i x a', Stab w.heap.size (w.heap.size + 2) c (fun (_ : Unit) W => Ax i x a' W))
  (hassign : ∀ (l i : Nat) (x : α) (vs : Array Value) (W : World) (K : Act → World → Prop), xs[i]? = some x → I i W → Rv x vs W → w.heap.size + 2 + c ≤ W.heap.size → (∀ a' W', Below W.heap.size W W' → Ax i x a' W' → K a' W') →
   assign.wpIn (F.inRound l) (n - 1 - 1) P (Exit.then K (fun _ _ _ => False)) { tmps := (ps.zip vs).foldl (fun t (p, v) => t.setIfInBounds p v) a.tmps, defers := [] } W)
  (hbody : ∀ (l i : Nat) (x : α) (a' : Act) (W : World), l = w.heap.size + 1 → (∃ r, W.heap[l]? = some (.loop r)) → xs[i]? = some x → Ax i x a' W → w.heap.size + 2 + c ≤ W.heap.size →
   body.wpIn (F.inRound l) (n - 1 - 1) P (bPost w0.heap.size Ex w.heap.size (w.heap.size + 2) E I Ix (i + 1) W) a' W)
  (hdone : ∀ (D : Nat) (W : World), w.heap.size ≤ D → I xs.length W → W.heap[D]? = some (.deferred (some [])) → Q .normal { a with defers := { target := .collected D, args := #[] } :: a.defers } W)
  (hstop : ∀ (D : Nat) (cd : Code) (i : Nat) (W : World), w.heap.size ≤ D → i ≤ xs.length → Ix cd i W → W.heap[D]? = some (.deferred (some [])) → cd.wpIn F n P Q { a with defers := { target := .collected D, args := #[] } :: a.defers } W) :
  (Code.rangeFunc g ps assign body).wpIn F n P Q a w := by
 refine wpIn_rangeFunc ?_; intro fn hfn; rw [hro]; obtain ⟨rec, hrec⟩ : ∃ rec : LoopState → Option Code → Loop, rec = fun st pe => { state := st, pending := pe, fn, tmps := a.tmps, params := ps, assign, body, defers := w.heap.size } := ⟨_, rfl⟩
 obtain ⟨W1, hW1⟩ : ∃ W1, (w.alloc (.deferred (some []))).alloc (.loop (rec .ready none)) = W1 := ⟨_, rfl⟩
 have hsz : W1.heap.size = w.heap.size + 2 := by rw [← hW1]; simp
 have hL1 : W1.heap[w.heap.size + 1]? = some (.loop (rec .ready none)) := by
  rw [← hW1]; have := World.alloc_heap_new (w.alloc (.deferred (some []))) (.loop (rec .ready none)); rwa [World.size_alloc] at this
 have hK1 : W1.heap[w.heap.size]? = some (.deferred (some [])) := by
  rw [← hW1]; exact (Below.heap_alloc _ _ _ (by simp)).trans (World.alloc_heap_new w _)
 have hbW : Below w.heap.size w W1 := by rw [← hW1]; exact ((Below.refl _ w).alloc (Nat.le_refl _) _).alloc (by simp) _
 have hI1 : I 0 W1 := hI 0 w W1 h0 (Jg.of_below hbW); have hb1 : Below w0.heap.size w0 W1 := hb0.trans (hbW.mono hb0.size); have hn0 : w0.heap.size ≤ w.heap.size := hb0.size
 refine ⟨w.heap.size + 1, [{ target := .collected w.heap.size, args := #[] }], W1, { target := .fn (.func gf) lb, args := #[.func (.yield (w.heap.size + 1)) #[] #[]] }, W1, gf,
  #[.func (.yield (w.heap.size + 1)) #[] #[]] ++ lb, W1, ?_, ?_, ?_, ?_, h1, ?_⟩
 ·rw [← hW1, hrec]; exact run_enterLoop_outer _ _ _ _ _
 ·simp only [resolve, hg]
  simp [go_sem]
 ·intro f' hf'; simp [Target.leads] at hf'; subst hf'; exact hFg
 ·simp [invoke, go_sem, eg]
 ·have hst : ∀ {J : Nat → World → Prop}, Stab w.heap.size (w.heap.size + 2) c J → Stab W1.heap.size W1.heap.size c J := fun hJ i A B h hs => hJ i A B h (by rw [hsz] at hs; exact hs.lower (by omega))
  have hrecs : ∀ {A B : World} {k : Nat} {o : Obj}, Jg W1.heap.size W1.heap.size c A B → k < w.heap.size + 2 → A.heap[k]? = some o → B.heap[k]? = some o := fun hs hk ho => hs.same _ _ ho (by omega) (fun h => by omega)
  refine (hseq (w.heap.size + 1)
   (fun i W => I i W ∧ W.heap[w.heap.size + 1]? = some (.loop (rec .ready none)) ∧ W.heap[w.heap.size]? = some (.deferred (some [])))
   (fun i W => ∃ cd, Ix cd i W ∧ W.heap[w.heap.size + 1]? = some (.loop (rec .done (some cd))) ∧ W.heap[w.heap.size]? = some (.deferred (some [])))
   W1 hb1 (fun i A B h hs => ⟨hst hI i A B h.1 hs, hrecs hs (by omega) h.2.1, hrecs hs (by omega) h.2.2⟩)
   (fun i A B h hs => by obtain ⟨cd, hc, hl, hk⟩ := h; exact ⟨cd, hst (hIx cd) i A B hc hs, hrecs hs (by omega) hl, hrecs hs (by omega) hk⟩)
   ?_ ⟨hI1, hL1, hK1⟩).mono ?_
  ·rintro i x vs W hx ⟨hi, hl, hk⟩ hrv hsize
   have hlt : w.heap.size + 1 < W.heap.size := (Array.getElem?_eq_some_iff.1 hl).1; have hy := run_yield (P := P) (args := vs) hl (by rw [hrec]; exact hps x vs W hrv); rw [hrec] at hy; refine ⟨fn, _, assign, body, hy, roundIn_of_wpIn hfn (hassign _ i x vs W _ hx hi hrv (by omega) ?_)⟩; clear hy; intro a' Wa hba hax; have hla := (hba.block _ hlt).trans hl; have hka := (hba.block _ (show w.heap.size < W.heap.size by omega)).trans hk; have hlta : w.heap.size + 1 < Wa.heap.size := (Array.getElem?_eq_some_iff.1 hla).1; refine ⟨_, run_beginRound hla (by rw [hrec]), ?_⟩; obtain ⟨W2, hW2⟩ : ∃ W2, Wa.putObj (w.heap.size + 1) (.loop { rec .ready none with state := .busy }) = W2 := ⟨_, rfl⟩
   rw [hW2]; have hl2 : W2.heap[w.heap.size + 1]? = some (.loop { rec .ready none with state := .busy }) := by rw [← hW2]; exact World.putObj_heap_same hlta
   have hk2 : W2.heap[w.heap.size]? = some (.deferred (some [])) := by rw [← hW2]; exact (World.putObj_heap_other (by omega)).trans hka
   have hs2 : W2.heap.size = Wa.heap.size := by rw [← hW2]; simp
   have hax2 : Ax i x a' W2 := by rw [← hW2]; exact hAx i x a' () _ _ hax (JV _ hla rfl (by omega))
   have hkp2 : JF w0.heap.size Ex W1.heap.size E W W2 := (JF.of_below hba).trans (by rw [← hW2]; exact Zg _ (by omega) (by omega)); have hba' := hba.size; refine wpIn_mono (hbody _ i x a' W2 rfl ⟨_, hl2⟩ hx hax2 (by omega)) ?_
   have fin : ∀ (jump : Option Code) (W3 : World), ZR w0.heap.size Ex w.heap.size (w.heap.size + 2) E W2 W3 →
     (Instr.endRound (w.heap.size + 1) jump).run P W3 = .ok (.bool jump.isNone) (W3.putObj (w.heap.size + 1) (.loop (rec (if jump.isNone then .ready else .done) jump))) ∧
     W3.heap[w.heap.size + 1]? = some (.loop { rec .ready none with state := .busy }) ∧
     (W3.putObj (w.heap.size + 1) (.loop (rec (if jump.isNone then .ready else .done) jump))).heap[w.heap.size + 1]? = some (.loop (rec (if jump.isNone then .ready else .done) jump)) ∧
     (W3.putObj (w.heap.size + 1) (.loop (rec (if jump.isNone then .ready else .done) jump))).heap[w.heap.size]? = some (.deferred (some [])) := fun jump W3 hk3 => by
    have hl3 := hk3.book _ _ (by omega) hl2 rfl; have := run_endRound (P := P) jump hl3; rw [hrec] at this ⊢; exact ⟨this, by rw [hrec] at hl3; exact hl3, World.putObj_heap_same (Array.getElem?_eq_some_iff.1 hl3).1, (World.putObj_heap_other (by omega)).trans (hk3.book _ _ (Nat.le_refl _) hk2 rfl)⟩
   rintro e a3 W3 hp
   cases e with
   | normal =>
    obtain ⟨hk3, hi3⟩ := hp; obtain ⟨hr, hl3, hl4, hk4⟩ := fin none W3 hk3; refine ⟨_, _, hr, .inl ⟨rfl, ⟨hI _ _ _ hi3 (JV _ hl3 rfl (by omega)), hl4, hk4⟩, ?_⟩⟩; have hk3' := hk3.keep; rw [← hsz] at hk3'; exact hkp2.trans (hk3'.trans (Zg _ (by omega) (by omega)))
   | ret =>
    obtain ⟨hk3, hi3⟩ := hp; obtain ⟨hr, hl3, hl4, hk4⟩ := fin (some .ret) W3 hk3; have hk3' := hk3.keep; rw [← hsz] at hk3'; exact ⟨_, _, hr, .inr ⟨rfl, ⟨.ret, hIx _ _ _ _ hi3 (JV _ hl3 rfl (by omega)), hl4, hk4⟩, hkp2.trans (hk3'.trans (Zg _ (by omega) (by omega)))⟩⟩
   | exit id =>
    obtain ⟨hk3, hi3⟩ := hp; obtain ⟨hr, hl3, hl4, hk4⟩ := fin (some (.exit id)) W3 hk3; have hk3' := hk3.keep; rw [← hsz] at hk3'; exact ⟨_, _, hr, .inr ⟨rfl, ⟨.exit id, hIx _ _ _ _ hi3 (JV _ hl3 rfl (by omega)), hl4, hk4⟩, hkp2.trans (hk3'.trans (Zg _ (by omega) (by omega)))⟩⟩
   | goto t =>
    obtain ⟨hk3, hi3⟩ := hp; obtain ⟨hr, hl3, hl4, hk4⟩ := fin (some (.goto t)) W3 hk3; have hk3' := hk3.keep; rw [← hsz] at hk3'; exact ⟨_, _, hr, .inr ⟨rfl, ⟨.goto t, hIx _ _ _ _ hi3 (JV _ hl3 rfl (by omega)), hl4, hk4⟩, hkp2.trans (hk3'.trans (Zg _ (by omega) (by omega)))⟩⟩
   | panic ch => exact hp.elim
   | outgrown => exact hp.elim
  ·rintro e W2 ⟨⟨v, rfl⟩, (⟨hi, hl, hk⟩ | ⟨i, hle, cd, hi, hl, hk⟩)⟩
   ·exact ⟨none, _, by have := run_endLoop (P := P) hl (by rw [hrec]; simp); rw [hrec] at this; exact this, hdone _ _ (Nat.le_refl _) (hI _ _ _ hi (JV _ hl rfl (by omega))) ((World.putObj_heap_other (by omega)).trans hk)⟩
   ·exact ⟨some cd, _, by have := run_endLoop (P := P) hl (by rw [hrec]; simp); rw [hrec] at this; exact this, hstop _ cd i _ (Nat.le_refl _) hle (hIx _ _ _ _ hi (JV _ hl rfl (by omega))) ((World.putObj_heap_other (by omega)).trans hk)⟩
end Go.Proofs.Ytjaapkkpmegkfaa.R
namespace Go.Proofs.Ytjaapkkpmegkfaa.R
open Go.RowKit Go.Shelf YtjaapkkpmegkfaaW.PrintWords YtjaapkkpmegkfaaW.PrintLast YtjaapkkpmegkfaaW.PrintMore
def Op.noDefer : Op → Bool
 | .defer _ => false
 | _ => true
theorem Op.noDefer_spec {o : Op} (h : Op.noDefer o = true) : ∀ c, o ≠ .defer c := fun c e => by subst e; simp [Op.noDefer] at h
abbrev RF (l : Nat) : Fence := Fence.wide.inRound l
theorem rows_in {n l : Nat} {P : Program} {row : String} {args : Array Value} {w : World} {R : Value → World → Prop} (h : Rows P row args w R) : RowsIn (RF l) n P row args w R :=
 fun c cs _ => let ⟨v, w', r, s⟩ := h c cs; ⟨v, w', r, stepsIn_wide.2 s⟩
theorem upon_in {n l : Nat} {P : Program} {o : Oper} {a : Act} {next next' : Act → World → Prop} {Q : Exit → Act → World → Prop} (hn : ∀ a w, next a w → next' a w) :
  ∀ {r : Result Next}, o.upon P a next Q r → o.uponIn (RF l) n P a next' Q r := by
 intro r h
 cases r with
 | ok x w =>
  cases x with
  | value v => exact hn _ _ h
  | skip => exact hn _ _ h
  | defer d => exact hn _ _ h
  | enter f args =>
   refine ⟨(fun h0 => by cases h0), CallsIn.inRound l (callsIn_wide.2 (Calls.mono h ?_))⟩; intro e w' h'
   cases e with
   | returned v => exact hn _ _ h'
   | panicked c => exact h'
   | outgrown => exact h'
  | row r args => exact ⟨(fun h0 => by cases h0), rows_in (Rows.mono h fun v w' h' => hn _ _ h')⟩
  | round => exact h.elim
  | _ => exact h.elim
 | halt x w =>
  cases x with
  | panic v => exact h
  | _ => exact h.elim
theorem oper_in {n l : Nat} {P : Program} {o : Oper} {a : Act} {w : World} {next next' : Act → World → Prop} {Q : Exit → Act → World → Prop} (hd : Op.noDefer o.op = true) (hn : ∀ a w, next a w → next' a w)
  (h : o.wp P a w next Q) : o.wpIn (RF l) n P a w next' Q := by
 refine ⟨fun _ _ => trivial, ?_⟩; have e : o.semAt (RF l).round a.eval = execOp a.eval o := Oper.semAt_some l _ _ (Op.noDefer_spec hd); rw [e]; exact upon_in hn h
theorem Xf {n l : Nat} {P : Program} {ops : Array Oper} {Q : Exit → Act → World → Prop} (hd : ∀ (i : Nat) (o : Oper), ops[i]? = some o → Op.noDefer o.op = true) (hQ : ¬ LetsOut Q) :
  ∀ (is : List Nat) (a : Act) (w : World), wpOps P ops Q is a w → wpOpsIn (RF l) n P ops Q is a w
 | [], _, _, h => h
 | i :: is, a, w, h => by
  unfold wpOps at h; unfold wpOpsIn
  cases ho : ops[i]? with
  | none => rw [ho] at h; exact Xf hd hQ is a w h
  | some o =>
   rw [ho] at h; simp only [] at h ⊢; by_cases hw : Region.wanted o (yielded ops a.tmps) = true
   ·rw [if_pos hw] at h ⊢
    rcases h with h | h
    ·exact oper_in (hd i o ho) (Xf hd hQ is) h
    ·exact absurd h.2 hQ
   ·rw [if_neg hw] at h ⊢
    exact ⟨fun _ _ => trivial, Xf hd hQ is _ _ h⟩
def Z4 (l : List Oper) : Bool := l.all fun o => Op.noDefer o.op
theorem Xb {l : List Oper} (h : Z4 l = true) : ∀ (i : Nat) (o : Oper), l.toArray[i]? = some o → Op.noDefer o.op = true := fun i o ho => by
 have h1 : l[i]? = some o := by simpa using ho
 exact List.all_eq_true.1 h o (List.mem_of_getElem? h1)
theorem JC {n r id : Nat} {P : Program} {l : List Oper} {Q : Exit → Act → World → Prop} {a : Act} {w : World} (hd : Z4 l = true) (hQ : ¬ LetsOut Q) (h : wpList P l.toArray Q l a w) :
  (Code.region id l.toArray false).wpIn (RF r) n P Q a w := by
 refine wpIn_region (Xf (Xb hd) hQ _ _ _ ?_); have := wpOps_eq_wpList (P := P) (ops := l.toArray) (Q := Q) l 0 (by intro j; simp); simp only [List.size_toArray]; rw [List.range_eq_range', this]; exact h
theorem YM {n r id : Nat} {P : Program} {l : List Oper} {Q : Exit → Act → World → Prop} {a : Act} {w : World} (hd : Z4 l = true) (hQ : ¬ LetsOut Q) (hm : P.follows .mixedOrders = true)
  (h : wpAny P .any l.toArray Q l.toArray.size (Array.replicate l.toArray.size false) a { w with drawn := w.drawn + 1 }) : (Code.region id l.toArray true).wpIn (RF r) n P Q a w := by
 refine wpIn_region_draw fun t => Xf (Xb hd) hQ _ _ _ ?_
 simp only [Region.schedule, hm, Bool.true_or, if_true]; exact wpAny_sound l.toArray.size t _ a _ h
theorem ZS {n0 r id n : Nat} {P : Program} {ol : List Oper} {Q : Exit → Act → World → Prop} {S : World → Prop} {ds : List Nat} {a : Act} {w : World} (hd : Z4 ol = true) (hQ : ¬ LetsOut Q) (l : Array Bool) (hm : P.follows .mixedOrders = true) (hn : ol.toArray.size = n) (hl : Array.replicate n false = l) (hS : S w.drew)
  (h : S w.drew → QF P .any ol.toArray Q S ds n l a w.drew) : (Code.region id ol.toArray true).wpIn (RF r) n0 P Q a w := by
 subst hn; subst hl; exact YM hd hQ hm (Zm _ _ _ _ (h hS))
end Go.Proofs.Ytjaapkkpmegkfaa.R
