/- Part 11 of what the law's proof needs: words, walks of functions and plain facts. -/
import Derived.Test.YtjaapkkpmegkfaaR02
import Derived.Test.YtjaapkkpmegkfaaR10
set_option linter.unusedVariables false
set_option linter.unusedSimpArgs false
namespace Go.Proofs.Ytjaapkkpmegkfaa.P
open Go.RowKit Go.Proofs.YtjaapkkpmegkfaaW.PrintWords Go.Proofs.YtjaapkkpmegkfaaW.PrintLast Go.Proofs.YtjaapkkpmegkfaaW.PrintMore
attribute [local go_sem] JG JH JY JX Jv Ju JJ JK
mutual
def QE.l0 : Nat → List Int → List Int → List Int → Int → Int → List Int → Int → Int → Option (List Int × Int)
 | 0, _, _, _, _, _, _, _, _ => none
 | k + 1, x4, x7, x34, x35, x36, x102000, x103000, x110000 => if x36 < x35 then (if 0 ≤ x36 then (if x36 < (x34.length : Int) then (if x36 < (x7.length : Int) then (if x110000 = 0 then (none) else (if x4.length < 17592186044416 then (QE.l0 k (x4 ++ [wrap64 (Int.tdiv (wrap64 (x103000 * (rd x34 x36))) x110000)]) (x7.set (x36 : Int).toNat x36) x34 x35 (wrap64 (x36 + 1)) x102000 x103000 x110000) else (none))) else (none)) else (none)) else (none)) else ((Qz.f k x7 x103000 x102000 x110000).bind fun t118 => ((QH.f k x4).bind fun t119 => (if 0 ≤ (wrap64 (x103000 - t119)) then (if (wrap64 (x103000 - t119)) ≤ (x7.length : Int) then ((some (t118.take ((wrap64 (x103000 - t119)) : Int).toNat : List Int)).bind fun y120 => (QE.l1 k x4 y120 (y120.length : Int) 0)) else (none)) else (none))))
def QE.l1 : Nat → List Int → List Int → Int → Int → Option (List Int × Int)
 | 0, _, _, _, _ => none
 | k + 1, x4, x62, x63, x64 => if x64 < x63 then (if 0 ≤ x64 then (if x64 < (x62.length : Int) then (if 0 ≤ (rd x62 x64) then (if (rd x62 x64) < (x4.length : Int) then (QE.l1 k (x4.set ((rd x62 x64) : Int).toNat (wrap64 ((rd x4 (rd x62 x64)) + 1))) x62 x63 (wrap64 (x64 + 1))) else (none)) else (none)) else (none)) else (none)) else (some (x4, 0))
end
def QE.f (k : Nat) (l0 : List Int) (a1 : Int) : Option (List Int × Int) := if (l0.length : Int) > 6 then (some (([] : List Int), 5)) else (if (l0.length : Int) = 0 then (some (([] : List Int), 7)) else ((Qk.f 1 100 l0).bind fun t103 => (if t103 = true then ((Qk.f 0 100000 (([a1] : List Int))).bind fun t107 => (if t107 = true then ((QH.f k l0).bind fun t108 => (if 0 ≤ (l0.length : Int) then (if ((l0.length : Int) : Int).toNat ≤ 35184372088832 then (QE.l0 k ([] : List Int) (List.replicate ((l0.length : Int) : Int).toNat 0) l0 (l0.length : Int) 0 l0 a1 t108) else (none)) else (none))) else (some (([] : List Int), 3)))) else (some (([] : List Int), 2)))))
theorem QE.mono_l : ∀ k, (∀ y0 y1 y2 y3 y4 y5 y6 y7, LeO (QE.l0 k y0 y1 y2 y3 y4 y5 y6 y7) (QE.l0 (k + 1) y0 y1 y2 y3 y4 y5 y6 y7)) ∧ (∀ y0 y1 y2 y3, LeO (QE.l1 k y0 y1 y2 y3) (QE.l1 (k + 1) y0 y1 y2 y3))
 | 0 => ⟨fun _ _ _ _ _ _ _ _ r h => by simp [QE.l0] at h, fun _ _ _ _ r h => by simp [QE.l1] at h⟩
 | k + 1 => by
  obtain ⟨ih0, ih1⟩ := QE.mono_l k; refine ⟨?_, ?_⟩
  ·intro y0 y1 y2 y3 y4 y5 y6 y7
   unfold QE.l0
   repeat' first
   | (with_reducible exact ih0 _ _ _ _ _ _ _ _)
   | (with_reducible exact ih1 _ _ _ _)
   | (with_reducible exact Qz.mono _ _ _ _ _)
   | (with_reducible exact QH.mono _ _)
   | (with_reducible exact LeO.refl _)
   | (with_reducible exact LeO.none _)
   | (with_reducible refine LeO.ite ?_ ?_)
   | (with_reducible refine LeO.bind ?_ (fun _ => ?_))
  ·intro y0 y1 y2 y3
   unfold QE.l1
   repeat' first
   | (with_reducible exact ih0 _ _ _ _ _ _ _ _)
   | (with_reducible exact ih1 _ _ _ _)
   | (with_reducible exact Qz.mono _ _ _ _ _)
   | (with_reducible exact QH.mono _ _)
   | (with_reducible exact LeO.refl _)
   | (with_reducible exact LeO.none _)
   | (with_reducible refine LeO.ite ?_ ?_)
   | (with_reducible refine LeO.bind ?_ (fun _ => ?_))
theorem QE.mono : ∀ a0 a1 k, LeO (QE.f k a0 a1) (QE.f (k + 1) a0 a1) := by
 intro a0 a1 k; obtain ⟨ih0, ih1⟩ := QE.mono_l k; unfold QE.f
 repeat' first
   | (with_reducible exact ih0 _ _ _ _ _ _ _ _)
   | (with_reducible exact ih1 _ _ _ _)
   | (with_reducible exact Qz.mono _ _ _ _ _)
   | (with_reducible exact QH.mono _ _)
   | (with_reducible exact LeO.refl _)
   | (with_reducible exact LeO.none _)
   | (with_reducible refine LeO.ite ?_ ?_)
   | (with_reducible refine LeO.bind ?_ (fun _ => ?_))
set_option maxHeartbeats 8000000 in
set_option maxRecDepth 100000 in
theorem QE.calls (k : Nat) (A0 : Option Addr) (c0 : Nat) (l0 : List Int) (a1 : Int) (r1 : List Int) (r2 : Int) (w : World) (hr0 : Kd.C (Kd.int .i64) w A0 l0.length l0) (hc0 : l0.length ≤ c0) (h : QE.f k l0 a1 = some (r1, r2)) :
  Calls Try.prog 4 #[.slice A0 l0.length c0, .int .i64 a1] w fun e w' => ∃ v0_ : Value, e = .returned (.tuple #[v0_, .int .i64 r2]) ∧ Kd.R (Kd.int .i64) 3 w' w.heap.size (fun _ => True) v0_ r1 ∧ Below w.heap.size w w' := by
 have HR0 := Qa.mk hr0; have HC0 := Qa.mk hc0; clear hr0 hc0; have HB := Qa.mk (Below.refl w.heap.size w); have H : (if (l0.length : Int) > 6 then (some (([] : List Int), 5)) else (if (l0.length : Int) = 0 then (some (([] : List Int), 7)) else ((Qk.f 1 100 l0).bind fun t103 => (if t103 = true then ((Qk.f 0 100000 (([a1] : List Int))).bind fun t107 => (if t107 = true then ((QH.f k l0).bind fun t108 => (if 0 ≤ (l0.length : Int) then (if ((l0.length : Int) : Int).toNat ≤ 35184372088832 then (QE.l0 k ([] : List Int) (List.replicate ((l0.length : Int) : Int).toNat 0) l0 (l0.length : Int) 0 l0 a1 t108) else (none)) else (none))) else (some (([] : List Int), 3)))) else (some (([] : List Int), 2)))))) = some (r1, r2) := h; clear h; by_cases c3 : (l0.length : Int) > 6
 ·rw [if_pos c3] at H
  have c3b0 : decide (6 < (l0.length : Int)) = true := decide_eq_true c3; have c3b1 : decide (6 < l0.length) = true := decide_eq_true (by omega); clear c3; simp only [Option.some.injEq, Prod.mk.injEq] at H; obtain ⟨rfl, rfl⟩ := H; go_enter Try.func4, Try.ntmps4; go_wp2_with (first | (refine bx 2 #[.slice A0 l0.length c0] 24 ?_; intro gb101 hg w4 BK101 hb; have GW101 := gs HB hg; replace HB := bs HB hb; clear hb hg) | (refine bx 3 #[.int .i64 a1] 3 ?_; intro gb102 hg w5 BK102 hb; have GW102 := gs HB hg; replace HB := bs HB hb; have NB101_102 := nl BK101 hg; have NB102_101 := nr BK101 hg; replace BK101 := bb BK101 hb; clear hb hg; have hnb6 := NB101_102.out; have hnc6 := NB102_101.out; obtain ⟨hcz7_0, hfz7_0⟩ := cf1 BK101)); go_ret2; exact ⟨_, eT, nn_, pE HB⟩
 ·rw [if_neg c3] at H
  have c3b0 : decide (6 < (l0.length : Int)) = false := decide_eq_false c3; have c3b1 : decide (6 < l0.length) = false := decide_eq_false (by omega); clear c3; by_cases c8 : (l0.length : Int) = 0
  ·rw [if_pos c8] at H
   have c8b0 : ((l0.length : Int) == 0) = true := beq_iff_eq.mpr c8; have c8b1 : ((l0.length : Int) != 0) = false := bne_eq_false_iff_eq.mpr c8; clear c8; simp only [Option.some.injEq, Prod.mk.injEq] at H; obtain ⟨rfl, rfl⟩ := H; go_enter Try.func4, Try.ntmps4; go_wp2_with (first | (refine bx 2 #[.slice A0 l0.length c0] 24 ?_; intro gb101 hg w9 BK101 hb; have GW101 := gs HB hg; replace HB := bs HB hb; clear hb hg) | (refine bx 3 #[.int .i64 a1] 3 ?_; intro gb102 hg w10 BK102 hb; have GW102 := gs HB hg; replace HB := bs HB hb; have NB101_102 := nl BK101 hg; have NB102_101 := nr BK101 hg; replace BK101 := bb BK101 hb; clear hb hg; have hnb11 := NB101_102.out; have hnc11 := NB102_101.out; obtain ⟨hcz12_0, hfz12_0⟩ := cf1 BK101)); go_ret2; exact ⟨_, eT, nn_, pE HB⟩
  ·rw [if_neg c8] at H
   have c8b0 : ((l0.length : Int) == 0) = false := beq_eq_false_iff_ne.mpr c8; have c8b1 : ((l0.length : Int) != 0) = true := bne_iff_ne.mpr c8; have c8b2 : ¬ (l0 = []) := fun h_ => c8 (by rw [h_]; rfl)
   obtain ⟨t103, A13, H⟩ := bi H; by_cases c14 : t103 = true
   ·subst c14
    rw [if_pos rfl] at H; obtain ⟨y104, hy104⟩ : ∃ y_ : List Int, y_ = (([a1] : List Int)) := ⟨_, rfl⟩
    replace H : Option.bind (Qk.f 0 100000 y104) _ = some (r1, r2) := yy hy104 H; have Ny104 := Qa.mk hy104; clear hy104; obtain ⟨t107, A15, H⟩ := bi H; by_cases c16 : t107 = true
    ·subst c16
     rw [if_pos rfl] at H; obtain ⟨t108, A17, H⟩ := bi H; by_cases c18 : 0 ≤ (l0.length : Int)
     ·rw [if_pos c18] at H
      have c18b0 := eq_true c18; have c18b1 : decide (0 ≤ (l0.length : Int)) = true := decide_eq_true c18; clear c18; by_cases c19 : ((l0.length : Int) : Int).toNat ≤ 35184372088832
      ·rw [if_pos c19] at H
       have c19b0 := eq_true c19; have c19b1 : decide (((l0.length : Int) : Int).toNat ≤ 35184372088832) = true := decide_eq_true c19; clear c19; obtain ⟨y110, hy110⟩ : ∃ y_ : List Int, y_ = (List.replicate ((l0.length : Int) : Int).toNat 0) := ⟨_, rfl⟩
       replace H : (QE.l0 k ([] : List Int) y110 l0 (l0.length : Int) 0 l0 a1 t108) = some (r1, r2) := yy hy110 H; have Ny110 := Qa.mk hy110; clear hy110; have H' := Qa.mk H; clear H; go_enter Try.func4, Try.ntmps4; go_wp2_with (first | (refine bx 2 #[.slice A0 l0.length c0] 24 ?_; intro gb101 hg w20 BK101 hb; have GW101 := gs HB hg; replace HB := bs HB hb; clear hb hg) | (refine bx 3 #[.int .i64 a1] 3 ?_; intro gb102 hg w21 BK102 hb; have GW102 := gs HB hg; replace HB := bs HB hb; have NB101_102 := nl BK101 hg; have NB102_101 := nr BK101 hg; replace BK101 := bb BK101 hb; clear hb hg; have hnb22 := NB101_102.out; have hnc22 := NB102_101.out; obtain ⟨hcz23_0, hfz23_0⟩ := cf1 BK101) | (go_at_call 7; (with_reducible refine (Qk.calls 1 100 _ _ l0 true _ ?side1 ?side2 A13.out).mono ?_); (case side1 => exact pC (Kd.C_below HR0.out HB.out)); (case side2 => exact HC0.out); rintro e w24 ⟨rfl, hb⟩; replace BK101 := bb BK101 hb; replace BK102 := bb BK102 hb; replace HB := bs HB hb; (try clear hb); (try clear hb2); (try clear hk); (try clear hi); obtain ⟨hcz25_0, hfz25_0⟩ := cf1 BK102) | ((with_reducible refine gd 26 ?_); refine rL (Kd.int .i64) 3 26 ([a1] : List Int) [.int .i64 a1] (Reps.one (show Kd.M (Kd.int .i64) _ _ _ a1 [.int .i64 a1] from rfl) (Reps.none _ _)) ?_; intro v105 w26 ho27 hb; replace ho27 := yR Ny104 ho27; have HO106 := Qa.mk (Kd.R_lower (Kd.R_newB ho27 (g := gb102) (o := .cells #[.int .i64 a1] 3 (0, 0)) (pB BK102.out)) (Qr (pE HB))); replace BK101 := bb BK101 hb; replace BK102 := bb BK102 hb; replace HB := bs HB hb; clear hb ho27; obtain ⟨Ao28, co28, eo28⟩ := Kd.R_slice HO106.out; subst eo28) | (go_at_call 7; (with_reducible refine (Qk.calls 0 100000 _ _ y104 true _ ?side1 ?side2 A15.out).mono ?_); (case side1 => exact pC (Kd.R_reads' HO106.out).2.2); (case side2 => exact (Kd.R_reads' HO106.out).2.1); rintro e w29 ⟨rfl, hb⟩; replace HO106 := rb HO106 hb; replace BK101 := bb BK101 hb; replace BK102 := bb BK102 hb; replace HB := bs HB hb; (try clear hb); (try clear hb2); (try clear hk); (try clear hi); obtain ⟨hcz30_0, hfz30_0⟩ := cf1 BK101) | (go_at_call 8; (with_reducible refine (QH.calls k _ _ l0 t108 _ ?side1 ?side2 A17.out).mono ?_); (case side1 => exact pC (Kd.C_below HR0.out HB.out)); (case side2 => exact HC0.out); rintro e w' ⟨rfl, ⟨nd, rfl⟩⟩; (try first | exact ⟨rfl, _, World.drewN_drewN _ _ _⟩ | exact ⟨rfl, _, Eq.trans (World.drewN_drewN _ _ _) (congrArg (World.drewN _) (Nat.add_assoc _ _ _))⟩)) | (refine bx 6 #[.int .i64 0] 3 ?_; intro gb109 hg w31 hbox hb; replace HO106 := Qa.mk (Kd.R_below (Kd.R_elderB (pR HO106.out) gb109 (Nat.le_of_eq hg.symm)) hb); have BK109 := hbox; have GW109 := gs HB hg; replace HB := bs HB hb; have NB101_109 := nl BK101 hg; have NB109_101 := nr BK101 hg; replace BK101 := bb BK101 hb; have NB102_109 := nl BK102 hg; have NB109_102 := nr BK102 hg; replace BK102 := bb BK102 hb; clear hb hg; have hnb32 := NB109_101.out; have hnc32 := NB101_109.out; have hnb33 := NB109_102.out; have hnc33 := NB102_109.out; obtain ⟨hcz34_0, hfz34_0⟩ := cf1 BK109; obtain ⟨hcz35_0, hfz35_0⟩ := cf1 BK101) | ((with_reducible refine gd 33 ?_); refine Kd.R_make (Kd.int .i64) _ 3 rfl (N := 33) rfl 24 _ _ rfl (l0.length : Int) rfl rfl Try.underlying24 (.int .i64 0) 8 J5 rfl (by decide) (by omega) 0 (ok := fun _ => True) (okp := fun _ => True) rfl (fun _ hk => hk) trivial (dT) (Nat.le_trans (Nat.mul_le_mul_right _ (dT : (l0.length : Int).toNat ≤ 35184372088832)) (by omega)) (Below.refl _ _) (Nat.le_refl _) ?_; intro v111 w36 ho37 hb hg_ hnew_; clear hg_ hnew_; replace ho37 := yR Ny110 ho37; have HO112 := Qa.mk (Kd.R_lower (Kd.R_newB (Kd.R_newB (Kd.R_new' ho37 (Kd.R_lt (by refine pR ?_; exact (Kd.R_mono (Rf1 (g := gb109) (Kd.R_mono HO106.out (fun k_ hk => (⟨hk, hk.2⟩ : _ ∧ k_ ≠ gb109)))) (fun _ h_ => h_.1))))) (g := gb102) (o := .cells #[.int .i64 a1] 3 (0, 0)) (pF BK102)) (g := gb109) (o := .cells #[.int .i64 t108] 3 (0, 0)) (by refine pB ?_; refine Qg (cs := #[.int .i64 0]) ?_ 0 _ rfl; (with_reducible repeat (first | refine Qt ?_ _ | refine Qh ?_ | refine blk_alloc ?_ _)); exact BK109.out)) (Qr (pE HB))); replace HO106 := Qa.mk (Kd.R_elder' (by refine pR ?_; exact (Kd.R_mono (Rf1 (g := gb109) (Kd.R_mono HO106.out (fun k_ hk => (⟨hk, hk.2⟩ : _ ∧ k_ ≠ gb109)))) (fun _ h_ => h_.1))) (Kd.R_base ho37) hb); replace BK101 := bf BK101 hb; replace BK102 := bf BK102 hb; replace BK109 := Qa.mk (QX (g := gb109) (o := .cells #[.int .i64 t108] 3 (0, 0)) (by refine pB ?_; refine Qg (cs := #[.int .i64 0]) ?_ 0 _ rfl; (with_reducible repeat (first | refine Qt ?_ _ | refine Qh ?_ | refine blk_alloc ?_ _)); exact BK109.out) hb); replace HB := bs HB hb; clear hb ho37; obtain ⟨hcz38_0, hfz38_0⟩ := cf1 BK101))
       repeat (go_quiet (first | (refine bx 2 #[.slice A0 l0.length c0] 24 ?_; intro gb101 hg w20 BK101 hb; have GW101 := gs HB hg; replace HB := bs HB hb; clear hb hg) | (refine bx 3 #[.int .i64 a1] 3 ?_; intro gb102 hg w21 BK102 hb; have GW102 := gs HB hg; replace HB := bs HB hb; have NB101_102 := nl BK101 hg; have NB102_101 := nr BK101 hg; replace BK101 := bb BK101 hb; clear hb hg; have hnb22 := NB101_102.out; have hnc22 := NB102_101.out; obtain ⟨hcz23_0, hfz23_0⟩ := cf1 BK101) | (go_at_call 7; (with_reducible refine (Qk.calls 1 100 _ _ l0 true _ ?side1 ?side2 A13.out).mono ?_); (case side1 => exact pC (Kd.C_below HR0.out HB.out)); (case side2 => exact HC0.out); rintro e w24 ⟨rfl, hb⟩; replace BK101 := bb BK101 hb; replace BK102 := bb BK102 hb; replace HB := bs HB hb; (try clear hb); (try clear hb2); (try clear hk); (try clear hi); obtain ⟨hcz25_0, hfz25_0⟩ := cf1 BK102) | ((with_reducible refine gd 26 ?_); refine rL (Kd.int .i64) 3 26 ([a1] : List Int) [.int .i64 a1] (Reps.one (show Kd.M (Kd.int .i64) _ _ _ a1 [.int .i64 a1] from rfl) (Reps.none _ _)) ?_; intro v105 w26 ho27 hb; replace ho27 := yR Ny104 ho27; have HO106 := Qa.mk (Kd.R_lower (Kd.R_newB ho27 (g := gb102) (o := .cells #[.int .i64 a1] 3 (0, 0)) (pB BK102.out)) (Qr (pE HB))); replace BK101 := bb BK101 hb; replace BK102 := bb BK102 hb; replace HB := bs HB hb; clear hb ho27; obtain ⟨Ao28, co28, eo28⟩ := Kd.R_slice HO106.out; subst eo28) | (go_at_call 7; (with_reducible refine (Qk.calls 0 100000 _ _ y104 true _ ?side1 ?side2 A15.out).mono ?_); (case side1 => exact pC (Kd.R_reads' HO106.out).2.2); (case side2 => exact (Kd.R_reads' HO106.out).2.1); rintro e w29 ⟨rfl, hb⟩; replace HO106 := rb HO106 hb; replace BK101 := bb BK101 hb; replace BK102 := bb BK102 hb; replace HB := bs HB hb; (try clear hb); (try clear hb2); (try clear hk); (try clear hi); obtain ⟨hcz30_0, hfz30_0⟩ := cf1 BK101) | (go_at_call 8; (with_reducible refine (QH.calls k _ _ l0 t108 _ ?side1 ?side2 A17.out).mono ?_); (case side1 => exact pC (Kd.C_below HR0.out HB.out)); (case side2 => exact HC0.out); rintro e w' ⟨rfl, ⟨nd, rfl⟩⟩; (try first | exact ⟨rfl, _, World.drewN_drewN _ _ _⟩ | exact ⟨rfl, _, Eq.trans (World.drewN_drewN _ _ _) (congrArg (World.drewN _) (Nat.add_assoc _ _ _))⟩)) | (refine bx 6 #[.int .i64 0] 3 ?_; intro gb109 hg w31 hbox hb; replace HO106 := Qa.mk (Kd.R_below (Kd.R_elderB (pR HO106.out) gb109 (Nat.le_of_eq hg.symm)) hb); have BK109 := hbox; have GW109 := gs HB hg; replace HB := bs HB hb; have NB101_109 := nl BK101 hg; have NB109_101 := nr BK101 hg; replace BK101 := bb BK101 hb; have NB102_109 := nl BK102 hg; have NB109_102 := nr BK102 hg; replace BK102 := bb BK102 hb; clear hb hg; have hnb32 := NB109_101.out; have hnc32 := NB101_109.out; have hnb33 := NB109_102.out; have hnc33 := NB102_109.out; obtain ⟨hcz34_0, hfz34_0⟩ := cf1 BK109; obtain ⟨hcz35_0, hfz35_0⟩ := cf1 BK101) | ((with_reducible refine gd 33 ?_); refine Kd.R_make (Kd.int .i64) _ 3 rfl (N := 33) rfl 24 _ _ rfl (l0.length : Int) rfl rfl Try.underlying24 (.int .i64 0) 8 J5 rfl (by decide) (by omega) 0 (ok := fun _ => True) (okp := fun _ => True) rfl (fun _ hk => hk) trivial (dT) (Nat.le_trans (Nat.mul_le_mul_right _ (dT : (l0.length : Int).toNat ≤ 35184372088832)) (by omega)) (Below.refl _ _) (Nat.le_refl _) ?_; intro v111 w36 ho37 hb hg_ hnew_; clear hg_ hnew_; replace ho37 := yR Ny110 ho37; have HO112 := Qa.mk (Kd.R_lower (Kd.R_newB (Kd.R_newB (Kd.R_new' ho37 (Kd.R_lt (by refine pR ?_; exact (Kd.R_mono (Rf1 (g := gb109) (Kd.R_mono HO106.out (fun k_ hk => (⟨hk, hk.2⟩ : _ ∧ k_ ≠ gb109)))) (fun _ h_ => h_.1))))) (g := gb102) (o := .cells #[.int .i64 a1] 3 (0, 0)) (pF BK102)) (g := gb109) (o := .cells #[.int .i64 t108] 3 (0, 0)) (by refine pB ?_; refine Qg (cs := #[.int .i64 0]) ?_ 0 _ rfl; (with_reducible repeat (first | refine Qt ?_ _ | refine Qh ?_ | refine blk_alloc ?_ _)); exact BK109.out)) (Qr (pE HB))); replace HO106 := Qa.mk (Kd.R_elder' (by refine pR ?_; exact (Kd.R_mono (Rf1 (g := gb109) (Kd.R_mono HO106.out (fun k_ hk => (⟨hk, hk.2⟩ : _ ∧ k_ ≠ gb109)))) (fun _ h_ => h_.1))) (Kd.R_base ho37) hb); replace BK101 := bf BK101 hb; replace BK102 := bf BK102 hb; replace BK109 := Qa.mk (QX (g := gb109) (o := .cells #[.int .i64 t108] 3 (0, 0)) (by refine pB ?_; refine Qg (cs := #[.int .i64 0]) ?_ 0 _ rfl; (with_reducible repeat (first | refine Qt ?_ _ | refine Qh ?_ | refine blk_alloc ?_ _)); exact BK109.out) hb); replace HB := bs HB hb; clear hb ho37; obtain ⟨hcz38_0, hfz38_0⟩ := cf1 BK101)); try go_wp2_with (first | (refine bx 2 #[.slice A0 l0.length c0] 24 ?_; intro gb101 hg w20 BK101 hb; have GW101 := gs HB hg; replace HB := bs HB hb; clear hb hg) | (refine bx 3 #[.int .i64 a1] 3 ?_; intro gb102 hg w21 BK102 hb; have GW102 := gs HB hg; replace HB := bs HB hb; have NB101_102 := nl BK101 hg; have NB102_101 := nr BK101 hg; replace BK101 := bb BK101 hb; clear hb hg; have hnb22 := NB101_102.out; have hnc22 := NB102_101.out; obtain ⟨hcz23_0, hfz23_0⟩ := cf1 BK101) | (go_at_call 7; (with_reducible refine (Qk.calls 1 100 _ _ l0 true _ ?side1 ?side2 A13.out).mono ?_); (case side1 => exact pC (Kd.C_below HR0.out HB.out)); (case side2 => exact HC0.out); rintro e w24 ⟨rfl, hb⟩; replace BK101 := bb BK101 hb; replace BK102 := bb BK102 hb; replace HB := bs HB hb; (try clear hb); (try clear hb2); (try clear hk); (try clear hi); obtain ⟨hcz25_0, hfz25_0⟩ := cf1 BK102) | ((with_reducible refine gd 26 ?_); refine rL (Kd.int .i64) 3 26 ([a1] : List Int) [.int .i64 a1] (Reps.one (show Kd.M (Kd.int .i64) _ _ _ a1 [.int .i64 a1] from rfl) (Reps.none _ _)) ?_; intro v105 w26 ho27 hb; replace ho27 := yR Ny104 ho27; have HO106 := Qa.mk (Kd.R_lower (Kd.R_newB ho27 (g := gb102) (o := .cells #[.int .i64 a1] 3 (0, 0)) (pB BK102.out)) (Qr (pE HB))); replace BK101 := bb BK101 hb; replace BK102 := bb BK102 hb; replace HB := bs HB hb; clear hb ho27; obtain ⟨Ao28, co28, eo28⟩ := Kd.R_slice HO106.out; subst eo28) | (go_at_call 7; (with_reducible refine (Qk.calls 0 100000 _ _ y104 true _ ?side1 ?side2 A15.out).mono ?_); (case side1 => exact pC (Kd.R_reads' HO106.out).2.2); (case side2 => exact (Kd.R_reads' HO106.out).2.1); rintro e w29 ⟨rfl, hb⟩; replace HO106 := rb HO106 hb; replace BK101 := bb BK101 hb; replace BK102 := bb BK102 hb; replace HB := bs HB hb; (try clear hb); (try clear hb2); (try clear hk); (try clear hi); obtain ⟨hcz30_0, hfz30_0⟩ := cf1 BK101) | (go_at_call 8; (with_reducible refine (QH.calls k _ _ l0 t108 _ ?side1 ?side2 A17.out).mono ?_); (case side1 => exact pC (Kd.C_below HR0.out HB.out)); (case side2 => exact HC0.out); rintro e w' ⟨rfl, ⟨nd, rfl⟩⟩; (try first | exact ⟨rfl, _, World.drewN_drewN _ _ _⟩ | exact ⟨rfl, _, Eq.trans (World.drewN_drewN _ _ _) (congrArg (World.drewN _) (Nat.add_assoc _ _ _))⟩)) | (refine bx 6 #[.int .i64 0] 3 ?_; intro gb109 hg w31 hbox hb; replace HO106 := Qa.mk (Kd.R_below (Kd.R_elderB (pR HO106.out) gb109 (Nat.le_of_eq hg.symm)) hb); have BK109 := hbox; have GW109 := gs HB hg; replace HB := bs HB hb; have NB101_109 := nl BK101 hg; have NB109_101 := nr BK101 hg; replace BK101 := bb BK101 hb; have NB102_109 := nl BK102 hg; have NB109_102 := nr BK102 hg; replace BK102 := bb BK102 hb; clear hb hg; have hnb32 := NB109_101.out; have hnc32 := NB101_109.out; have hnb33 := NB109_102.out; have hnc33 := NB102_109.out; obtain ⟨hcz34_0, hfz34_0⟩ := cf1 BK109; obtain ⟨hcz35_0, hfz35_0⟩ := cf1 BK101) | ((with_reducible refine gd 33 ?_); refine Kd.R_make (Kd.int .i64) _ 3 rfl (N := 33) rfl 24 _ _ rfl (l0.length : Int) rfl rfl Try.underlying24 (.int .i64 0) 8 J5 rfl (by decide) (by omega) 0 (ok := fun _ => True) (okp := fun _ => True) rfl (fun _ hk => hk) trivial (dT) (Nat.le_trans (Nat.mul_le_mul_right _ (dT : (l0.length : Int).toNat ≤ 35184372088832)) (by omega)) (Below.refl _ _) (Nat.le_refl _) ?_; intro v111 w36 ho37 hb hg_ hnew_; clear hg_ hnew_; replace ho37 := yR Ny110 ho37; have HO112 := Qa.mk (Kd.R_lower (Kd.R_newB (Kd.R_newB (Kd.R_new' ho37 (Kd.R_lt (by refine pR ?_; exact (Kd.R_mono (Rf1 (g := gb109) (Kd.R_mono HO106.out (fun k_ hk => (⟨hk, hk.2⟩ : _ ∧ k_ ≠ gb109)))) (fun _ h_ => h_.1))))) (g := gb102) (o := .cells #[.int .i64 a1] 3 (0, 0)) (pF BK102)) (g := gb109) (o := .cells #[.int .i64 t108] 3 (0, 0)) (by refine pB ?_; refine Qg (cs := #[.int .i64 0]) ?_ 0 _ rfl; (with_reducible repeat (first | refine Qt ?_ _ | refine Qh ?_ | refine blk_alloc ?_ _)); exact BK109.out)) (Qr (pE HB))); replace HO106 := Qa.mk (Kd.R_elder' (by refine pR ?_; exact (Kd.R_mono (Rf1 (g := gb109) (Kd.R_mono HO106.out (fun k_ hk => (⟨hk, hk.2⟩ : _ ∧ k_ ≠ gb109)))) (fun _ h_ => h_.1))) (Kd.R_base ho37) hb); replace BK101 := bf BK101 hb; replace BK102 := bf BK102 hb; replace BK109 := Qa.mk (QX (g := gb109) (o := .cells #[.int .i64 t108] 3 (0, 0)) (by refine pB ?_; refine Qg (cs := #[.int .i64 0]) ?_ 0 _ rfl; (with_reducible repeat (first | refine Qt ?_ _ | refine Qh ?_ | refine blk_alloc ?_ _)); exact BK109.out) hb); replace HB := bs HB hb; clear hb ho37; obtain ⟨hcz38_0, hfz38_0⟩ := cf1 BK101)))
       go_loopg [4, 36] k (fun kq v4 v36 w' => ∃ (x4_1 : List Int) (x7_1 : List Int) (x36_1 : Int), v36 = .int .i64 x36_1 ∧ Qa (QE.l0 kq x4_1 x7_1 l0 (l0.length : Int) x36_1 l0 a1 t108 = some (r1, r2)) ∧ Qa (kq ≤ k) ∧ Qa (Kd.R (Kd.int .i64) 3 w' w.heap.size (fun k_ => some k_ ≠ (v111 : Value).ownBlock ∧ k_ ≠ gb102 ∧ k_ ≠ gb109) v4 x4_1) ∧ Qa (Kd.R (Kd.int .i64) 3 w' w.heap.size (fun k_ => some k_ ≠ (v4 : Value).ownBlock ∧ k_ ≠ gb102 ∧ k_ ≠ gb109) v111 x7_1) ∧ Qa (w'.heap[gb101]? = some (.cells #[(.slice A0 l0.length c0)] 24 (0, 0))) ∧ Qa (w'.heap[gb102]? = some (.cells #[.int .i64 a1] 3 (0, 0))) ∧ Qa (w'.heap[gb109]? = some (.cells #[.int .i64 t108] 3 (0, 0))) ∧ Qa (Below w.heap.size w w'))
       case atStart => exact ⟨(([] : List Int)), (y110), (0), eS, H', ⟨Nat.le_refl _⟩, ⟨nn_⟩, ⟨by (with_reducible repeat (first | apply Kd.R_alloc | apply Kd.R_drewN | apply Kd.R_drew)); exact Kd.R_mono HO112.out (fun _ hk => ⟨(by simp [Value.ownBlock]), ⟨hk.1.2, hk.2⟩⟩)⟩, ⟨pB BK101.out⟩, ⟨pB BK102.out⟩, ⟨pB BK109.out⟩, ⟨pE HB⟩⟩
       case round =>
        clear H'; try clear c1
        try clear c2
        try clear p2
        try clear c3
        try clear c3b0
        try clear c3b1
        try clear c4
        try clear c6
        try clear c8
        try clear c8b0
        try clear c8b1
        try clear c8b2
        try clear c11
        try clear c14
        try clear c16
        try clear c18
        try clear c18b0
        try clear c18b1
        try clear c19
        try clear c19b0
        try clear c19b1
        try clear c22
        try clear c32
        try clear c33
        try clear hcz12_0
        try clear hcz23_0
        try clear hcz25_0
        try clear hcz30_0
        try clear hcz34_0
        try clear hcz35_0
        try clear hcz38_0
        try clear hcz7_0
        try clear hfz12_0
        try clear hfz23_0
        try clear hfz25_0
        try clear hfz30_0
        try clear hfz34_0
        try clear hfz35_0
        try clear hfz38_0
        try clear hfz7_0
        obtain ⟨x4_1, x7_1, x36_1, rfl, HA, HK1, HO_4, HO_7, BK101, BK102, BK109, HB⟩ := hrel
        cases gk with
        | zero => exact absurd HA.out (by simp [QE.l0])
        | succ k1 =>
         have H := HA.out; clear HA; simp only [QE.l0] at H; by_cases c39 : x36_1 < (l0.length : Int)
         ·rw [if_pos c39] at H
          have c39b0 : decide (x36_1 < (l0.length : Int)) = true := decide_eq_true c39; clear c39; by_cases c40 : 0 ≤ x36_1
          ·rw [if_pos c40] at H
           have c40b0 : decide (0 ≤ x36_1) = true := decide_eq_true c40; clear c40; by_cases c41 : x36_1 < (l0.length : Int)
           ·rw [if_pos c41] at H
            have c41b0 : decide (x36_1 < (l0.length : Int)) = true := decide_eq_true c41; clear c41; by_cases c42 : x36_1 < (x7_1.length : Int)
            ·rw [if_pos c42] at H
             have c42b0 : decide (x36_1 < (x7_1.length : Int)) = true := decide_eq_true c42; clear c42; obtain ⟨y114, hy114⟩ : ∃ y_ : List Int, y_ = (x7_1.set (x36_1 : Int).toNat x36_1) := ⟨_, rfl⟩
             replace H : (if t108 = 0 then (none) else (if x4_1.length < 17592186044416 then (QE.l0 k1 (x4_1 ++ [wrap64 (Int.tdiv (wrap64 (a1 * (rd l0 x36_1))) t108)]) y114 l0 (l0.length : Int) (wrap64 (x36_1 + 1)) l0 a1 t108) else (none))) = some (r1, r2) := yy hy114 H; have Ny114 := Qa.mk hy114; clear hy114; by_cases c44 : t108 = 0
             ·rw [if_pos c44] at H
              exact absurd H (by simp)
             ·rw [if_neg c44] at H
              have c44b0 : (t108 == 0) = false := beq_eq_false_iff_ne.mpr c44; have c44b1 : (t108 != 0) = true := bne_iff_ne.mpr c44; by_cases c45 : x4_1.length < 17592186044416
              ·rw [if_pos c45] at H
               have LMc45 := Qa.mk c45; clear c45; obtain ⟨y115, hy115⟩ : ∃ y_ : List Int, y_ = (x4_1 ++ [wrap64 (Int.tdiv (wrap64 (a1 * (rd l0 x36_1))) t108)]) := ⟨_, rfl⟩
               replace H : (QE.l0 k1 y115 y114 l0 (l0.length : Int) (wrap64 (x36_1 + 1)) l0 a1 t108) = some (r1, r2) := yy hy115 H; have Ny115 := Qa.mk hy115; clear hy115; have H' := Qa.mk H; clear H; have p113 : 0 ≤ (x36_1 : Int) := dT; have q113 : x36_1 < (l0.length : Int) := dT; obtain ⟨ad113, e113, hx113_0⟩ := Kd.at_int HR0.out x36_1 p113 q113
               cases e113
               replace hx113_0 := cut_ HB hx113_0; replace p113 := eq_true p113; replace q113 := eq_true q113; have p43 : 0 ≤ (x36_1 : Int) := dT; have q43 : (x36_1 : Int) < ((x7_1.length : Int) : Int) := dT; obtain ⟨go43, co43, eo43, gb43, gl43, cl43, HG43⟩ := Kd.R_form HO_7.out (by omega)
               (first | cases eo43 | (injection eo43 with ea_ en_ ec_; (first | subst ea_ | (injection ea_ with ea_; subst ea_)); subst ec_; clear en_))
               have GB43 := Qa.mk gb43; have GG43 := Qa.mk HG43; clear gb43 gl43 HG43; obtain ⟨hx43_0, hf43_0⟩ := Kd.R_celln 0 HO_7.out (x36_1 : Int) p43 q43; replace p43 := eq_true p43; replace q43 := eq_true q43; have HP46 := Kd.R_putg HO_7.out (x36_1 : Int) x36_1; go_wp2_with (first | ((with_reducible refine Z3 (t := 3) (p := 44) rfl ?_); (try (rw [Z2 wr]; generalize hq_ : World.drewN wr _ = wr; replace HO_4 := Qa.mk (Kd.R_at hq_ HO_4.out); replace HO_7 := Qa.mk (Kd.R_at hq_ HO_7.out); replace BK101 := Qa.mk (blk_at hq_ BK101.out); replace BK102 := Qa.mk (blk_at hq_ BK102.out); replace BK109 := Qa.mk (blk_at hq_ BK109.out); replace HB := Qa.mk (below_at hq_ HB.out); clear hq_; (try (have HP46 := Kd.R_putg HO_7.out (x36_1 : Int) x36_1)))); refine ZX (t := 3) (p := 44) (v := ?vo_w47) (w1 := (wr.setCell ⟨go43, (x36_1 : Int).toNat, none⟩ (.int .i64 x36_1))) ?hg ?ho ?hn ?hr ?_; (case ho => rfl); (case hg => rfl); (case hn => rfl); (case hr => first | (go_simp; done) | (go_simp; rfl)); intro w47 hw; have hg : wr.grownBy w47 (some go43) := (by rw [hw]; exact HP46.2); have hp_ : Kd.R (Kd.int .i64) 3 w47 w.heap.size (fun k_ => some k_ ≠ (u4 : Value).ownBlock ∧ k_ ≠ gb102 ∧ k_ ≠ gb109) (.slice (some ⟨go43, 0, none⟩) x7_1.length co43) y114 := (by rw [hw, Ny114.out]; exact HP46.1); clear HP46; replace HO_4 := Qa.mk (Kd.R_after (v := (.slice (some ⟨go43, 0, none⟩) x7_1.length co43)) (v1 := (.slice (some ⟨go43, 0, none⟩) x7_1.length co43)) (ok := (fun k_ => k_ ≠ gb102 ∧ k_ ≠ gb109)) (by refine pR ?_; exact Kd.R_mono HO_4.out (fun _ hk => ⟨⟨hk.2.1, hk.2.2⟩, hk.1⟩)) hg (.inl rfl)); replace BK101 := Qa.mk (Ja (g := gb101) (o := .cells #[.slice (some ad113) l0.length c0] 24 (0, 0)) (pB BK101.out) hg (Kd.R_ne HO_7.out BK101.out (by decide))); replace BK102 := Qa.mk (Ja (g := gb102) (o := .cells #[.int .i64 a1] 3 (0, 0)) (pB BK102.out) hg (Kd.R_away HO_7.out (fun _ hk => hk.2.1))); replace BK109 := Qa.mk (Ja (g := gb109) (o := .cells #[.int .i64 t108] 3 (0, 0)) (pB BK109.out) hg (Kd.R_away HO_7.out (fun _ hk => hk.2.2))); replace HO_7 := Qa.mk (hp_); replace HB := Qa.mk ((by rw [hw]; exact Q3 (HB.out) GB43.out : Below w.heap.size w w47)); clear hg hw hp_; have hnb48 := NB102_101.out; have hnc48 := NB101_102.out; have hnb49 := NB102_109.out; have hnc49 := NB109_102.out; obtain ⟨hcz50_0, hfz50_0⟩ := cf1 BK102; have hnb51 := NB109_101.out; have hnc51 := NB101_109.out; obtain ⟨hcz52_0, hfz52_0⟩ := cf1 BK109) | ((with_reducible refine JA (b := .append) (xs := #[.tmp 45, .tmp 51]) rfl ?_); at_builtin; refine Kd.R_append (Kd.int .i64) (w0 := w) w.heap.size rfl (.tmp 45) (.tmp 51) 24 3 (.int .i64 0) 8 rfl Try.underlying24 J5 rfl (by decide) (by omega) u4 x4_1 (wrap64 (Int.tdiv (wrap64 (a1 * (rd l0 x36_1))) t108)) [.int .i64 (wrap64 (Int.tdiv (wrap64 (a1 * (rd l0 x36_1))) t108))] (fun k_ => some k_ ≠ (.slice (some ⟨go43, 0, none⟩) x7_1.length co43 : Value).ownBlock ∧ k_ ≠ gb102 ∧ k_ ≠ gb109) (fun _ => False) rfl rfl ?aP (fun _ hk => hk.elim) ?aF ?aO ?aB ?aS ?aL ?_; (case aP => exact rfl); (case aB => exact (pE HB)); (case aF => exact (fun k_ hk => ⟨Kd.fresh' (Kd.R_lt (pR HO_7.out)) k_ hk, Kd.freshB (g := gb102) (o := .cells #[.int .i64 a1] 3 (0, 0)) (pB BK102.out) k_ hk, Kd.freshB (g := gb109) (o := .cells #[.int .i64 t108] 3 (0, 0)) (pB BK109.out) k_ hk⟩)); (case aO => exact (by refine pR ?_; exact Kd.R_mono HO_4.out (fun _ hk => ⟨hk.2, ⟨hk.1.1, hk.1.2⟩⟩))); (case aS => exact (Qr (pE HB))); (case aL => have := LMc45.out; omega); intro v116 w53 ho hb hg hat; rw [← Ny115.out] at ho; replace HO_7 := Qa.mk (Kd.R_after (ok := (fun k_ => k_ ≠ gb102 ∧ k_ ≠ gb109)) (by refine pR ?_; exact Kd.R_mono HO_7.out (fun _ hk => ⟨⟨hk.2.1, hk.2.2⟩, hk.1⟩)) hg hat); replace BK101 := Qa.mk (Ja (g := gb101) (o := .cells #[.slice (some ad113) l0.length c0] 24 (0, 0)) (pB BK101.out) hg (Kd.R_ne HO_4.out BK101.out (by decide))); replace BK102 := Qa.mk (Ja (g := gb102) (o := .cells #[.int .i64 a1] 3 (0, 0)) (pB BK102.out) hg (Kd.R_away HO_4.out (fun _ hk => hk.1.1))); replace BK109 := Qa.mk (Ja (g := gb109) (o := .cells #[.int .i64 t108] 3 (0, 0)) (pB BK109.out) hg (Kd.R_away HO_4.out (fun _ hk => hk.1.2))); replace HB := Qa.mk (hb); have HO117 := Qa.mk (ho); clear HO_4; clear ho hb hg hat))
               go_roundg k1
               case measure => have := HK1.out; omega
               case rel => exact ⟨(y115), (y114), (wrap64 (x36_1 + 1)), eS, H', ⟨by have := HK1.out; omega⟩, ⟨by (with_reducible repeat (first | apply Kd.R_alloc | apply Kd.R_drewN | apply Kd.R_drew)); exact HO117.out⟩, ⟨by (with_reducible repeat (first | apply Kd.R_alloc | apply Kd.R_drewN | apply Kd.R_drew)); exact Kd.R_mono HO_7.out (fun _ hk => ⟨hk.2, ⟨hk.1.1, hk.1.2⟩⟩)⟩, ⟨pB BK101.out⟩, ⟨pB BK102.out⟩, ⟨pB BK109.out⟩, ⟨pE HB⟩⟩
              ·rw [if_neg c45] at H
               exact absurd H (by simp)
            ·rw [if_neg c42] at H
             exact absurd H (by simp)
           ·rw [if_neg c41] at H
            exact absurd H (by simp)
          ·rw [if_neg c40] at H
           exact absurd H (by simp)
         ·rw [if_neg c39] at H
          have c39b0 : decide (x36_1 < (l0.length : Int)) = false := decide_eq_false c39; clear c39; obtain ⟨t118, A54, H⟩ := bi H; obtain ⟨t119, A55, H⟩ := bi H; obtain ⟨ji56, hji56⟩ : ∃ j_ : Int, (wrap64 (a1 - t119)) = j_ := ⟨_, rfl⟩
          replace H : (if 0 ≤ (ji56) then (if (ji56) ≤ (x7_1.length : Int) then ((some (t118.take ((ji56) : Int).toNat : List Int)).bind fun y120 => (QE.l1 k1 x4_1 y120 (y120.length : Int) 0)) else (none)) else (none)) = some (r1, r2) := by first | (rw [hji56] at H; exact H) | (simp only [hji56] at H ⊢; exact H)
          (try rw [hji56] at A54)
          (try rw [hji56] at A55)
          have hji56w : (IntKind.i64.wrap (a1 - t119)) = ji56 := (QR _).trans hji56; by_cases c57 : 0 ≤ (ji56)
          ·rw [if_pos c57] at H
           have c57b0 := eq_true c57; have c57b1 : decide (0 ≤ (ji56)) = true := decide_eq_true c57; clear c57; by_cases c58 : (ji56) ≤ (x7_1.length : Int)
           ·rw [if_pos c58] at H
            have c58b0 := eq_true c58; have c58b1 : decide ((ji56) ≤ (x7_1.length : Int)) = true := decide_eq_true c58; clear c58; obtain ⟨y120, hy120⟩ : ∃ y_ : List Int, y_ = (t118.take ((ji56) : Int).toNat) := ⟨_, rfl⟩
            replace H : (QE.l1 k1 x4_1 y120 (y120.length : Int) 0) = some (r1, r2) := yy hy120 H; have Ny120 := Qa.mk hy120; clear hy120; have H' := Qa.mk H; clear H; obtain ⟨Ao59, co59, eo59⟩ := Kd.R_slice HO_7.out; subst eo59; go_wp2_with (first | (go_at_call 9; (with_reducible refine (Qz.calls k1 (fun k_ => some k_ = (.slice Ao59 x7_1.length co59 : Value).ownBlock) (.slice Ao59 x7_1.length co59) x7_1 gb102 a1 gb101 A0 c0 l0 gb109 t108 t118 w _ ?side1 ?side2 ?side3 ?side4 ?side5 ?side6 ?side7 ?side8 ?side9 ?side10 ?side11 ?side12 ?side13 A54.out).mono ?_); (case side1 => repeat (first | (with_reducible first | exact HB.out | apply QO | apply Ji | apply QM | refine Q3 ?_ GW101.out | refine Q3 ?_ GW102.out | refine Q3 ?_ GW109.out) | exact HB.out)); (case side2 => exact Kd.R_tight rfl HO_7.out); (case side3 => exact pB BK102.out); (case side4 => exact pB BK101.out); (case side5 => exact NB102_101.out); (case side6 => exact Kd.C_kept_came (Kd.heap_int .i64) HR0.out (pE HB) (fun k_ hs_ => (fun e_ => Kd.R_base HO_7.out k_ e_.symm) hs_)); (case side7 => exact HC0.out); (case side8 => exact pB BK109.out); (case side9 => exact NB102_109.out); (case side10 => exact NB101_109.out); (case side11 => exact Kd.R_away HO_7.out (fun _ hk => hk.2.1)); (case side12 => exact Kd.R_ne HO_7.out BK101.out (by decide)); (case side13 => exact Kd.R_away HO_7.out (fun _ hk => hk.2.2)); rintro e w60 ⟨rfl, hy0, hb, hkp⟩; replace HO_4 := Qa.mk (Kd.R_mono (ok' := fun k_ => some k_ ≠ (.slice Ao59 x7_1.length co59 : Value).ownBlock ∧ k_ ≠ gb102 ∧ k_ ≠ gb109) (Kd.R_keptB (HO_4.out) hkp (fun k_ hk_ hs_ => (hk_.1) hs_)) (fun k_ hk_ => ⟨hk_.1.1, hk_.1.2.1, hk_.1.2.2⟩)); replace BK101 := Qa.mk (Jn (pB BK101.out) hkp (fun hs_ => (fun e_ => (Kd.R_ne HO_7.out BK101.out (by decide)) e_) hs_)); replace BK102 := Qa.mk (Jn (pB BK102.out) hkp (fun hs_ => (fun e_ => (Kd.R_away HO_7.out (fun _ hk => hk.2.1)) e_) hs_)); replace BK109 := Qa.mk (Jn (pB BK109.out) hkp (fun hs_ => (fun e_ => (Kd.R_away HO_7.out (fun _ hk => hk.2.2)) e_) hs_)); replace HO_7 := Qa.mk (Kd.R_reok rfl hy0 (fun k_ e_ => HO_7.out.1 k_ e_)); replace HB := Qa.mk (hb); (try clear hb); (try clear hkp); (try clear hy0); have hnb61 := NB102_101.out; have hnc61 := NB101_102.out; have hnb62 := NB102_109.out; have hnc62 := NB109_102.out; obtain ⟨hcz63_0, hfz63_0⟩ := cf1 BK102; obtain ⟨Ao64, co64, eo64⟩ := Kd.R_slice HO_4.out; subst eo64) | (go_at_call 8; (with_reducible refine (QH.calls k1 _ _ x4_1 t119 _ ?side1 ?side2 A55.out).mono ?_); (case side1 => exact pC (Kd.R_reads' HO_4.out).2.2); (case side2 => exact (Kd.R_reads' HO_4.out).2.1); rintro e w' ⟨rfl, ⟨nd, rfl⟩⟩; (try first | exact ⟨rfl, _, World.drewN_drewN _ _ _⟩ | exact ⟨rfl, _, Eq.trans (World.drewN_drewN _ _ _) (congrArg (World.drewN _) (Nat.add_assoc _ _ _))⟩); have hlx65 := (Kd.R_reads' HO_7.out).1; have q65 : ((ji56) : Int) ≤ ((x7_1.length : Int) : Int) := dT; obtain ⟨i065, hi065, _, hsz65, _⟩ := info_parts J5; have hroom65 : x7_1.length ≤ co59 := (Kd.R_reads' HO_7.out).2.1; have hroomc65 : t118.length ≤ co59 := (by rw [← hlx65]; exact hroom65); have hC65 : Kd.C (Kd.int .i64) _ Ao59 t118.length t118 := (Kd.R_reads' HO_7.out).2.2; have hcut65 := X5 (P := Try.prog) 24 3 .i64 Try.underlying24 hi065 Ao59 x7_1.length co59 (ji56) (dT) q65 hroom65; have hr65 := Kd.C_take (m := ((ji56) : Int).toNat) hC65 (by omega); have hy65 : y120.length = ((ji56) : Int).toNat := (by rw [Ny120.out, List.length_take]; omega); rw [← Ny120.out] at hr65; rw [← hy65] at hcut65; have HR123 := Qa.mk hr65; have HC123 := Qa.mk (show y120.length ≤ co59 from by omega); clear hr65 hC65 hroom65 hi065 hsz65 hroomc65; have KY65 := Qa.mk hy65; clear hy65; have KE65 := Qa.mk hlx65; have KL65 := Qa.mk (show ((ji56) : Int).toNat ≤ t118.length from by omega); clear hlx65; replace q65 := eq_true q65))
            repeat (go_quiet (first | (go_at_call 9; (with_reducible refine (Qz.calls k1 (fun k_ => some k_ = (.slice Ao59 x7_1.length co59 : Value).ownBlock) (.slice Ao59 x7_1.length co59) x7_1 gb102 a1 gb101 A0 c0 l0 gb109 t108 t118 w _ ?side1 ?side2 ?side3 ?side4 ?side5 ?side6 ?side7 ?side8 ?side9 ?side10 ?side11 ?side12 ?side13 A54.out).mono ?_); (case side1 => repeat (first | (with_reducible first | exact HB.out | apply QO | apply Ji | apply QM | refine Q3 ?_ GW101.out | refine Q3 ?_ GW102.out | refine Q3 ?_ GW109.out) | exact HB.out)); (case side2 => exact Kd.R_tight rfl HO_7.out); (case side3 => exact pB BK102.out); (case side4 => exact pB BK101.out); (case side5 => exact NB102_101.out); (case side6 => exact Kd.C_kept_came (Kd.heap_int .i64) HR0.out (pE HB) (fun k_ hs_ => (fun e_ => Kd.R_base HO_7.out k_ e_.symm) hs_)); (case side7 => exact HC0.out); (case side8 => exact pB BK109.out); (case side9 => exact NB102_109.out); (case side10 => exact NB101_109.out); (case side11 => exact Kd.R_away HO_7.out (fun _ hk => hk.2.1)); (case side12 => exact Kd.R_ne HO_7.out BK101.out (by decide)); (case side13 => exact Kd.R_away HO_7.out (fun _ hk => hk.2.2)); rintro e w60 ⟨rfl, hy0, hb, hkp⟩; replace HO_4 := Qa.mk (Kd.R_mono (ok' := fun k_ => some k_ ≠ (.slice Ao59 x7_1.length co59 : Value).ownBlock ∧ k_ ≠ gb102 ∧ k_ ≠ gb109) (Kd.R_keptB (HO_4.out) hkp (fun k_ hk_ hs_ => (hk_.1) hs_)) (fun k_ hk_ => ⟨hk_.1.1, hk_.1.2.1, hk_.1.2.2⟩)); replace BK101 := Qa.mk (Jn (pB BK101.out) hkp (fun hs_ => (fun e_ => (Kd.R_ne HO_7.out BK101.out (by decide)) e_) hs_)); replace BK102 := Qa.mk (Jn (pB BK102.out) hkp (fun hs_ => (fun e_ => (Kd.R_away HO_7.out (fun _ hk => hk.2.1)) e_) hs_)); replace BK109 := Qa.mk (Jn (pB BK109.out) hkp (fun hs_ => (fun e_ => (Kd.R_away HO_7.out (fun _ hk => hk.2.2)) e_) hs_)); replace HO_7 := Qa.mk (Kd.R_reok rfl hy0 (fun k_ e_ => HO_7.out.1 k_ e_)); replace HB := Qa.mk (hb); (try clear hb); (try clear hkp); (try clear hy0); have hnb61 := NB102_101.out; have hnc61 := NB101_102.out; have hnb62 := NB102_109.out; have hnc62 := NB109_102.out; obtain ⟨hcz63_0, hfz63_0⟩ := cf1 BK102; obtain ⟨Ao64, co64, eo64⟩ := Kd.R_slice HO_4.out; subst eo64) | (go_at_call 8; (with_reducible refine (QH.calls k1 _ _ x4_1 t119 _ ?side1 ?side2 A55.out).mono ?_); (case side1 => exact pC (Kd.R_reads' HO_4.out).2.2); (case side2 => exact (Kd.R_reads' HO_4.out).2.1); rintro e w' ⟨rfl, ⟨nd, rfl⟩⟩; (try first | exact ⟨rfl, _, World.drewN_drewN _ _ _⟩ | exact ⟨rfl, _, Eq.trans (World.drewN_drewN _ _ _) (congrArg (World.drewN _) (Nat.add_assoc _ _ _))⟩); have hlx65 := (Kd.R_reads' HO_7.out).1; have q65 : ((ji56) : Int) ≤ ((x7_1.length : Int) : Int) := dT; obtain ⟨i065, hi065, _, hsz65, _⟩ := info_parts J5; have hroom65 : x7_1.length ≤ co59 := (Kd.R_reads' HO_7.out).2.1; have hroomc65 : t118.length ≤ co59 := (by rw [← hlx65]; exact hroom65); have hC65 : Kd.C (Kd.int .i64) _ Ao59 t118.length t118 := (Kd.R_reads' HO_7.out).2.2; have hcut65 := X5 (P := Try.prog) 24 3 .i64 Try.underlying24 hi065 Ao59 x7_1.length co59 (ji56) (dT) q65 hroom65; have hr65 := Kd.C_take (m := ((ji56) : Int).toNat) hC65 (by omega); have hy65 : y120.length = ((ji56) : Int).toNat := (by rw [Ny120.out, List.length_take]; omega); rw [← Ny120.out] at hr65; rw [← hy65] at hcut65; have HR123 := Qa.mk hr65; have HC123 := Qa.mk (show y120.length ≤ co59 from by omega); clear hr65 hC65 hroom65 hi065 hsz65 hroomc65; have KY65 := Qa.mk hy65; clear hy65; have KE65 := Qa.mk hlx65; have KL65 := Qa.mk (show ((ji56) : Int).toNat ≤ t118.length from by omega); clear hlx65; replace q65 := eq_true q65)); try go_wp2_with (first | (go_at_call 9; (with_reducible refine (Qz.calls k1 (fun k_ => some k_ = (.slice Ao59 x7_1.length co59 : Value).ownBlock) (.slice Ao59 x7_1.length co59) x7_1 gb102 a1 gb101 A0 c0 l0 gb109 t108 t118 w _ ?side1 ?side2 ?side3 ?side4 ?side5 ?side6 ?side7 ?side8 ?side9 ?side10 ?side11 ?side12 ?side13 A54.out).mono ?_); (case side1 => repeat (first | (with_reducible first | exact HB.out | apply QO | apply Ji | apply QM | refine Q3 ?_ GW101.out | refine Q3 ?_ GW102.out | refine Q3 ?_ GW109.out) | exact HB.out)); (case side2 => exact Kd.R_tight rfl HO_7.out); (case side3 => exact pB BK102.out); (case side4 => exact pB BK101.out); (case side5 => exact NB102_101.out); (case side6 => exact Kd.C_kept_came (Kd.heap_int .i64) HR0.out (pE HB) (fun k_ hs_ => (fun e_ => Kd.R_base HO_7.out k_ e_.symm) hs_)); (case side7 => exact HC0.out); (case side8 => exact pB BK109.out); (case side9 => exact NB102_109.out); (case side10 => exact NB101_109.out); (case side11 => exact Kd.R_away HO_7.out (fun _ hk => hk.2.1)); (case side12 => exact Kd.R_ne HO_7.out BK101.out (by decide)); (case side13 => exact Kd.R_away HO_7.out (fun _ hk => hk.2.2)); rintro e w60 ⟨rfl, hy0, hb, hkp⟩; replace HO_4 := Qa.mk (Kd.R_mono (ok' := fun k_ => some k_ ≠ (.slice Ao59 x7_1.length co59 : Value).ownBlock ∧ k_ ≠ gb102 ∧ k_ ≠ gb109) (Kd.R_keptB (HO_4.out) hkp (fun k_ hk_ hs_ => (hk_.1) hs_)) (fun k_ hk_ => ⟨hk_.1.1, hk_.1.2.1, hk_.1.2.2⟩)); replace BK101 := Qa.mk (Jn (pB BK101.out) hkp (fun hs_ => (fun e_ => (Kd.R_ne HO_7.out BK101.out (by decide)) e_) hs_)); replace BK102 := Qa.mk (Jn (pB BK102.out) hkp (fun hs_ => (fun e_ => (Kd.R_away HO_7.out (fun _ hk => hk.2.1)) e_) hs_)); replace BK109 := Qa.mk (Jn (pB BK109.out) hkp (fun hs_ => (fun e_ => (Kd.R_away HO_7.out (fun _ hk => hk.2.2)) e_) hs_)); replace HO_7 := Qa.mk (Kd.R_reok rfl hy0 (fun k_ e_ => HO_7.out.1 k_ e_)); replace HB := Qa.mk (hb); (try clear hb); (try clear hkp); (try clear hy0); have hnb61 := NB102_101.out; have hnc61 := NB101_102.out; have hnb62 := NB102_109.out; have hnc62 := NB109_102.out; obtain ⟨hcz63_0, hfz63_0⟩ := cf1 BK102; obtain ⟨Ao64, co64, eo64⟩ := Kd.R_slice HO_4.out; subst eo64) | (go_at_call 8; (with_reducible refine (QH.calls k1 _ _ x4_1 t119 _ ?side1 ?side2 A55.out).mono ?_); (case side1 => exact pC (Kd.R_reads' HO_4.out).2.2); (case side2 => exact (Kd.R_reads' HO_4.out).2.1); rintro e w' ⟨rfl, ⟨nd, rfl⟩⟩; (try first | exact ⟨rfl, _, World.drewN_drewN _ _ _⟩ | exact ⟨rfl, _, Eq.trans (World.drewN_drewN _ _ _) (congrArg (World.drewN _) (Nat.add_assoc _ _ _))⟩); have hlx65 := (Kd.R_reads' HO_7.out).1; have q65 : ((ji56) : Int) ≤ ((x7_1.length : Int) : Int) := dT; obtain ⟨i065, hi065, _, hsz65, _⟩ := info_parts J5; have hroom65 : x7_1.length ≤ co59 := (Kd.R_reads' HO_7.out).2.1; have hroomc65 : t118.length ≤ co59 := (by rw [← hlx65]; exact hroom65); have hC65 : Kd.C (Kd.int .i64) _ Ao59 t118.length t118 := (Kd.R_reads' HO_7.out).2.2; have hcut65 := X5 (P := Try.prog) 24 3 .i64 Try.underlying24 hi065 Ao59 x7_1.length co59 (ji56) (dT) q65 hroom65; have hr65 := Kd.C_take (m := ((ji56) : Int).toNat) hC65 (by omega); have hy65 : y120.length = ((ji56) : Int).toNat := (by rw [Ny120.out, List.length_take]; omega); rw [← Ny120.out] at hr65; rw [← hy65] at hcut65; have HR123 := Qa.mk hr65; have HC123 := Qa.mk (show y120.length ≤ co59 from by omega); clear hr65 hC65 hroom65 hi065 hsz65 hroomc65; have KY65 := Qa.mk hy65; clear hy65; have KE65 := Qa.mk hlx65; have KL65 := Qa.mk (show ((ji56) : Int).toNat ≤ t118.length from by omega); clear hlx65; replace q65 := eq_true q65)))
            go_loopg [64] k1 (fun kq v64 w' => ∃ (x4_2 : List Int) (x64_2 : Int), v64 = .int .i64 x64_2 ∧ Qa (QE.l1 kq x4_2 y120 (y120.length : Int) x64_2 = some (r1, r2)) ∧ Qa (kq ≤ k1) ∧ Qa (Kd.R (Kd.int .i64) 3 w' w.heap.size (fun k_ => k_ ≠ gb102 ∧ k_ ≠ gb109) (.slice Ao64 x4_1.length co64) x4_2) ∧ Qa (Kd.R (Kd.int .i64) 3 w' w.heap.size (fun k_ => some k_ ≠ (.slice Ao64 x4_1.length co64 : Value).ownBlock) (.slice Ao59 x7_1.length co59) t118) ∧ Qa (w'.heap[gb101]? = some (.cells #[(.slice A0 l0.length c0)] 24 (0, 0))) ∧ Qa (w'.heap[gb102]? = some (.cells #[.int .i64 a1] 3 (0, 0))) ∧ Qa (w'.heap[gb109]? = some (.cells #[.int .i64 t108] 3 (0, 0))) ∧ Qa (Below w.heap.size w w'))
            case atStart => exact ⟨(x4_1), (0), eS, H', ⟨Nat.le_refl _⟩, ⟨by (with_reducible repeat (first | apply Kd.R_alloc | apply Kd.R_drewN | apply Kd.R_drew)); exact Kd.R_mono HO_4.out (fun _ hk => ⟨hk.2.1, hk.2.2⟩)⟩, ⟨by (with_reducible repeat (first | apply Kd.R_alloc | apply Kd.R_drewN | apply Kd.R_drew)); exact Kd.R_mono HO_7.out (fun _ hk => hk.1)⟩, ⟨pB BK101.out⟩, ⟨pB BK102.out⟩, ⟨pB BK109.out⟩, ⟨pE HB⟩⟩
            case round =>
             clear H'; try clear c1
             try clear p1
             try clear q1
             try clear hx1
             try clear c2
             try clear p2
             try clear c3
             try clear c3b0
             try clear c3b1
             try clear c4
             try clear p4
             try clear q4
             try clear hx4
             try clear hf4
             try clear c5
             try clear c6
             try clear p6
             try clear q6
             try clear c8
             try clear c8b0
             try clear c8b1
             try clear c8b2
             try clear c11
             try clear p11
             try clear q11
             try clear hx11
             try clear c14
             try clear c16
             try clear c18
             try clear c18b0
             try clear c18b1
             try clear c19
             try clear c19b0
             try clear c19b1
             try clear c22
             try clear c32
             try clear c33
             try clear c39
             try clear c39b0
             try clear c40
             try clear c40b0
             try clear c41
             try clear c41b0
             try clear c42
             try clear c42b0
             try clear p43
             try clear q43
             try clear hx43
             try clear hf43
             try clear c44
             try clear c44b0
             try clear c44b1
             try clear c45
             try clear c48
             try clear c49
             try clear c51
             try clear c57
             try clear c57b0
             try clear c57b1
             try clear c58
             try clear c58b0
             try clear c58b1
             try clear c61
             try clear c62
             try clear p64
             try clear c65
             try clear q65
             try clear hcz12_0
             try clear hcz23_0
             try clear hcz25_0
             try clear hcz30_0
             try clear hcz34_0
             try clear hcz35_0
             try clear hcz38_0
             try clear hcz50_0
             try clear hcz52_0
             try clear hcz63_0
             try clear hcz7_0
             try clear hfz12_0
             try clear hfz23_0
             try clear hfz25_0
             try clear hfz30_0
             try clear hfz34_0
             try clear hfz35_0
             try clear hfz38_0
             try clear hfz50_0
             try clear hfz52_0
             try clear hfz63_0
             try clear hfz7_0
             try clear hx113_0
             try clear hx43_0
             try clear p113
             try clear p2
             try clear p43
             try clear q113
             try clear q43
             try clear q65
             (try clear HO_4)
             (try clear HO_7)
             obtain ⟨x4_2, x64_2, rfl, HA, HK2, HO_4, HO_7, BK101, BK102, BK109, HB⟩ := hrel; have hl4_2 := (Kd.R_reads' HO_4.out).1; rw [hl4_2] at HO_4
             (try simp only [hl4_2])
             (try simp only [hl4_2] at HO_7)
             (try simp only [hl4_2] at BK101)
             (try simp only [hl4_2] at BK102)
             (try simp only [hl4_2] at BK109)
             cases gk with
             | zero => exact absurd HA.out (by simp [QE.l1])
             | succ k2 =>
              have H := HA.out; clear HA; simp only [QE.l1] at H; by_cases c66 : x64_2 < (y120.length : Int)
              ·rw [if_pos c66] at H
               have c66b0 : decide (x64_2 < (y120.length : Int)) = true := decide_eq_true c66; clear c66; by_cases c67 : 0 ≤ x64_2
               ·rw [if_pos c67] at H
                have c67b0 : decide (0 ≤ x64_2) = true := decide_eq_true c67; clear c67; by_cases c68 : x64_2 < (y120.length : Int)
                ·rw [if_pos c68] at H
                 have c68b0 : decide (x64_2 < (y120.length : Int)) = true := decide_eq_true c68; clear c68; by_cases c69 : 0 ≤ (rd y120 x64_2)
                 ·rw [if_pos c69] at H
                  have c69b0 : decide (0 ≤ (rd y120 x64_2)) = true := decide_eq_true c69; clear c69; by_cases c70 : (rd y120 x64_2) < (x4_2.length : Int)
                  ·rw [if_pos c70] at H
                   have c70b0 : decide ((rd y120 x64_2) < (x4_2.length : Int)) = true := decide_eq_true c70; clear c70; obtain ⟨y126, hy126⟩ : ∃ y_ : List Int, y_ = (x4_2.set ((rd y120 x64_2) : Int).toNat (wrap64 ((rd x4_2 (rd y120 x64_2)) + 1))) := ⟨_, rfl⟩
                   replace H : (QE.l1 k2 y126 y120 (y120.length : Int) (wrap64 (x64_2 + 1))) = some (r1, r2) := yy hy126 H; have Ny126 := Qa.mk hy126; clear hy126; have H' := Qa.mk H; clear H; have p124 : 0 ≤ (x64_2 : Int) := dT; have q124 : x64_2 < (y120.length : Int) := dT; obtain ⟨ad124, e124, hx124_0⟩ := Kd.at_int (show Kd.C (Kd.int .i64) wr Ao59 y120.length y120 from by have h_ := Kd.C_take (m := ((ji56) : Int).toNat) (show Kd.C (Kd.int .i64) wr Ao59 t118.length t118 from (Kd.R_reads' HO_7.out).2.2) (by have := KL65.out; omega); rw [← Ny120.out] at h_; exact h_) x64_2 p124 q124
                   cases e124
                   replace p124 := eq_true p124; replace q124 := eq_true q124; have p125 : 0 ≤ ((rd y120 x64_2) : Int) := dT; have q125 : (rd y120 x64_2) < (x4_2.length : Int) := dT; obtain ⟨ad125, e125, hx125_0⟩ := Kd.at_int (Kd.R_reads' HO_4.out).2.2 (rd y120 x64_2) p125 q125
                   cases e125
                   replace p125 := eq_true p125; replace q125 := eq_true q125; have p71 : 0 ≤ ((rd y120 x64_2) : Int) := dT; have q71 : ((rd y120 x64_2) : Int) < ((x4_2.length : Int) : Int) := dT; obtain ⟨go71, co71, eo71, gb71, gl71, cl71, HG71⟩ := Kd.R_form HO_4.out (by omega)
                   (first | cases eo71 | (injection eo71 with ea_ en_ ec_; (first | subst ea_ | (injection ea_ with ea_; subst ea_)); subst ec_; clear en_))
                   have GB71 := Qa.mk gb71; have GG71 := Qa.mk HG71; clear gb71 gl71 HG71
                   (first | simp only [JP] at hx125_0 | skip)
                   obtain ⟨hx71_0, hf71_0⟩ := Kd.R_celln 0 HO_4.out ((rd y120 x64_2) : Int) p71 q71; replace p71 := eq_true p71; replace q71 := eq_true q71; have HP72 := Kd.R_putg HO_4.out ((rd y120 x64_2) : Int) (wrap64 ((rd x4_2 (rd y120 x64_2)) + 1)); go_wp2_with (first | ((with_reducible refine Z3 (t := 3) (p := 73) rfl ?_); (try (rw [Z2 wr]; generalize hq_ : World.drewN wr _ = wr; have HO_7n := Qa.mk (Kd.R_at hq_ HO_7.out); clear HO_7; have HO_7 := HO_7n; clear HO_7n; replace HO_4 := Qa.mk (Kd.R_at hq_ HO_4.out); replace BK101 := Qa.mk (blk_at hq_ BK101.out); replace BK102 := Qa.mk (blk_at hq_ BK102.out); replace BK109 := Qa.mk (blk_at hq_ BK109.out); replace HB := Qa.mk (below_at hq_ HB.out); clear hq_; (try (have HP72 := Kd.R_putg HO_4.out ((rd y120 x64_2) : Int) (wrap64 ((rd x4_2 (rd y120 x64_2)) + 1)))))); refine ZX (t := 3) (p := 73) (v := ?vo_w73) (w1 := (wr.setCell ⟨go71, ((rd y120 x64_2) : Int).toNat, none⟩ (.int .i64 (wrap64 ((rd x4_2 (rd y120 x64_2)) + 1))))) ?hg ?ho ?hn ?hr ?_; (case ho => rfl); (case hg => rfl); (case hn => rfl); (case hr => first | (go_simp; done) | (go_simp; rfl)); intro w73 hw; have hg : wr.grownBy w73 (some go71) := (by rw [hw]; exact HP72.2); have hp_ : Kd.R (Kd.int .i64) 3 w73 w.heap.size (fun k_ => k_ ≠ gb102 ∧ k_ ≠ gb109) (.slice (some ⟨go71, 0, none⟩) x4_2.length co64) y126 := (by rw [hw, Ny126.out]; exact HP72.1); clear HP72; have n0_ := Qa.mk (hp_); have HO_7n := Qa.mk (Kd.R_grown HO_7.out hg (fun _ hk => hk)); clear HO_7; have HO_7 := HO_7n; clear HO_7n; have n1_ := Qa.mk (Ja (g := gb101) (o := .cells #[.slice A0 l0.length c0] 24 (0, 0)) (pB BK101.out) hg (Kd.R_ne HO_4.out BK101.out (by decide))); have n2_ := Qa.mk (Ja (g := gb102) (o := .cells #[.int .i64 a1] 3 (0, 0)) (pB BK102.out) hg (Kd.R_away HO_4.out (fun _ hk => hk.1))); have n3_ := Qa.mk (Ja (g := gb109) (o := .cells #[.int .i64 t108] 3 (0, 0)) (pB BK109.out) hg (Kd.R_away HO_4.out (fun _ hk => hk.2))); have n4_ := Qa.mk ((by rw [hw]; exact Q3 (HB.out) GB71.out : Below w.heap.size w w73)); clear HO_4; clear BK101; clear BK102; clear BK109; clear HB; have HO_4 := n0_; have BK101 := n1_; have BK102 := n2_; have BK109 := n3_; have HB := n4_; clear n0_ n1_ n2_ n3_ n4_; clear hg hw hp_))
                   (try simp only [← hl4_2])
                   go_roundg k2
                   case measure => have := HK1.out; have := HK2.out; omega
                   case rel => exact ⟨(y126), (wrap64 (x64_2 + 1)), eS, H', ⟨by have := HK1.out; have := HK2.out; omega⟩, ⟨by (try simp only [hl4_2]); (with_reducible repeat (first | apply Kd.R_alloc | apply Kd.R_drewN | apply Kd.R_drew)); exact HO_4.out⟩, ⟨by (try simp only [hl4_2]); (with_reducible repeat (first | apply Kd.R_alloc | apply Kd.R_drewN | apply Kd.R_drew)); exact HO_7.out⟩, ⟨by (try simp only [hl4_2]); (with_reducible repeat (first | refine Qt ?_ _ | refine Qh ?_ | refine blk_alloc ?_ _)); exact BK101.out⟩, ⟨by (try simp only [hl4_2]); (with_reducible repeat (first | refine Qt ?_ _ | refine Qh ?_ | refine blk_alloc ?_ _)); exact BK102.out⟩, ⟨by (try simp only [hl4_2]); (with_reducible repeat (first | refine Qt ?_ _ | refine Qh ?_ | refine blk_alloc ?_ _)); exact BK109.out⟩, ⟨pE HB⟩⟩
                  ·rw [if_neg c70] at H
                   exact absurd H (by simp)
                 ·rw [if_neg c69] at H
                  exact absurd H (by simp)
                ·rw [if_neg c68] at H
                 exact absurd H (by simp)
               ·rw [if_neg c67] at H
                exact absurd H (by simp)
              ·rw [if_neg c66] at H
               have c66b0 : decide (x64_2 < (y120.length : Int)) = false := decide_eq_false c66; clear c66; simp only [Option.some.injEq, Prod.mk.injEq] at H; obtain ⟨rfl, rfl⟩ := H; go_wp2
               repeat (go_quiet (fail); try go_wp2)
               go_ret2; exact ⟨_, by first | rfl | (simp [Zz, Zy] <;> rfl) | (simp only [← hji56]; first | rfl | (simp [Zz, Zy] <;> rfl)) | (simp [*, Zz, Zy] <;> rfl), by (with_reducible repeat (first | apply Kd.R_alloc | apply Kd.R_drewN | apply Kd.R_drew)); exact Kd.R_mono HO_4.out (fun _ hk => trivial), pE HB⟩
           ·rw [if_neg c58] at H
            exact absurd H (by simp)
          ·rw [if_neg c57] at H
           exact absurd H (by simp)
      ·rw [if_neg c19] at H
       exact absurd H (by simp)
     ·rw [if_neg c18] at H
      exact absurd H (by simp)
    ·replace c16 := Bool.eq_false_iff.mpr c16
     subst c16; rw [if_neg (show ¬ (false = true) by decide)] at H; simp only [Option.some.injEq, Prod.mk.injEq] at H; obtain ⟨rfl, rfl⟩ := H; go_enter Try.func4, Try.ntmps4; go_wp2_with (first | (refine bx 2 #[.slice A0 l0.length c0] 24 ?_; intro gb101 hg w74 BK101 hb; have GW101 := gs HB hg; replace HB := bs HB hb; clear hb hg) | (refine bx 3 #[.int .i64 a1] 3 ?_; intro gb102 hg w75 BK102 hb; have GW102 := gs HB hg; replace HB := bs HB hb; have NB101_102 := nl BK101 hg; have NB102_101 := nr BK101 hg; replace BK101 := bb BK101 hb; clear hb hg; have hnb76 := NB101_102.out; have hnc76 := NB102_101.out; obtain ⟨hcz77_0, hfz77_0⟩ := cf1 BK101) | (go_at_call 7; (with_reducible refine (Qk.calls 1 100 _ _ l0 true _ ?side1 ?side2 A13.out).mono ?_); (case side1 => exact pC (Kd.C_below HR0.out HB.out)); (case side2 => exact HC0.out); rintro e w78 ⟨rfl, hb⟩; replace BK101 := bb BK101 hb; replace BK102 := bb BK102 hb; replace HB := bs HB hb; (try clear hb); (try clear hb2); (try clear hk); (try clear hi); obtain ⟨hcz79_0, hfz79_0⟩ := cf1 BK102) | ((with_reducible refine gd 26 ?_); refine rL (Kd.int .i64) 3 26 ([a1] : List Int) [.int .i64 a1] (Reps.one (show Kd.M (Kd.int .i64) _ _ _ a1 [.int .i64 a1] from rfl) (Reps.none _ _)) ?_; intro v105 w80 ho81 hb; replace ho81 := yR Ny104 ho81; have HO106 := Qa.mk (Kd.R_lower (Kd.R_newB ho81 (g := gb102) (o := .cells #[.int .i64 a1] 3 (0, 0)) (pB BK102.out)) (Qr (pE HB))); replace BK101 := bb BK101 hb; replace BK102 := bb BK102 hb; replace HB := bs HB hb; clear hb ho81; obtain ⟨Ao82, co82, eo82⟩ := Kd.R_slice HO106.out; subst eo82) | (go_at_call 7; (with_reducible refine (Qk.calls 0 100000 _ _ y104 false _ ?side1 ?side2 A15.out).mono ?_); (case side1 => exact pC (Kd.R_reads' HO106.out).2.2); (case side2 => exact (Kd.R_reads' HO106.out).2.1); rintro e w83 ⟨rfl, hb⟩; replace HO106 := rb HO106 hb; replace BK101 := bb BK101 hb; replace BK102 := bb BK102 hb; replace HB := bs HB hb; (try clear hb); (try clear hb2); (try clear hk); (try clear hi))); go_ret2; exact ⟨_, eT, nn_, pE HB⟩
   ·replace c14 := Bool.eq_false_iff.mpr c14
    subst c14; rw [if_neg (show ¬ (false = true) by decide)] at H; simp only [Option.some.injEq, Prod.mk.injEq] at H; obtain ⟨rfl, rfl⟩ := H; go_enter Try.func4, Try.ntmps4; go_wp2_with (first | (refine bx 2 #[.slice A0 l0.length c0] 24 ?_; intro gb101 hg w84 BK101 hb; have GW101 := gs HB hg; replace HB := bs HB hb; clear hb hg) | (refine bx 3 #[.int .i64 a1] 3 ?_; intro gb102 hg w85 BK102 hb; have GW102 := gs HB hg; replace HB := bs HB hb; have NB101_102 := nl BK101 hg; have NB102_101 := nr BK101 hg; replace BK101 := bb BK101 hb; clear hb hg; have hnb86 := NB101_102.out; have hnc86 := NB102_101.out; obtain ⟨hcz87_0, hfz87_0⟩ := cf1 BK101) | (go_at_call 7; (with_reducible refine (Qk.calls 1 100 _ _ l0 false _ ?side1 ?side2 A13.out).mono ?_); (case side1 => exact pC (Kd.C_below HR0.out HB.out)); (case side2 => exact HC0.out); rintro e w88 ⟨rfl, hb⟩; replace BK101 := bb BK101 hb; replace BK102 := bb BK102 hb; replace HB := bs HB hb; (try clear hb); (try clear hb2); (try clear hk); (try clear hi))); go_ret2; exact ⟨_, eT, nn_, pE HB⟩
def QC.f (a0 a1 : Int) : Option (Int × Int) := some (a0, a1)
set_option maxHeartbeats 8000000 in
set_option maxRecDepth 100000 in
theorem QC.calls (a0 a1 r1 r2 : Int) (w : World) (h : QC.f a0 a1 = some (r1, r2)) :
  Calls Try.prog 20 #[.int .i64 a0, .int .i64 a1] w fun e w' => e = .returned (.agg #[.int .i64 r1, .int .i64 r2]) ∧ Below w.heap.size w w' := by
 have hu36 := Try.underlying36; have HB := Qa.mk (Below.refl w.heap.size w); have H : (some (a0, a1)) = some (r1, r2) := h; clear h; simp only [Option.some.injEq, Prod.mk.injEq] at H; obtain ⟨rfl, rfl⟩ := H; go_enter Try.func20, Try.ntmps20; go_wp2_with (first | (refine bx 4 #[.int .i64 0, .int .i64 0] 36 ?_; intro gb101 hg w3 BK101 hb; have GW101 := gs HB hg; replace HB := bs HB hb; clear hb hg; obtain ⟨_, _, _, _⟩ := cf2 BK101)); refine bodyPost_ret (results_cell_row rfl _ _ gb101 36 #[.int .i64 a0, .int .i64 a1] (0, 0) _ rfl (by refine pB ?_; refine Qg (cs := #[.int .i64 a0, .int .i64 0]) ?_ 1 _ rfl; refine pB ?_; refine Qg (cs := #[.int .i64 0, .int .i64 0]) ?_ 0 _ rfl; (with_reducible repeat (first | refine Qt ?_ _ | refine Qh ?_ | refine blk_alloc ?_ _)); exact BK101.out) Try.underlying36 rfl (by kernel_rfl)) rfl ?_; exact ⟨eT, pE HB⟩
def QA.f (a0 : Int) : Option (Int × Int × Int × Int × Int) := (QC.f 400 420).bind fun bt102 => ((QC.f 100 110).bind fun bt104 => (some (bt102.1, bt102.2, bt104.1, bt104.2, a0)))
set_option maxHeartbeats 8000000 in
set_option maxRecDepth 100000 in
theorem QA.calls (a0 r1 r2 r3 r4 r5 : Int) (w : World) (h : QA.f a0 = some (r1, r2, r3, r4, r5)) :
  Calls Try.prog 12 #[.int .i64 a0] w fun e w' => e = .returned (.agg #[.int .i64 r1, .int .i64 r2, .int .i64 r3, .int .i64 r4, .int .i64 r5]) ∧ Below w.heap.size w w' := by
 have hu40 := Try.underlying40; have HB := Qa.mk (Below.refl w.heap.size w); have H : ((QC.f 400 420).bind fun bt102 => ((QC.f 100 110).bind fun bt104 => (some (bt102.1, bt102.2, bt104.1, bt104.2, a0)))) = some (r1, r2, r3, r4, r5) := h; clear h; obtain ⟨⟨t102, t103⟩, A2, H⟩ := bi H; obtain ⟨⟨t104, t105⟩, A3, H⟩ := bi H; simp only [Option.some.injEq, Prod.mk.injEq] at H; obtain ⟨rfl, rfl, rfl, rfl, rfl⟩ := H; go_enter Try.func12, Try.ntmps12; go_wp2_with (first | (refine bx 2 #[.int .i64 0, .int .i64 0, .int .i64 0, .int .i64 0, .int .i64 0] 40 ?_; intro gb101 hg w4 BK101 hb; have GW101 := gs HB hg; replace HB := bs HB hb; clear hb hg) | ((with_reducible refine gc 20 rfl ?_); refine gL 3 Try.func20 #[.int .i64 400, .int .i64 420] ?_; (with_reducible refine (QC.calls 400 420 t102 t103 _ A2.out).mono ?_); rintro e w5 ⟨rfl, hb⟩; refine ⟨_, rfl, ?_⟩; replace BK101 := bb BK101 hb; replace HB := bs HB hb; clear hb) | ((with_reducible refine gc 20 rfl ?_); refine gL 4 Try.func20 #[.int .i64 100, .int .i64 110] ?_; (with_reducible refine (QC.calls 100 110 t104 t105 _ A3.out).mono ?_); rintro e w6 ⟨rfl, hb⟩; refine ⟨_, rfl, ?_⟩; replace BK101 := bb BK101 hb; replace HB := bs HB hb; clear hb; obtain ⟨_, _, _, _, _, _, _, _, _, _⟩ := cf5 BK101)); refine bodyPost_ret (results_cell_row rfl _ _ gb101 40 #[.int .i64 t102, .int .i64 t103, .int .i64 t104, .int .i64 t105, .int .i64 a0] (0, 0) _ rfl (by refine pB ?_; refine Qg (cs := #[.int .i64 t102, .int .i64 t103, .int .i64 t104, .int .i64 t105, .int .i64 0]) ?_ 4 _ rfl; refine pB ?_; refine Qg (cs := #[.int .i64 t102, .int .i64 t103, .int .i64 t104, .int .i64 0, .int .i64 0]) ?_ 3 _ rfl; refine pB ?_; refine Qg (cs := #[.int .i64 t102, .int .i64 t103, .int .i64 0, .int .i64 0, .int .i64 0]) ?_ 2 _ rfl; refine pB ?_; refine Qg (cs := #[.int .i64 t102, .int .i64 0, .int .i64 0, .int .i64 0, .int .i64 0]) ?_ 1 _ rfl; refine pB ?_; refine Qg (cs := #[.int .i64 0, .int .i64 0, .int .i64 0, .int .i64 0, .int .i64 0]) ?_ 0 _ rfl; (with_reducible repeat (first | refine Qt ?_ _ | refine Qh ?_ | refine blk_alloc ?_ _)); exact BK101.out) Try.underlying40 rfl (by kernel_rfl)) rfl ?_; exact ⟨eT, pE HB⟩
def QL.f  : Option ((List S83)) := (QC.f 8 10).bind fun bt101 => ((QC.f 20 24).bind fun bt103 => (some (([(⟨(⟨bt101.1, bt101.2⟩ : S36), 3, 4, 10⟩ : S83), (⟨(⟨bt103.1, bt103.2⟩ : S36), 10, 1, 5⟩ : S83)] : List S83))))
set_option maxHeartbeats 8000000 in
set_option maxRecDepth 100000 in
theorem QL.calls  (r : List S83) (w : World) (h : QL.f  = some r) :
  Calls Try.prog 14 #[] w fun e w' => ∃ v0_ : Value, e = .returned (v0_) ∧ Kd.R k83 83 w' w.heap.size (fun _ => True) v0_ r ∧ Below w.heap.size w w' := by
 have hu83 := Try.underlying83; have HB := Qa.mk (Below.refl w.heap.size w); have H : ((QC.f 8 10).bind fun bt101 => ((QC.f 20 24).bind fun bt103 => (some (([(⟨(⟨bt101.1, bt101.2⟩ : S36), 3, 4, 10⟩ : S83), (⟨(⟨bt103.1, bt103.2⟩ : S36), 10, 1, 5⟩ : S83)] : List S83))))) = some r := h; clear h; obtain ⟨⟨t101, t102⟩, A1, H⟩ := bi H; obtain ⟨⟨t103, t104⟩, A2, H⟩ := bi H; obtain ⟨y105, hy105⟩ : ∃ y_ : List S83, y_ = (([(⟨(⟨t101, t102⟩ : S36), 3, 4, 10⟩ : S83), (⟨(⟨t103, t104⟩ : S36), 10, 1, 5⟩ : S83)] : List S83)) := ⟨_, rfl⟩
 replace H : (some y105) = some r := yy hy105 H; have Ny105 := Qa.mk hy105; clear hy105; obtain rfl := Option.some.inj H; go_enter Try.func14, Try.ntmps14; go_wp2_with (first | ((with_reducible refine gc 20 rfl ?_); refine gL 1 Try.func20 #[.int .i64 8, .int .i64 10] ?_; (with_reducible refine (QC.calls 8 10 t101 t102 _ A1.out).mono ?_); rintro e w3 ⟨rfl, hb⟩; refine ⟨_, rfl, ?_⟩; replace HB := bs HB hb; clear hb) | ((with_reducible refine gc 20 rfl ?_); refine gL 3 Try.func20 #[.int .i64 20, .int .i64 24] ?_; (with_reducible refine (QC.calls 20 24 t103 t104 _ A2.out).mono ?_); rintro e w4 ⟨rfl, hb⟩; refine ⟨_, rfl, ?_⟩; replace HB := bs HB hb; clear hb) | ((with_reducible refine gd 5 ?_); refine rL k83 83 5 ([(⟨(⟨t101, t102⟩ : S36), 3, 4, 10⟩ : S83), (⟨(⟨t103, t104⟩ : S36), 10, 1, 5⟩ : S83)] : List S83) [.int .i64 t101, .int .i64 t102, .int .i64 3, .int .i64 4, .int .i64 10, .int .i64 t103, .int .i64 t104, .int .i64 10, .int .i64 1, .int .i64 5] (Reps.c5 (show Kd.M k83 _ _ _ (⟨(⟨t101, t102⟩ : S36), 3, 4, 10⟩ : S83) [.int .i64 t101, .int .i64 t102, .int .i64 3, .int .i64 4, .int .i64 10] from (ZM _ _ _ (⟨(⟨t101, t102⟩ : S36), 3, 4, 10⟩ : S83) )) (Reps.c5 (show Kd.M k83 _ _ _ (⟨(⟨t103, t104⟩ : S36), 10, 1, 5⟩ : S83) [.int .i64 t103, .int .i64 t104, .int .i64 10, .int .i64 1, .int .i64 5] from (ZM _ _ _ (⟨(⟨t103, t104⟩ : S36), 10, 1, 5⟩ : S83) )) (Reps.none _ _))) ?_; intro v106 w5 ho6 hb; replace ho6 := yR Ny105 ho6; have HO107 := rl ho6 HB; replace HB := bs HB hb; clear hb ho6)); go_ret; exact ⟨_, eT, by (with_reducible repeat (first | apply Kd.R_alloc | apply Kd.R_drewN | apply Kd.R_drew)); exact HO107.out, pE HB⟩
def Q9.f  : Option (List Int × List Int × Int) := some ((([0, 1, 2] : List Int)), (([3, 4, 5] : List Int)), 0)
set_option maxHeartbeats 8000000 in
set_option maxRecDepth 100000 in
theorem Q9.calls  (r1 r2 : List Int) (r3 : Int) (w : World) (h : Q9.f  = some (r1, r2, r3)) :
  Calls Try.prog 22 #[] w fun e w' => ∃ v0_ v1_ : Value, e = .returned (.agg #[v0_, v1_, .int .i64 r3]) ∧ Kd.R (Kd.int .i64) 3 w' w.heap.size (fun k_ => some k_ ≠ (v1_ : Value).ownBlock) v0_ r1 ∧ Kd.R (Kd.int .i64) 3 w' w.heap.size (fun k_ => some k_ ≠ (v0_ : Value).ownBlock) v1_ r2 ∧ Below w.heap.size w w' := by
 have hu64 := Try.underlying64; have HB := Qa.mk (Below.refl w.heap.size w); have H : (some ((([0, 1, 2] : List Int)), (([3, 4, 5] : List Int)), 0)) = some (r1, r2, r3) := h; clear h; obtain ⟨y102, hy102⟩ : ∃ y_ : List Int, y_ = (([0, 1, 2] : List Int)) := ⟨_, rfl⟩
 replace H : (some (y102, (([3, 4, 5] : List Int)), 0)) = some (r1, r2, r3) := yy hy102 H; have Ny102 := Qa.mk hy102; clear hy102; obtain ⟨y105, hy105⟩ : ∃ y_ : List Int, y_ = (([3, 4, 5] : List Int)) := ⟨_, rfl⟩
 replace H : (some (y102, y105, 0)) = some (r1, r2, r3) := yy hy105 H; have Ny105 := Qa.mk hy105; clear hy105; simp only [Option.some.injEq, Prod.mk.injEq] at H; obtain ⟨rfl, rfl, rfl⟩ := H; go_enter Try.func22, Try.ntmps22; go_wp2_with (first | (refine bx 0 #[.slice none 0 0, .slice none 0 0, .int .i64 0] 64 ?_; intro gb101 hg w1 BK101 hb; have GW101 := gs HB hg; replace HB := bs HB hb; clear hb hg) | ((with_reducible refine gd 1 ?_); refine rL (Kd.int .i64) 3 1 ([0, 1, 2] : List Int) [.int .i64 0, .int .i64 1, .int .i64 2] (Reps.one (show Kd.M (Kd.int .i64) _ _ _ 0 [.int .i64 0] from rfl) (Reps.one (show Kd.M (Kd.int .i64) _ _ _ 1 [.int .i64 1] from rfl) (Reps.one (show Kd.M (Kd.int .i64) _ _ _ 2 [.int .i64 2] from rfl) (Reps.none _ _)))) ?_; intro v103 w2 ho3 hb; replace ho3 := yR Ny102 ho3; have HO104 := rl ho3 HB; replace BK101 := bb BK101 hb; replace HB := bs HB hb; clear hb ho3) | ((with_reducible refine gd 2 ?_); refine rL (Kd.int .i64) 3 2 ([3, 4, 5] : List Int) [.int .i64 3, .int .i64 4, .int .i64 5] (Reps.one (show Kd.M (Kd.int .i64) _ _ _ 3 [.int .i64 3] from rfl) (Reps.one (show Kd.M (Kd.int .i64) _ _ _ 4 [.int .i64 4] from rfl) (Reps.one (show Kd.M (Kd.int .i64) _ _ _ 5 [.int .i64 5] from rfl) (Reps.none _ _)))) ?_; intro v106 w4 ho5 hb; replace ho5 := yR Ny105 ho5; have HO107 := Qa.mk (Kd.R_lower (Kd.R_new' ho5 (Kd.R_lt (pR HO104.out))) (Qr (pE HB))); replace HO104 := re HO104 ho5 hb; replace BK101 := bb BK101 hb; replace HB := bs HB hb; clear hb ho5; obtain ⟨Ao6, co6, eo6⟩ := Kd.R_slice HO107.out; subst eo6; obtain ⟨Ao7, co7, eo7⟩ := Kd.R_slice HO104.out; subst eo7; obtain ⟨_, _, _, _, _, _⟩ := cf3 BK101)); refine bodyPost_ret (results_cell_row rfl _ _ gb101 64 #[.slice Ao7 y102.length co7, .slice Ao6 y105.length co6, .int .i64 0] (0, 0) _ rfl (by refine pB ?_; refine Qg (cs := #[.slice Ao7 y102.length co7, .slice Ao6 y105.length co6, .int .i64 0]) ?_ 2 _ rfl; refine pB ?_; refine Qg (cs := #[.slice Ao7 y102.length co7, .slice none 0 0, .int .i64 0]) ?_ 1 _ rfl; refine pB ?_; refine Qg (cs := #[.slice none 0 0, .slice none 0 0, .int .i64 0]) ?_ 0 _ rfl; (with_reducible repeat (first | refine Qt ?_ _ | refine Qh ?_ | refine blk_alloc ?_ _)); exact BK101.out) Try.underlying64 rfl (by kernel_rfl)) rfl ?_; exact ⟨_, _, eT, by (with_reducible repeat (first | apply Kd.R_alloc | apply Kd.R_drewN | apply Kd.R_drew)); exact Kd.R_mono (Rf3 (g := gb101) (Kd.R_types HO104.out BK101.out (by decide))) (fun _ hk => hk.1.2), by (with_reducible repeat (first | apply Kd.R_alloc | apply Kd.R_drewN | apply Kd.R_drew)); exact Kd.R_mono (Rf3 (g := gb101) (Kd.R_types HO107.out BK101.out (by decide))) (fun _ hk => hk.1.2), pE HB⟩
theorem eqA36 (d : Nat) (w : World) (x0 y0 x1 y1 : Int) :
  (Op.equalIn (d + 2) 36 (.agg #[.int .i64 x0, .int .i64 x1]) (.agg #[.int .i64 y0, .int .i64 y1])).run Try.prog w = .ok (x0 == y0 && (x1 == y1)) w := by
 refine eqA_of Try.underlying36 (by kernel_rfl) ?_; refine Qab (by rfl) (by go_simp; rfl) (by go_simp; rfl) (by go_simp) ?_; exact Qah (by rfl) (by go_simp; rfl) (by go_simp; rfl) (by go_simp)
end Go.Proofs.Ytjaapkkpmegkfaa.P
