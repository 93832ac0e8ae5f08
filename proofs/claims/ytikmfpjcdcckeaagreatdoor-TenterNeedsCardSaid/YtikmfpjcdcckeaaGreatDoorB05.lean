/- Part 5 of what the law's proof needs: words, walks of functions and plain facts. -/
import Derived.Test.YtikmfpjcdcckeaaGreatDoorB01
import Derived.Test.YtikmfpjcdcckeaaGreatDoorB03
import Derived.Test.YtikmfpjcdcckeaaGreatDoorB04
set_option linter.unusedVariables false
set_option linter.unusedSimpArgs false
namespace Go.Proofs.YtikmfpjcdcckeaaGreatDoor.P
open Go.RowKit Go.Proofs.YtikmfpjcdcckeaaGreatDoorW.PrintWords Go.Proofs.YtikmfpjcdcckeaaGreatDoorW.PrintLast Go.Proofs.YtikmfpjcdcckeaaGreatDoorW.PrintMore
attribute [local go_sem] max2_int min2_int max_two min_two max_three min_three max_four min_four
mutual
def tenter_Order.l0 : Nat → Int → List Int → Int → Int → List (S43) → List Int → Int → Int → List (S43) → List Int → Int → Int → List (S36) → List Int → Option (List Int × Int)
 | 0, _, _, _, _, _, _, _, _, _, _, _, _, _, _ => none
 | k + 1, x2, x10, x31, x32, x102000, x102001, x102002, x102003, x115000, x115001, x115002, x115003, x115004, x122000 => if x32 < x31 then ((tenter_forecast_late.f k x115000 x115001 x115002 x115003 x115004 x32 x2).bind fun t122 => ((some (([t122] : List Int) : List Int)).bind fun y123 => (if x122000.length + y123.length < 17592186044416 then ((some (([x32] : List Int) : List Int)).bind fun y129 => (if x10.length + y129.length < 17592186044416 then (tenter_Order.l0 k x2 (x10 ++ y129) x31 (wrap64 (x32 + 1)) x102000 x102001 x102002 x102003 x115000 x115001 x115002 x115003 x115004 (x122000 ++ y123)) else (none))) else (none)))) else ((tenter_Order_1.f k 0 x10 x122000).bind fun t135 => (if t135 = true then (tenter_Order.l1 k ([] : List Int) x10 (x102000.length : Int) 0 x122000) else (some (([] : List Int), 9))))
def tenter_Order.l1 : Nat → List Int → List Int → Int → Int → List Int → Option (List Int × Int)
 | 0, _, _, _, _, _ => none
 | k + 1, x6, x10, x54, x55, x122000 => if x55 < x54 then (tenter_Order.l2 k x6 x10 x55 x54 x55 x10 (x10.length : Int) 0 x122000) else (some (x6, 0))
def tenter_Order.l2 : Nat → List Int → List Int → Int → Int → Int → List Int → Int → Int → List Int → Option (List Int × Int)
 | 0, _, _, _, _, _, _, _, _, _ => none
 | k + 1, x6, x10, x13, x54, x55, x58, x59, x60, x122000 => if x60 < x59 then (if 0 ≤ x60 then (if x60 < (x58.length : Int) then ((slices_Clone_int_int.f x10).bind fun t137 => ((slices_Delete_int_int.f t137 x60 (wrap64 (x60 + 1))).bind fun t140 => (if 0 ≤ (rd x58 x60) then (if (rd x58 x60) < (x122000.length : Int) then (if (rd x122000 (rd x58 x60)) ≥ x13 then ((tenter_Order_1.f k (wrap64 (x13 + 1)) t140 x122000).bind fun t144 => (if t144 = true then ((some (([rd x58 x60] : List Int) : List Int)).bind fun y145 => (if x6.length + y145.length < 17592186044416 then (tenter_Order.l1 k (x6 ++ y145) t140 x54 (wrap64 (x55 + 1)) x122000) else (none))) else (tenter_Order.l2 k x6 x10 x13 x54 x55 x58 x59 (wrap64 (x60 + 1)) x122000))) else (tenter_Order.l2 k x6 x10 x13 x54 x55 x58 x59 (wrap64 (x60 + 1)) x122000)) else (none)) else (none)))) else (none)) else (none)) else (tenter_Order.l1 k x6 x10 x54 (wrap64 (x55 + 1)) x122000)
end
def tenter_Order.f (k : Nat) (l0_0 : List (S43)) (l0_1 : List Int) (a0_2 : Int) (a0_3 : Int) (l1 : List (S36)) (a2 : Int) : Option (List Int × Int) := (tenter_newForecast.f l0_0 l0_1 a0_2 a0_3 l1 a2).bind fun bt102 => (if bt102.2.2.2.2.2 = 0 then (tenter_Order.l0 k a2 (([] : List Int)) (l0_0.length : Int) 0 l0_0 l0_1 a0_2 a0_3 bt102.1 bt102.2.1 bt102.2.2.1 bt102.2.2.2.1 bt102.2.2.2.2.1 (([] : List Int))) else (some (([] : List Int), bt102.2.2.2.2.2)))
theorem tenter_Order.mono_l : ∀ k, (∀ y0 y1 y2 y3 y4 y5 y6 y7 y8 y9 y10 y11 y12 y13, LeO (tenter_Order.l0 k y0 y1 y2 y3 y4 y5 y6 y7 y8 y9 y10 y11 y12 y13) (tenter_Order.l0 (k + 1) y0 y1 y2 y3 y4 y5 y6 y7 y8 y9 y10 y11 y12 y13)) ∧ (∀ y0 y1 y2 y3 y4, LeO (tenter_Order.l1 k y0 y1 y2 y3 y4) (tenter_Order.l1 (k + 1) y0 y1 y2 y3 y4)) ∧ (∀ y0 y1 y2 y3 y4 y5 y6 y7 y8, LeO (tenter_Order.l2 k y0 y1 y2 y3 y4 y5 y6 y7 y8) (tenter_Order.l2 (k + 1) y0 y1 y2 y3 y4 y5 y6 y7 y8))
 | 0 => ⟨fun _ _ _ _ _ _ _ _ _ _ _ _ _ _ r h => by simp [tenter_Order.l0] at h, fun _ _ _ _ _ r h => by simp [tenter_Order.l1] at h, fun _ _ _ _ _ _ _ _ _ r h => by simp [tenter_Order.l2] at h⟩
 | k + 1 => by
  obtain ⟨ih0, ih1, ih2⟩ := tenter_Order.mono_l k
  refine ⟨?_, ?_, ?_⟩
  ·intro y0 y1 y2 y3 y4 y5 y6 y7 y8 y9 y10 y11 y12 y13
   unfold tenter_Order.l0
   repeat' first
   | (with_reducible exact ih0 _ _ _ _ _ _ _ _ _ _ _ _ _ _)
   | (with_reducible exact ih1 _ _ _ _ _)
   | (with_reducible exact ih2 _ _ _ _ _ _ _ _ _)
   | (with_reducible exact tenter_Order_1.mono _ _ _ _)
   | (with_reducible exact tenter_forecast_late.mono _ _ _ _ _ _ _ _)
   | (with_reducible exact LeO.refl _)
   | (with_reducible exact LeO.none _)
   | (with_reducible refine LeO.ite ?_ ?_)
   | (with_reducible refine LeO.bind ?_ (fun _ => ?_))
   | exact ih0 _ _ _ _ _ _ _ _ _ _ _ _ _ _
   | exact ih1 _ _ _ _ _
   | exact ih2 _ _ _ _ _ _ _ _ _
   | exact tenter_Order_1.mono _ _ _ _
   | exact tenter_forecast_late.mono _ _ _ _ _ _ _ _
   | exact LeO.none _
   | refine LeO.ite ?_ ?_
   | refine LeO.bind ?_ (fun _ => ?_)
  ·intro y0 y1 y2 y3 y4
   unfold tenter_Order.l1
   repeat' first
   | (with_reducible exact ih0 _ _ _ _ _ _ _ _ _ _ _ _ _ _)
   | (with_reducible exact ih1 _ _ _ _ _)
   | (with_reducible exact ih2 _ _ _ _ _ _ _ _ _)
   | (with_reducible exact tenter_Order_1.mono _ _ _ _)
   | (with_reducible exact tenter_forecast_late.mono _ _ _ _ _ _ _ _)
   | (with_reducible exact LeO.refl _)
   | (with_reducible exact LeO.none _)
   | (with_reducible refine LeO.ite ?_ ?_)
   | (with_reducible refine LeO.bind ?_ (fun _ => ?_))
   | exact ih0 _ _ _ _ _ _ _ _ _ _ _ _ _ _
   | exact ih1 _ _ _ _ _
   | exact ih2 _ _ _ _ _ _ _ _ _
   | exact tenter_Order_1.mono _ _ _ _
   | exact tenter_forecast_late.mono _ _ _ _ _ _ _ _
   | exact LeO.none _
   | refine LeO.ite ?_ ?_
   | refine LeO.bind ?_ (fun _ => ?_)
  ·intro y0 y1 y2 y3 y4 y5 y6 y7 y8
   unfold tenter_Order.l2
   repeat' first
   | (with_reducible exact ih0 _ _ _ _ _ _ _ _ _ _ _ _ _ _)
   | (with_reducible exact ih1 _ _ _ _ _)
   | (with_reducible exact ih2 _ _ _ _ _ _ _ _ _)
   | (with_reducible exact tenter_Order_1.mono _ _ _ _)
   | (with_reducible exact tenter_forecast_late.mono _ _ _ _ _ _ _ _)
   | (with_reducible exact LeO.refl _)
   | (with_reducible exact LeO.none _)
   | (with_reducible refine LeO.ite ?_ ?_)
   | (with_reducible refine LeO.bind ?_ (fun _ => ?_))
   | exact ih0 _ _ _ _ _ _ _ _ _ _ _ _ _ _
   | exact ih1 _ _ _ _ _
   | exact ih2 _ _ _ _ _ _ _ _ _
   | exact tenter_Order_1.mono _ _ _ _
   | exact tenter_forecast_late.mono _ _ _ _ _ _ _ _
   | exact LeO.none _
   | refine LeO.ite ?_ ?_
   | refine LeO.bind ?_ (fun _ => ?_)
theorem tenter_Order.mono : ∀ a0 a1 a2 a3 a4 a5 k, LeO (tenter_Order.f k a0 a1 a2 a3 a4 a5) (tenter_Order.f (k + 1) a0 a1 a2 a3 a4 a5) := by
 intro a0 a1 a2 a3 a4 a5 k
 obtain ⟨ih0, ih1, ih2⟩ := tenter_Order.mono_l k
 unfold tenter_Order.f
 repeat' first
   | (with_reducible exact ih0 _ _ _ _ _ _ _ _ _ _ _ _ _ _)
   | (with_reducible exact ih1 _ _ _ _ _)
   | (with_reducible exact ih2 _ _ _ _ _ _ _ _ _)
   | (with_reducible exact tenter_Order_1.mono _ _ _ _)
   | (with_reducible exact tenter_forecast_late.mono _ _ _ _ _ _ _ _)
   | (with_reducible exact LeO.refl _)
   | (with_reducible exact LeO.none _)
   | (with_reducible refine LeO.ite ?_ ?_)
   | (with_reducible refine LeO.bind ?_ (fun _ => ?_))
   | exact ih0 _ _ _ _ _ _ _ _ _ _ _ _ _ _
   | exact ih1 _ _ _ _ _
   | exact ih2 _ _ _ _ _ _ _ _ _
   | exact tenter_Order_1.mono _ _ _ _
   | exact tenter_forecast_late.mono _ _ _ _ _ _ _ _
   | exact LeO.none _
   | refine LeO.ite ?_ ?_
   | refine LeO.bind ?_ (fun _ => ?_)
def tenter_Order.T8 : Bool × List (List Nat × List Nat) := (true, [([], []), ([], []), ([], []), ([], []), ([1, 2, 3], [1, 2, 3]), ([4], [4]), ([0, 5, 4], [0, 5]), ([], []), ([], []), ([8], [8]), ([7, 9, 6], [7, 9]), ([6, 10, 0, 1, 2, 3, 4, 5, 6], [6]), ([10, 11, 0, 1, 2, 3, 4, 5, 6, 7, 8, 9, 10, 11], [7, 10])])
def tenter_Order.B8 : List Nat := [0, 0, 0, 0, 14, 30, 63, 0, 0, 256, 1023, 2047, 4095]
theorem tenter_Order.tab8 : rtab .any (opsOf Tryz.f39 8) = tenter_Order.T8 := by kernel_rfl
theorem tenter_Order.bits8 : waitsOk tenter_Order.T8.2 tenter_Order.B8 = true := by kernel_rfl
set_option maxHeartbeats 8000000 in
set_option maxRecDepth 100000 in
theorem tenter_Order.calls (k : Nat) (A0_0 : Option Addr) (c0_0 : Nat) (l0_0 : List (S43)) (A0_1 : Option Addr) (c0_1 : Nat) (l0_1 : List Int) (a0_2 : Int) (a0_3 : Int) (A1 : Option Addr) (c1 : Nat) (l1 : List (S36)) (a2 : Int) (r1 : List Int) (r2 : Int) (w : World) (hr0_0 : Kd.C k43 w A0_0 l0_0.length l0_0) (hc0_0 : l0_0.length ≤ c0_0) (hr0_1 : Kd.C (Kd.int .i64) w A0_1 l0_1.length l0_1) (hc0_1 : l0_1.length ≤ c0_1) (hr1 : Kd.C k36 w A1 l1.length l1) (hc1 : l1.length ≤ c1) (h : tenter_Order.f k l0_0 l0_1 a0_2 a0_3 l1 a2 = some (r1, r2)) :
  Calls Tryz.prog 39 #[.agg #[.slice A0_0 l0_0.length c0_0, .slice A0_1 l0_1.length c0_1, .int .i64 a0_2, .int .i64 a0_3], .slice A1 l1.length c1, .int .i64 a2] w fun e w' => ∃ v0_ : Value, e = .returned (.tuple #[v0_, .int .i64 r2]) ∧ Kd.R (Kd.int .i64) 3 w' w.heap.size (fun _ => True) v0_ r1 ∧ Below w.heap.size w w' := by
 have hu25 := Tryz.underlying25
 have hu121 := Tryz.underlying121
 have HR0_0 := Aside0.mk hr0_0
 have HC0_0 := Aside0.mk hc0_0
 clear hr0_0 hc0_0
 have HR0_1 := Aside0.mk hr0_1
 have HC0_1 := Aside0.mk hc0_1
 clear hr0_1 hc0_1
 have HR1 := Aside0.mk hr1
 have HC1 := Aside0.mk hc1
 clear hr1 hc1
 have HB := Aside0.mk (Below.refl w.heap.size w)
 have H : ((tenter_newForecast.f l0_0 l0_1 a0_2 a0_3 l1 a2).bind fun bt102 => (if bt102.2.2.2.2.2 = 0 then (tenter_Order.l0 k a2 (([] : List Int)) (l0_0.length : Int) 0 l0_0 l0_1 a0_2 a0_3 bt102.1 bt102.2.1 bt102.2.2.1 bt102.2.2.2.1 bt102.2.2.2.2.1 (([] : List Int))) else (some (([] : List Int), bt102.2.2.2.2.2)))) = some (r1, r2) := h
 clear h
 obtain ⟨⟨t102, t105, t108, t109, t110, t113⟩, A4, H⟩ := bi H
 by_cases c5 : t113 = 0
 ·rw [if_pos c5] at H
  have c5b0 : (t113 == 0) = true := beq_iff_eq.mpr c5
  have c5b1 : (t113 != 0) = false := bne_eq_false_iff_eq.mpr c5
  clear c5
  obtain ⟨y115, hy115⟩ : ∃ y_ : List Int, y_ = (([] : List Int)) := ⟨_, rfl⟩
  replace H : (tenter_Order.l0 k a2 (([] : List Int)) (l0_0.length : Int) 0 l0_0 l0_1 a0_2 a0_3 t102 t105 t108 t109 t110 y115) = some (r1, r2) := yy hy115 H
  have Ny115 := Aside0.mk hy115
  clear hy115
  obtain ⟨y118, hy118⟩ : ∃ y_ : List Int, y_ = (([] : List Int)) := ⟨_, rfl⟩
  replace H : (tenter_Order.l0 k a2 y118 (l0_0.length : Int) 0 l0_0 l0_1 a0_2 a0_3 t102 t105 t108 t109 t110 y115) = some (r1, r2) := yy hy118 H
  have Ny118 := Aside0.mk hy118
  clear hy118
  have H' := Aside0.mk H
  clear H
  go_enter Tryz.func39, Tryz.ntmps39
  go_wp2_with (first | ((with_reducible refine gate_dst (N := 3) rfl ?_); refine bx 3 #[.slice A0_0 l0_0.length c0_0, .slice A0_1 l0_1.length c0_1, .int .i64 a0_2, .int .i64 a0_3] 25 ?_; intro gb101 hg w6 hbox hb; have BK101 := hbox; have GW101 := gs HB hg; have GE101 := gs HB hg; replace HB := bs HB hb; clear hb hbox hg; obtain ⟨hcz7_0, hcz7_1, hcz7_2, hcz7_3, hfz7_0, hfz7_1, hfz7_2, hfz7_3⟩ := cf4 BK101) | ((with_reducible refine gc 78 rfl ?_); refine gL 21 Tryz.func78 #[.agg #[.slice A0_0 l0_0.length c0_0, .slice A0_1 l0_1.length c0_1, .int .i64 a0_2, .int .i64 a0_3], .slice A1 l1.length c1, .int .i64 a2] ?_; (with_reducible refine (tenter_newForecast.calls (fun k_ => k_ < w.heap.size) _ _ l0_0 (fun k_ => k_ < w.heap.size) _ _ l0_1 a0_2 a0_3 (fun k_ => k_ < w.heap.size) _ _ l1 a2 t102 t105 t108 t109 t110 t113 _ ?side1 ?side2 ?side3 A4.out).mono ?_); (case side1 => exact Kd.V_mk HC0_0.out (Kd.F_below (Kd.C_F k43_heap HR0_0.out) (pE HB))); (case side2 => exact Kd.V_mk HC0_1.out (Kd.F_below (Kd.C_F (Kd.heap_int .i64) HR0_1.out) (pE HB))); (case side3 => exact Kd.V_mk HC1.out (Kd.F_below (Kd.C_F k36_heap HR1.out) (pE HB))); rintro e w8 ⟨v103, v106, v111, rfl, ho0, ho1, ho2, hb⟩; refine ⟨_, rfl, ?_⟩; have HO104 := Aside0.mk (Kd.V_lower (Kd.V_mono (ok' := fun k_ => k_ ≠ gb101) ho0 (fun k_ hk_ => Or.elim hk_ (fun hs_ => Or.elim hs_ (fun hs_ => fun e_ => Nat.not_le.2 hs_ (by rw [e_]; exact GW101.out)) (fun hs_ => Or.elim hs_ (fun hs_ => fun e_ => Nat.not_le.2 hs_ (by rw [e_]; exact GW101.out)) (fun hs_ => fun e_ => Nat.not_le.2 hs_ (by rw [e_]; exact GW101.out)))) (fun hn_ => (Kd.freshB (g := gb101) (o := .cells #[.slice A0_0 l0_0.length c0_0, .slice A0_1 l0_1.length c0_1, .int .i64 a0_2, .int .i64 a0_3] 25 (0, 0)) (pB BK101.out) k_ hn_)))) (below_size (pE HB))); have HO107 := Aside0.mk (Kd.V_lower (Kd.V_mono (ok' := fun k_ => k_ ≠ gb101) ho1 (fun k_ hk_ => Or.elim hk_ (fun hs_ => Or.elim hs_ (fun hs_ => fun e_ => Nat.not_le.2 hs_ (by rw [e_]; exact GW101.out)) (fun hs_ => Or.elim hs_ (fun hs_ => fun e_ => Nat.not_le.2 hs_ (by rw [e_]; exact GW101.out)) (fun hs_ => fun e_ => Nat.not_le.2 hs_ (by rw [e_]; exact GW101.out)))) (fun hn_ => (Kd.freshB (g := gb101) (o := .cells #[.slice A0_0 l0_0.length c0_0, .slice A0_1 l0_1.length c0_1, .int .i64 a0_2, .int .i64 a0_3] 25 (0, 0)) (pB BK101.out) k_ hn_)))) (below_size (pE HB))); have HO112 := Aside0.mk (Kd.V_lower (Kd.V_mono (ok' := fun k_ => k_ ≠ gb101) ho2 (fun k_ hk_ => Or.elim hk_ (fun hs_ => Or.elim hs_ (fun hs_ => fun e_ => Nat.not_le.2 hs_ (by rw [e_]; exact GW101.out)) (fun hs_ => Or.elim hs_ (fun hs_ => fun e_ => Nat.not_le.2 hs_ (by rw [e_]; exact GW101.out)) (fun hs_ => fun e_ => Nat.not_le.2 hs_ (by rw [e_]; exact GW101.out)))) (fun hn_ => (Kd.freshB (g := gb101) (o := .cells #[.slice A0_0 l0_0.length c0_0, .slice A0_1 l0_1.length c0_1, .int .i64 a0_2, .int .i64 a0_3] 25 (0, 0)) (pB BK101.out) k_ hn_)))) (below_size (pE HB))); replace BK101 := bb BK101 hb; replace HB := bs HB hb; clear hb ho0 ho1 ho2) | ((with_reducible refine gate_dst (N := 8) rfl ?_); refine bx 8 #[.slice none 0 0, .slice none 0 0, .int .i64 0, .int .i64 0, .slice none 0 0] 121 ?_; intro gb114 hg w9 hbox hb; replace HO104 := ve HO104 hg hb; replace HO107 := ve HO107 hg hb; replace HO112 := ve HO112 hg hb; have BK114 := hbox; have GW114 := gs HB hg; have GE114 := gs HB hg; replace HB := bs HB hb; have NB101_114 := nl BK101 hg; have NB114_101 := nr BK101 hg; replace BK101 := bb BK101 hb; clear hb hbox hg; obtain ⟨Ao10, co10, eo10⟩ := Kd.V_slice HO104.out; subst eo10; have hnb11 := NB114_101.out; have hnc11 := NB101_114.out; obtain ⟨hcz12_0, hcz12_1, hcz12_2, hcz12_3, hcz12_4, hfz12_0, hfz12_1, hfz12_2, hfz12_3, hfz12_4⟩ := cf5 BK114; obtain ⟨Ao13, co13, eo13⟩ := Kd.V_slice HO107.out; subst eo13; obtain ⟨Ao14, co14, eo14⟩ := Kd.V_slice HO112.out; subst eo14) | ((with_reducible refine gate_dst (N := 27) rfl ?_); refine Kd.R_lit (Kd.int .i64) _ 3 ?hg (N := 27) ?hd (xs := ([] : List Int)) (inner := []) (ok := fun _ => True) (okp := fun _ => True) ?hr ?hp (fun _ hk => hk) trivial (Below.refl _ _) (Nat.le_refl _) (by simp) ?_; (case hd => rfl); (case hg => rfl); (case hr => first | (go_simp; done) | (go_simp; rfl)); (case hp => exact (Reps.none _ _)); intro v116 w15 ho16 hb hg_ hnew_; clear hg_ hnew_; (first | rw [← Ny115.out] at ho16 | (simp only [Int.reduceToNat] at ho16; rw [← Ny115.out] at ho16)); replace HO104 := Aside0.mk (Kd.V_elder' (by refine pV ?_; exact (Kd.V_mono (Kd.V_far (p := ⟨gb114, 4, none⟩) (Kd.V_far (p := ⟨gb114, 3, none⟩) (Kd.V_far (p := ⟨gb114, 2, none⟩) (Kd.V_far (p := ⟨gb114, 1, none⟩) (Kd.V_far (p := ⟨gb114, 0, none⟩) (Kd.V_mono HO104.out (fun k_ hk => (⟨hk, hk.2⟩ : _ ∧ k_ ≠ gb114))) (fun _ hk => hk.2) (.slice Ao10 t102.length co10)) (fun _ hk => hk.2) (.slice Ao13 t105.length co13)) (fun _ hk => hk.2) (.int .i64 t108)) (fun _ hk => hk.2) (.int .i64 t109)) (fun _ hk => hk.2) (.slice Ao14 t110.length co14)) (fun _ h_ => h_.1))) (Kd.R_base ho16) hb); replace HO107 := Aside0.mk (Kd.V_elder' (by refine pV ?_; exact (Kd.V_mono (Kd.V_far (p := ⟨gb114, 4, none⟩) (Kd.V_far (p := ⟨gb114, 3, none⟩) (Kd.V_far (p := ⟨gb114, 2, none⟩) (Kd.V_far (p := ⟨gb114, 1, none⟩) (Kd.V_far (p := ⟨gb114, 0, none⟩) (Kd.V_mono HO107.out (fun k_ hk => (⟨hk, hk.2⟩ : _ ∧ k_ ≠ gb114))) (fun _ hk => hk.2) (.slice Ao10 t102.length co10)) (fun _ hk => hk.2) (.slice Ao13 t105.length co13)) (fun _ hk => hk.2) (.int .i64 t108)) (fun _ hk => hk.2) (.int .i64 t109)) (fun _ hk => hk.2) (.slice Ao14 t110.length co14)) (fun _ h_ => h_.1))) (Kd.R_base ho16) hb); replace HO112 := Aside0.mk (Kd.V_elder' (by refine pV ?_; exact (Kd.V_mono (Kd.V_far (p := ⟨gb114, 4, none⟩) (Kd.V_far (p := ⟨gb114, 3, none⟩) (Kd.V_far (p := ⟨gb114, 2, none⟩) (Kd.V_far (p := ⟨gb114, 1, none⟩) (Kd.V_far (p := ⟨gb114, 0, none⟩) (Kd.V_mono HO112.out (fun k_ hk => (⟨hk, hk.2⟩ : _ ∧ k_ ≠ gb114))) (fun _ hk => hk.2) (.slice Ao10 t102.length co10)) (fun _ hk => hk.2) (.slice Ao13 t105.length co13)) (fun _ hk => hk.2) (.int .i64 t108)) (fun _ hk => hk.2) (.int .i64 t109)) (fun _ hk => hk.2) (.slice Ao14 t110.length co14)) (fun _ h_ => h_.1))) (Kd.R_base ho16) hb); have HO117 := rl ho16 HB; replace BK101 := bf BK101 hb; replace BK114 := Aside0.mk (blk_below (g := gb114) (o := .cells #[.slice Ao10 t102.length co10, .slice Ao13 t105.length co13, .int .i64 t108, .int .i64 t109, .slice Ao14 t110.length co14] 121 (0, 0)) (by refine pB ?_; refine blk_put (cs := #[.slice Ao10 t102.length co10, .slice Ao13 t105.length co13, .int .i64 t108, .int .i64 t109, .slice none 0 0]) ?_ 4 _ rfl; refine pB ?_; refine blk_put (cs := #[.slice Ao10 t102.length co10, .slice Ao13 t105.length co13, .int .i64 t108, .int .i64 0, .slice none 0 0]) ?_ 3 _ rfl; refine pB ?_; refine blk_put (cs := #[.slice Ao10 t102.length co10, .slice Ao13 t105.length co13, .int .i64 0, .int .i64 0, .slice none 0 0]) ?_ 2 _ rfl; refine pB ?_; refine blk_put (cs := #[.slice Ao10 t102.length co10, .slice none 0 0, .int .i64 0, .int .i64 0, .slice none 0 0]) ?_ 1 _ rfl; refine pB ?_; refine blk_put (cs := #[.slice none 0 0, .slice none 0 0, .int .i64 0, .int .i64 0, .slice none 0 0]) ?_ 0 _ rfl; (with_reducible repeat (first | refine blk_drewN ?_ _ | refine blk_drew ?_ | refine blk_alloc ?_ _)); exact BK114.out) hb); replace HB := bs HB hb; clear hb ho16) | ((with_reducible refine gate_dst (N := 28) rfl ?_); refine Kd.R_lit (Kd.int .i64) _ 3 ?hg (N := 28) ?hd (xs := ([] : List Int)) (inner := []) (ok := fun _ => True) (okp := fun _ => True) ?hr ?hp (fun _ hk => hk) trivial (Below.refl _ _) (Nat.le_refl _) (by simp) ?_; (case hd => rfl); (case hg => rfl); (case hr => first | (go_simp; done) | (go_simp; rfl)); (case hp => exact (Reps.none _ _)); intro v119 w17 ho18 hb hg_ hnew_; clear hg_ hnew_; (first | rw [← Ny118.out] at ho18 | (simp only [Int.reduceToNat] at ho18; rw [← Ny118.out] at ho18)); replace HO104 := Aside0.mk (Kd.V_elder' (pV HO104.out) (Kd.R_base ho18) hb); replace HO107 := Aside0.mk (Kd.V_elder' (pV HO107.out) (Kd.R_base ho18) hb); replace HO112 := Aside0.mk (Kd.V_elder' (pV HO112.out) (Kd.R_base ho18) hb); have HO120 := Aside0.mk (Kd.R_lower (Kd.R_new' ho18 (Kd.R_lt (pR HO117.out))) (below_size (pE HB))); replace HO117 := re HO117 ho18 hb; replace BK101 := bb BK101 hb; replace BK114 := bb BK114 hb; replace HB := bs HB hb; clear hb ho18) | ((with_reducible refine gate_dst (N := 9) rfl ?_); refine bx 9 #[.slice none 0 0] 23 ?_; intro gb121 hg w19 hbox hb; replace HO104 := ve HO104 hg hb; replace HO107 := ve HO107 hg hb; replace HO112 := ve HO112 hg hb; replace HO117 := rb HO117 hb; replace HO120 := rb HO120 hb; have BK121 := hbox; have GW121 := gs HB hg; have GE121 := gs HB hg; replace HB := bs HB hb; have NB101_121 := nl BK101 hg; have NB121_101 := nr BK101 hg; replace BK101 := bb BK101 hb; have NB114_121 := nl BK114 hg; have NB121_114 := nr BK114 hg; replace BK114 := bb BK114 hb; clear hb hbox hg; obtain ⟨Ao20, co20, eo20⟩ := Kd.R_slice HO117.out; subst eo20; have hnb21 := NB121_101.out; have hnc21 := NB101_121.out; have hnb22 := NB121_114.out; have hnc22 := NB114_121.out; obtain ⟨hcz23_0, hfz23_0⟩ := cf1 BK121; obtain ⟨hcz24_0, hcz24_1, hcz24_2, hcz24_3, hfz24_0, hfz24_1, hfz24_2, hfz24_3⟩ := cf4 BK101))
  go_loopg [10, 32] k (fun kq v10 v32 w' => ∃ (x10_1 : List Int) (x32_1 : Int) (x122000_1 : List Int) (u122000 : Value), v32 = .int .i64 x32_1 ∧ Aside0 (tenter_Order.l0 kq a2 x10_1 (l0_0.length : Int) x32_1 l0_0 l0_1 a0_2 a0_3 t102 t105 t108 t109 t110 x122000_1 = some (r1, r2)) ∧ Aside0 (kq ≤ k) ∧ Aside0 (Kd.R (Kd.int .i64) 3 w' w.heap.size (fun k_ => some k_ ≠ (u122000 : Value).ownBlock) v10 x10_1) ∧ Aside0 (Kd.V k43 43 w' w.heap.size (fun k_ => some k_ ≠ (v10 : Value).ownBlock ∧ some k_ ≠ (u122000 : Value).ownBlock ∧ k_ ≠ gb101 ∧ k_ ≠ gb114 ∧ k_ ≠ gb121) (.slice Ao10 t102.length co10) t102) ∧ Aside0 (Kd.V (Kd.int .i64) 3 w' w.heap.size (fun k_ => some k_ ≠ (v10 : Value).ownBlock ∧ some k_ ≠ (u122000 : Value).ownBlock ∧ k_ ≠ gb101 ∧ k_ ≠ gb114 ∧ k_ ≠ gb121) (.slice Ao13 t105.length co13) t105) ∧ Aside0 (Kd.V k36 36 w' w.heap.size (fun k_ => some k_ ≠ (v10 : Value).ownBlock ∧ some k_ ≠ (u122000 : Value).ownBlock ∧ k_ ≠ gb101 ∧ k_ ≠ gb114 ∧ k_ ≠ gb121) (.slice Ao14 t110.length co14) t110) ∧ Aside0 (Kd.R (Kd.int .i64) 3 w' w.heap.size (fun k_ => some k_ ≠ (v10 : Value).ownBlock) u122000 x122000_1) ∧ Aside0 (w'.heap[gb101]? = some (.cells #[(.slice A0_0 l0_0.length c0_0), (.slice A0_1 l0_1.length c0_1), .int .i64 a0_2, .int .i64 a0_3] 25 (0, 0))) ∧ Aside0 (w'.heap[gb114]? = some (.cells #[(.slice Ao10 t102.length co10), (.slice Ao13 t105.length co13), .int .i64 t108, .int .i64 t109, (.slice Ao14 t110.length co14)] 121 (0, 0))) ∧ Aside0 (w'.heap[gb121]? = some (.cells #[u122000] 23 (0, 0))) ∧ Aside0 (Below w.heap.size w w'))
  case atStart => exact ⟨(y118), (0), (y115), (.slice Ao20 y115.length co20), (by first | rfl | (simp; done) | (simp [*]; done)), H', ⟨Nat.le_refl _⟩, ⟨by (with_reducible repeat (first | apply Kd.R_alloc | apply Kd.R_drewN | apply Kd.R_drew)); exact Kd.R_mono (Kd.R_far (p := ⟨gb121, 0, none⟩) (Kd.R_types HO120.out BK121.out (by decide)) (fun _ hk => hk.2) (.slice Ao20 y115.length co20)) (fun _ hk => hk.1.2)⟩, ⟨by (with_reducible repeat (first | apply Kd.V_alloc | apply Kd.V_drewN | apply Kd.V_drew)); exact Kd.V_mono (Kd.V_far (p := ⟨gb121, 0, none⟩) (Kd.V_mono HO104.out (fun k_ hk => (⟨hk, hk.2⟩ : _ ∧ k_ ≠ gb121))) (fun _ hk => hk.2) (.slice Ao20 y115.length co20)) (fun _ hk => ⟨hk.1.1.2, ⟨hk.1.1.1.2, ⟨hk.1.1.1.1.1, ⟨hk.1.1.1.1.2, hk.1.2⟩⟩⟩⟩)⟩, ⟨by (with_reducible repeat (first | apply Kd.V_alloc | apply Kd.V_drewN | apply Kd.V_drew)); exact Kd.V_mono (Kd.V_far (p := ⟨gb121, 0, none⟩) (Kd.V_mono HO107.out (fun k_ hk => (⟨hk, hk.2⟩ : _ ∧ k_ ≠ gb121))) (fun _ hk => hk.2) (.slice Ao20 y115.length co20)) (fun _ hk => ⟨hk.1.1.2, ⟨hk.1.1.1.2, ⟨hk.1.1.1.1.1, ⟨hk.1.1.1.1.2, hk.1.2⟩⟩⟩⟩)⟩, ⟨by (with_reducible repeat (first | apply Kd.V_alloc | apply Kd.V_drewN | apply Kd.V_drew)); exact Kd.V_mono (Kd.V_far (p := ⟨gb121, 0, none⟩) (Kd.V_mono HO112.out (fun k_ hk => (⟨hk, hk.2⟩ : _ ∧ k_ ≠ gb121))) (fun _ hk => hk.2) (.slice Ao20 y115.length co20)) (fun _ hk => ⟨hk.1.1.2, ⟨hk.1.1.1.2, ⟨hk.1.1.1.1.1, ⟨hk.1.1.1.1.2, hk.1.2⟩⟩⟩⟩)⟩, ⟨by (with_reducible repeat (first | apply Kd.R_alloc | apply Kd.R_drewN | apply Kd.R_drew)); exact Kd.R_mono (Kd.R_far (p := ⟨gb121, 0, none⟩) (Kd.R_types HO117.out BK121.out (by decide)) (fun _ hk => hk.2) (.slice Ao20 y115.length co20)) (fun _ hk => hk.1.2)⟩, ⟨by refine pB ?_; refine blk_far ?_ NB101_121.out _; (with_reducible repeat (first | refine blk_drewN ?_ _ | refine blk_drew ?_ | refine blk_alloc ?_ _)); exact BK101.out⟩, ⟨by refine pB ?_; refine blk_far ?_ NB114_121.out _; (with_reducible repeat (first | refine blk_drewN ?_ _ | refine blk_drew ?_ | refine blk_alloc ?_ _)); exact BK114.out⟩, ⟨by refine pB ?_; refine blk_put (cs := #[.slice none 0 0]) ?_ 0 _ rfl; (with_reducible repeat (first | refine blk_drewN ?_ _ | refine blk_drew ?_ | refine blk_alloc ?_ _)); exact BK121.out⟩, ⟨pE HB⟩⟩
  case round =>
   clear H'
   try clear c1
   try clear c2
   try clear p2
   try clear c3
   try clear c5
   try clear c5b0
   try clear c5b1
   try clear c7
   try clear c11
   try clear c21
   try clear c22
   try clear hcz12_0
   try clear hcz12_1
   try clear hcz12_2
   try clear hcz12_3
   try clear hcz12_4
   try clear hcz23_0
   try clear hcz24_0
   try clear hcz24_1
   try clear hcz24_2
   try clear hcz24_3
   try clear hcz7_0
   try clear hcz7_1
   try clear hcz7_2
   try clear hcz7_3
   try clear hfz12_0
   try clear hfz12_1
   try clear hfz12_2
   try clear hfz12_3
   try clear hfz12_4
   try clear hfz23_0
   try clear hfz24_0
   try clear hfz24_1
   try clear hfz24_2
   try clear hfz24_3
   try clear hfz7_0
   try clear hfz7_1
   try clear hfz7_2
   try clear hfz7_3
   obtain ⟨x10_1, x32_1, x122000_1, u122000, rfl, HA, HK1, HO_10, HO_115000, HO_115001, HO_115004, HO_122000, BK101, BK114, BK121, HB⟩ := hrel
   cases gk with
   | zero => exact absurd HA.out (by simp [tenter_Order.l0])
   | succ k1 =>
    have H := HA.out
    clear HA
    simp only [tenter_Order.l0] at H
    by_cases c25 : x32_1 < (l0_0.length : Int)
    ·rw [if_pos c25] at H
     have c25b0 : decide (x32_1 < (l0_0.length : Int)) = true := decide_eq_true c25
     clear c25
     obtain ⟨t122, A26, H⟩ := bi H
     obtain ⟨y123, hy123⟩ : ∃ y_ : List Int, y_ = (([t122] : List Int)) := ⟨_, rfl⟩
     replace H : (if x122000_1.length + y123.length < 17592186044416 then ((some (([x32_1] : List Int) : List Int)).bind fun y129 => (if x10_1.length + y129.length < 17592186044416 then (tenter_Order.l0 k1 a2 (x10_1 ++ y129) (l0_0.length : Int) (wrap64 (x32_1 + 1)) l0_0 l0_1 a0_2 a0_3 t102 t105 t108 t109 t110 (x122000_1 ++ y123)) else (none))) else (none)) = some (r1, r2) := yy hy123 H
     have Ny123 := Aside0.mk hy123
     clear hy123
     by_cases c27 : x122000_1.length + y123.length < 17592186044416
     ·rw [if_pos c27] at H
      have LMc27 := Aside0.mk c27
      clear c27
      obtain ⟨y126, hy126⟩ : ∃ y_ : List Int, y_ = (x122000_1 ++ y123) := ⟨_, rfl⟩
      replace H : ((some (([x32_1] : List Int) : List Int)).bind fun y129 => (if x10_1.length + y129.length < 17592186044416 then (tenter_Order.l0 k1 a2 (x10_1 ++ y129) (l0_0.length : Int) (wrap64 (x32_1 + 1)) l0_0 l0_1 a0_2 a0_3 t102 t105 t108 t109 t110 y126) else (none))) = some (r1, r2) := yy hy126 H
      have Ny126 := Aside0.mk hy126
      clear hy126
      obtain ⟨y129, hy129⟩ : ∃ y_ : List Int, y_ = (([x32_1] : List Int)) := ⟨_, rfl⟩
      replace H : (if x10_1.length + y129.length < 17592186044416 then (tenter_Order.l0 k1 a2 (x10_1 ++ y129) (l0_0.length : Int) (wrap64 (x32_1 + 1)) l0_0 l0_1 a0_2 a0_3 t102 t105 t108 t109 t110 y126) else (none)) = some (r1, r2) := yy hy129 H
      have Ny129 := Aside0.mk hy129
      clear hy129
      by_cases c28 : x10_1.length + y129.length < 17592186044416
      ·rw [if_pos c28] at H
       have LMc28 := Aside0.mk c28
       clear c28
       obtain ⟨y132, hy132⟩ : ∃ y_ : List Int, y_ = (x10_1 ++ y129) := ⟨_, rfl⟩
       replace H : (tenter_Order.l0 k1 a2 y132 (l0_0.length : Int) (wrap64 (x32_1 + 1)) l0_0 l0_1 a0_2 a0_3 t102 t105 t108 t109 t110 y126) = some (r1, r2) := yy hy132 H
       have Ny132 := Aside0.mk hy132
       clear hy132
       have H' := Aside0.mk H
       clear H
       obtain ⟨Ao29, co29, eo29⟩ := Kd.R_slice HO_122000.out
       subst eo29
       obtain ⟨Ao30, co30, eo30⟩ := Kd.R_slice HO_10.out
       subst eo30
       try go_wp2
       replace HO_10 := Aside0.mk (Kd.R_drew HO_10.out)
       replace HO_115000 := Aside0.mk (Kd.V_drew HO_115000.out)
       replace HO_115001 := Aside0.mk (Kd.V_drew HO_115001.out)
       replace HO_115004 := Aside0.mk (Kd.V_drew HO_115004.out)
       replace HO_122000 := Aside0.mk (Kd.R_drew HO_122000.out)
       replace BK101 := Aside0.mk (blk_drew BK101.out)
       replace BK114 := Aside0.mk (blk_drew BK114.out)
       replace BK121 := Aside0.mk (blk_drew BK121.out)
       replace HB := Aside0.mk (below_drew1 HB.out)
       refine start_ (n := 13) (S := fun w' => w'.cell? ⟨gb121, 0, none⟩ = some (.slice Ao29 x122000_1.length co29) ∧ w'.cell? ⟨gb114, 0, none⟩ = some (.slice Ao10 t102.length co10) ∧ w'.cell? ⟨gb114, 1, none⟩ = some (.slice Ao13 t105.length co13) ∧ w'.cell? ⟨gb114, 2, none⟩ = some (.int .i64 t108) ∧ w'.cell? ⟨gb114, 3, none⟩ = some (.int .i64 t109) ∧ w'.cell? ⟨gb114, 4, none⟩ = some (.slice Ao14 t110.length co14)) (ds := [11]) #[false, false, false, false, false, false, false, false, false, false, false, false, false] (by kernel_rfl) rfl rfl ⟨(blk_cell BK121.out 0).trans rfl, (blk_cell BK114.out 0).trans rfl, (blk_cell BK114.out 1).trans rfl, (blk_cell BK114.out 2).trans rfl, (blk_cell BK114.out 3).trans rfl, (blk_cell BK114.out 4).trans rfl⟩ (fun hHeld => ?_); refine with_tabW tenter_Order.tab8 tenter_Order.bits8 (fun HT_ HW_ => ?_)
       generalize wr.drew = w31 at HO_10 HO_115000 HO_115001 HO_115004 HO_122000 BK101 BK114 BK121 HB hHeld ⊢
       refine pu 2 37 ?_
       refine pu 3 38 ?_
       refine pu 7 42 ?_
       refine pu 8 43 ?_
       refine tk 0 35 hHeld ?_
       refine tk 1 36 hHeld ?_
       refine join_ (σ := Value × Value × Value) 3 #[true, true, true, true, true, true, true, true, true, true, false, false, false] (fun s_ => [(39, .int .i64 t122), (40, s_.1), (41, s_.2.1), (44, s_.2.2)]) (fun s_ w' => (w'.cell? ⟨gb121, 0, none⟩ = some (.slice Ao29 x122000_1.length co29) ∧ w'.cell? ⟨gb114, 0, none⟩ = some (.slice Ao10 t102.length co10) ∧ w'.cell? ⟨gb114, 1, none⟩ = some (.slice Ao13 t105.length co13) ∧ w'.cell? ⟨gb114, 2, none⟩ = some (.int .i64 t108) ∧ w'.cell? ⟨gb114, 3, none⟩ = some (.int .i64 t109) ∧ w'.cell? ⟨gb114, 4, none⟩ = some (.slice Ao14 t110.length co14)) ∧ (Kd.R (Kd.int .i64) 3 w' w.heap.size (fun k_ => some k_ ≠ (s_.2.1 : Value).ownBlock ∧ some k_ ≠ (s_.2.2 : Value).ownBlock ∧ some k_ ≠ (.slice Ao30 x10_1.length co30 : Value).ownBlock) s_.1 y123) ∧ (Kd.R (Kd.int .i64) 3 w' w.heap.size (fun k_ => some k_ ≠ (s_.1 : Value).ownBlock ∧ some k_ ≠ (s_.2.2 : Value).ownBlock ∧ some k_ ≠ (.slice Ao30 x10_1.length co30 : Value).ownBlock) s_.2.1 y126) ∧ (Kd.R (Kd.int .i64) 3 w' w.heap.size (fun k_ => some k_ ≠ (s_.1 : Value).ownBlock ∧ some k_ ≠ (s_.2.1 : Value).ownBlock ∧ some k_ ≠ (.slice Ao30 x10_1.length co30 : Value).ownBlock) s_.2.2 y129) ∧ (Kd.R (Kd.int .i64) 3 w' w.heap.size (fun k_ => some k_ ≠ (s_.1 : Value).ownBlock ∧ some k_ ≠ (s_.2.1 : Value).ownBlock ∧ some k_ ≠ (s_.2.2 : Value).ownBlock) (.slice Ao30 x10_1.length co30) x10_1) ∧ (Kd.V k43 43 w' w.heap.size (fun k_ => some k_ ≠ (s_.1 : Value).ownBlock ∧ some k_ ≠ (s_.2.1 : Value).ownBlock ∧ some k_ ≠ (s_.2.2 : Value).ownBlock ∧ some k_ ≠ (.slice Ao30 x10_1.length co30 : Value).ownBlock ∧ k_ ≠ gb101 ∧ k_ ≠ gb114 ∧ k_ ≠ gb121) (.slice Ao10 t102.length co10) t102) ∧ (Kd.V (Kd.int .i64) 3 w' w.heap.size (fun k_ => some k_ ≠ (s_.1 : Value).ownBlock ∧ some k_ ≠ (s_.2.1 : Value).ownBlock ∧ some k_ ≠ (s_.2.2 : Value).ownBlock ∧ some k_ ≠ (.slice Ao30 x10_1.length co30 : Value).ownBlock ∧ k_ ≠ gb101 ∧ k_ ≠ gb114 ∧ k_ ≠ gb121) (.slice Ao13 t105.length co13) t105) ∧ (Kd.V k36 36 w' w.heap.size (fun k_ => some k_ ≠ (s_.1 : Value).ownBlock ∧ some k_ ≠ (s_.2.1 : Value).ownBlock ∧ some k_ ≠ (s_.2.2 : Value).ownBlock ∧ some k_ ≠ (.slice Ao30 x10_1.length co30 : Value).ownBlock ∧ k_ ≠ gb101 ∧ k_ ≠ gb114 ∧ k_ ≠ gb121) (.slice Ao14 t110.length co14) t110) ∧ (w'.heap[gb101]? = some (.cells #[.slice A0_0 l0_0.length c0_0, .slice A0_1 l0_1.length c0_1, .int .i64 a0_2, .int .i64 a0_3] 25 (0, 0))) ∧ (w'.heap[gb114]? = some (.cells #[.slice Ao10 t102.length co10, .slice Ao13 t105.length co13, .int .i64 t108, .int .i64 t109, .slice Ao14 t110.length co14] 121 (0, 0))) ∧ (w'.heap[gb121]? = some (.cells #[.slice Ao29 x122000_1.length co29] 23 (0, 0))) ∧ (Below w.heap.size w w')) ?_ ?_
       rotate_left
       ·intro hCont
        refine two_ (i := 4) (j := 9) (Ni := some 39) (Nj := some 44) #[true, true, true, true, true, false, false, true, true, false, false, false, false] #[true, true, true, true, false, false, false, true, true, true, false, false, false] rfl rfl rfl rfl (two_of HT_.out (by kernel_rfl)) (by decide) (by decide) (fun K hK => ?_) (fun K hK => ?_)
        ·skip
         refine gO Tryz.func81 #[.agg #[.slice Ao10 t102.length co10, .slice Ao13 t105.length co13, .int .i64 t108, .int .i64 t109, .slice Ao14 t110.length co14], .int .i64 x32_1, .int .i64 a2] ?_
         with_reducible refine (tenter_forecast_late.calls k1 _ _ t102 _ _ t105 t108 t109 _ _ t110 x32_1 a2 t122 _ ?side1 ?side2 ?side3 ?side4 ?side5 ?side6 A26.out).mono ?_
         (case side1 => exact pC (Kd.V_reads' HO_115000.out).2.2)
         (case side2 => exact (Kd.V_reads' HO_115000.out).2.1)
         (case side3 => exact pC (Kd.V_reads' HO_115001.out).2.2)
         (case side4 => exact (Kd.V_reads' HO_115001.out).2.1)
         (case side5 => exact pC (Kd.V_reads' HO_115004.out).2.2)
         (case side6 => exact (Kd.V_reads' HO_115004.out).2.1)
         rintro e w32 ⟨rfl, hb⟩
         refine ⟨_, rfl, ?_⟩
         replace HO_10 := rb HO_10 hb
         replace HO_115000 := vb HO_115000 hb
         replace HO_115001 := vb HO_115001 hb
         replace HO_115004 := vb HO_115004 hb
         replace HO_122000 := rb HO_122000 hb
         replace BK101 := bb BK101 hb
         replace BK114 := bb BK114 hb
         replace BK121 := bb BK121 hb
         replace HB := bs HB hb
         (try clear hb)
         (try clear hb2)
         (try clear hk)
         (try clear hi)
         refine hK.out _ _ ⟨(blk_cell BK121.out 0).trans rfl, (blk_cell BK114.out 0).trans rfl, (blk_cell BK114.out 1).trans rfl, (blk_cell BK114.out 2).trans rfl, (blk_cell BK114.out 3).trans rfl, (blk_cell BK114.out 4).trans rfl⟩ (fun hHeld => ?_)
         clear hK K
         refine norm_ (a' := ?_) ?_ ?_
         rotate_left
         ·show Act.put _ (some 39) _ = _
          simp only [Act.put, List.setIfInBounds_toArray, List.set_cons_zero, List.set_cons_succ, i64_w, i32_w]
          rfl
         refine two_ (i := 5) (j := 9) (Ni := some 40) (Nj := some 44) #[true, true, true, true, true, true, false, true, true, false, false, false, false] #[true, true, true, true, true, false, false, true, true, true, false, false, false] rfl rfl rfl rfl (two_of HT_.out (by kernel_rfl)) (by decide) (by decide) (fun K hK => ?_) (fun K hK => ?_)
         ·skip
          refine Kd.R_lit_step (Kd.int .i64) _ 3 ?hg (N := 40) ?hd (xs := ([t122] : List Int)) (inner := [.int .i64 t122]) (ok := fun _ => True) (okp := fun _ => True) ?hr ?hp (fun _ hk => hk) trivial (Below.refl _ _) (Nat.le_refl _) (by simp) ?_; (case hd => rfl); (case hg => rfl); (case hr => first | (go_simp; done) | (go_simp; rfl)); (case hp => exact (Reps.one (show Kd.M (Kd.int .i64) _ _ _ t122 [.int .i64 t122] from rfl) (Reps.none _ _)))
          intro v124 w33 ho34 hb hg_ hnew_
          clear hg_ hnew_
          (first | rw [← Ny123.out] at ho34 | (simp only [Int.reduceToNat] at ho34; rw [← Ny123.out] at ho34))
          replace HO_115000 := Aside0.mk (Kd.V_elder' (pV HO_115000.out) (Kd.R_base ho34) hb)
          replace HO_115001 := Aside0.mk (Kd.V_elder' (pV HO_115001.out) (Kd.R_base ho34) hb)
          replace HO_115004 := Aside0.mk (Kd.V_elder' (pV HO_115004.out) (Kd.R_base ho34) hb)
          have HO125 := Aside0.mk (Kd.R_lower (Kd.R_new' (Kd.R_new' ho34 (Kd.R_lt (pR HO_10.out))) (Kd.R_lt (pR HO_122000.out))) (below_size (pE HB)))
          replace HO_10 := re HO_10 ho34 hb
          replace HO_122000 := re HO_122000 ho34 hb
          replace BK101 := bb BK101 hb
          replace BK114 := bb BK114 hb
          replace BK121 := bb BK121 hb
          replace HB := bs HB hb
          clear hb ho34
          obtain ⟨Ao36, co36, eo36⟩ := Kd.R_slice HO125.out
          (first | subst eo36 | (injection eo36 with f1_ f2_ f3_; have f4_ := f1_.symm; have f5_ := f3_.symm; clear f1_ f2_ f3_; subst f4_; subst f5_))
          refine hK.out _ _ ⟨(blk_cell BK121.out 0).trans rfl, (blk_cell BK114.out 0).trans rfl, (blk_cell BK114.out 1).trans rfl, (blk_cell BK114.out 2).trans rfl, (blk_cell BK114.out 3).trans rfl, (blk_cell BK114.out 4).trans rfl⟩ (fun hHeld => ?_)
          clear hK K
          refine norm_ (a' := ?_) ?_ ?_
          rotate_left
          ·show Act.put _ (some 40) _ = _
           simp only [Act.put, List.setIfInBounds_toArray, List.set_cons_zero, List.set_cons_succ, i64_w, i32_w]
           rfl
          refine two_ (i := 6) (j := 9) (Ni := some 41) (Nj := some 44) #[true, true, true, true, true, true, true, true, true, false, false, false, false] #[true, true, true, true, true, true, false, true, true, true, false, false, false] rfl rfl rfl rfl (two_of HT_.out (by kernel_rfl)) (by decide) (by decide) (fun K hK => ?_) (fun K hK => ?_)
          ·skip
           refine Kd.R_append_rows_step (Kd.int .i64) (w0 := w) w.heap.size (by rfl) (.tmp 35) (.tmp 40) 23 3 (.int .i64 0) 8 rfl Tryz.underlying23 info3 rfl (by decide) (by omega) (.slice Ao29 x122000_1.length co29) x122000_1 y123 _ _ _ (fun k_ => some k_ ≠ (.slice Ao30 x10_1.length co30 : Value).ownBlock ∧ some k_ ≠ (.slice Ao36 y123.length co36 : Value).ownBlock) (fun _ => False) rfl rfl ?aO ?aR (fun _ _ h => h) (fun _ h => h.elim) ?aF ?aB ?aS ?aL ?_
           (case aR => exact pC (Kd.R_reads' HO125.out).2.2)
           (case aB => exact (pE HB))
           (case aF => exact (fun k_ hk => ⟨Kd.fresh' (Kd.R_lt (pR HO_10.out)) k_ hk, Kd.fresh' (Kd.R_lt (pR HO125.out)) k_ hk⟩))
           (case aO => exact (pR HO_122000.out))
           (case aS => exact (below_size (pE HB)))
           (case aL => have := LMc27.out; omega)
           intro v127 w35 ho hb hg hat
           rw [← Ny126.out] at ho
           replace HO_10 := Aside0.mk (Kd.R_after (ok := (fun k_ => some k_ ≠ (.slice Ao36 y123.length co36 : Value).ownBlock)) (by refine pR ?_; exact Kd.R_mono HO_10.out (fun _ hk => ⟨hk.2, hk.1⟩)) hg hat)
           replace HO_115000 := Aside0.mk (Kd.V_afterv (ok := (fun k_ => some k_ ≠ (.slice Ao30 x10_1.length co30 : Value).ownBlock ∧ some k_ ≠ (.slice Ao36 y123.length co36 : Value).ownBlock ∧ k_ ≠ gb101 ∧ k_ ≠ gb114 ∧ k_ ≠ gb121)) (by refine pV ?_; exact Kd.V_mono HO_115000.out (fun _ hk => ⟨⟨hk.1.1, ⟨hk.2, ⟨hk.1.2.2.1, ⟨hk.1.2.2.2.1, hk.1.2.2.2.2⟩⟩⟩⟩, hk.1.2.1⟩)) hg hat)
           replace HO_115001 := Aside0.mk (Kd.V_afterv (ok := (fun k_ => some k_ ≠ (.slice Ao30 x10_1.length co30 : Value).ownBlock ∧ some k_ ≠ (.slice Ao36 y123.length co36 : Value).ownBlock ∧ k_ ≠ gb101 ∧ k_ ≠ gb114 ∧ k_ ≠ gb121)) (by refine pV ?_; exact Kd.V_mono HO_115001.out (fun _ hk => ⟨⟨hk.1.1, ⟨hk.2, ⟨hk.1.2.2.1, ⟨hk.1.2.2.2.1, hk.1.2.2.2.2⟩⟩⟩⟩, hk.1.2.1⟩)) hg hat)
           replace HO_115004 := Aside0.mk (Kd.V_afterv (ok := (fun k_ => some k_ ≠ (.slice Ao30 x10_1.length co30 : Value).ownBlock ∧ some k_ ≠ (.slice Ao36 y123.length co36 : Value).ownBlock ∧ k_ ≠ gb101 ∧ k_ ≠ gb114 ∧ k_ ≠ gb121)) (by refine pV ?_; exact Kd.V_mono HO_115004.out (fun _ hk => ⟨⟨hk.1.1, ⟨hk.2, ⟨hk.1.2.2.1, ⟨hk.1.2.2.2.1, hk.1.2.2.2.2⟩⟩⟩⟩, hk.1.2.1⟩)) hg hat)
           replace BK101 := Aside0.mk (blk_grown (g := gb101) (o := .cells #[.slice A0_0 l0_0.length c0_0, .slice A0_1 l0_1.length c0_1, .int .i64 a0_2, .int .i64 a0_3] 25 (0, 0)) (pB BK101.out) hg (Kd.R_ne HO_122000.out BK101.out (by decide)))
           replace BK114 := Aside0.mk (blk_grown (g := gb114) (o := .cells #[.slice Ao10 t102.length co10, .slice Ao13 t105.length co13, .int .i64 t108, .int .i64 t109, .slice Ao14 t110.length co14] 121 (0, 0)) (pB BK114.out) hg (Kd.R_ne HO_122000.out BK114.out (by decide)))
           replace BK121 := Aside0.mk (blk_grown (g := gb121) (o := .cells #[.slice Ao29 x122000_1.length co29] 23 (0, 0)) (pB BK121.out) hg (Kd.R_ne HO_122000.out BK121.out (by decide)))
           replace HO125 := Aside0.mk (Kd.R_after (ok := (fun k_ => some k_ ≠ (.slice Ao30 x10_1.length co30 : Value).ownBlock)) (by refine pR ?_; exact Kd.R_mono HO125.out (fun _ hk => ⟨hk.1.2, hk.2⟩)) hg hat)
           replace HB := Aside0.mk (hb)
           have HO128 := Aside0.mk (ho)
           clear HO_122000 ho hb hg hat
           refine hK.out _ _ ⟨(blk_cell BK121.out 0).trans rfl, (blk_cell BK114.out 0).trans rfl, (blk_cell BK114.out 1).trans rfl, (blk_cell BK114.out 2).trans rfl, (blk_cell BK114.out 3).trans rfl, (blk_cell BK114.out 4).trans rfl⟩ (fun hHeld => ?_)
           clear hK K
           refine norm_ (a' := ?_) ?_ ?_
           rotate_left
           ·show Act.put _ (some 41) _ = _
            simp only [Act.put, List.setIfInBounds_toArray, List.set_cons_zero, List.set_cons_succ, i64_w, i32_w]
            rfl
           refine on 9 (fun K hK => ?_)
           refine Kd.R_lit_step (Kd.int .i64) _ 3 ?hg (N := 44) ?hd (xs := ([x32_1] : List Int)) (inner := [.int .i64 x32_1]) (ok := fun _ => True) (okp := fun _ => True) ?hr ?hp (fun _ hk => hk) trivial (Below.refl _ _) (Nat.le_refl _) (by simp) ?_; (case hd => rfl); (case hg => rfl); (case hr => first | (go_simp; done) | (go_simp; rfl)); (case hp => exact (Reps.one (show Kd.M (Kd.int .i64) _ _ _ x32_1 [.int .i64 x32_1] from rfl) (Reps.none _ _)))
           intro v130 w37 ho38 hb hg_ hnew_
           clear hg_ hnew_
           (first | rw [← Ny129.out] at ho38 | (simp only [Int.reduceToNat] at ho38; rw [← Ny129.out] at ho38))
           replace HO_115000 := Aside0.mk (Kd.V_elder' (pV HO_115000.out) (Kd.R_base ho38) hb)
           replace HO_115001 := Aside0.mk (Kd.V_elder' (pV HO_115001.out) (Kd.R_base ho38) hb)
           replace HO_115004 := Aside0.mk (Kd.V_elder' (pV HO_115004.out) (Kd.R_base ho38) hb)
           have HO131 := Aside0.mk (Kd.R_lower (Kd.R_new' (Kd.R_new' (Kd.R_new' ho38 (Kd.R_lt (pR HO_10.out))) (Kd.R_lt (pR HO125.out))) (Kd.R_lt (pR HO128.out))) (below_size (pE HB)))
           replace HO_10 := re HO_10 ho38 hb
           replace HO125 := re HO125 ho38 hb
           replace HO128 := re HO128 ho38 hb
           replace BK101 := bb BK101 hb
           replace BK114 := bb BK114 hb
           replace BK121 := bb BK121 hb
           replace HB := bs HB hb
           clear hb ho38
           refine hK.out _ _ ⟨(blk_cell BK121.out 0).trans rfl, (blk_cell BK114.out 0).trans rfl, (blk_cell BK114.out 1).trans rfl, (blk_cell BK114.out 2).trans rfl, (blk_cell BK114.out 3).trans rfl, (blk_cell BK114.out 4).trans rfl⟩ (fun hHeld => ?_)
           clear hK K
           refine norm_ (a' := ?_) ?_ ?_
           rotate_left
           ·show Act.put _ (some 44) _ = _
            simp only [Act.put, List.setIfInBounds_toArray, List.set_cons_zero, List.set_cons_succ, i64_w, i32_w]
            rfl
           exact norm_ (by simp only [putAll, Act.put, List.setIfInBounds_toArray, List.set_cons_zero, List.set_cons_succ]) (hCont (.slice Ao36 y123.length co36, v127, v130) _ ⟨hHeld, (by refine pR ?_; exact Kd.R_mono HO125.out (fun _ hk => ⟨hk.1.2, ⟨hk.2, hk.1.1⟩⟩)), (by refine pR ?_; exact Kd.R_mono HO128.out (fun _ hk => ⟨hk.1.2, ⟨hk.2, hk.1.1⟩⟩)), (by refine pR ?_; exact Kd.R_mono HO131.out (fun _ hk => ⟨hk.1.2, ⟨hk.2, hk.1.1.2⟩⟩)), (by refine pR ?_; exact Kd.R_mono HO_10.out (fun _ hk => ⟨hk.1.1, ⟨hk.1.2, hk.2⟩⟩)), (by refine pV ?_; exact Kd.V_mono HO_115000.out (fun _ hk => ⟨hk.1.1.2.1, ⟨hk.1.2, ⟨hk.2, ⟨hk.1.1.1, ⟨hk.1.1.2.2.1, ⟨hk.1.1.2.2.2.1, hk.1.1.2.2.2.2⟩⟩⟩⟩⟩⟩)), (by refine pV ?_; exact Kd.V_mono HO_115001.out (fun _ hk => ⟨hk.1.1.2.1, ⟨hk.1.2, ⟨hk.2, ⟨hk.1.1.1, ⟨hk.1.1.2.2.1, ⟨hk.1.1.2.2.2.1, hk.1.1.2.2.2.2⟩⟩⟩⟩⟩⟩)), (by refine pV ?_; exact Kd.V_mono HO_115004.out (fun _ hk => ⟨hk.1.1.2.1, ⟨hk.1.2, ⟨hk.2, ⟨hk.1.1.1, ⟨hk.1.1.2.2.1, ⟨hk.1.1.2.2.2.1, hk.1.1.2.2.2.2⟩⟩⟩⟩⟩⟩)), (pB BK101.out), (pB BK114.out), (pB BK121.out), (pE HB)⟩)
          ·skip
           refine Kd.R_lit_step (Kd.int .i64) _ 3 ?hg (N := 44) ?hd (xs := ([x32_1] : List Int)) (inner := [.int .i64 x32_1]) (ok := fun _ => True) (okp := fun _ => True) ?hr ?hp (fun _ hk => hk) trivial (Below.refl _ _) (Nat.le_refl _) (by simp) ?_; (case hd => rfl); (case hg => rfl); (case hr => first | (go_simp; done) | (go_simp; rfl)); (case hp => exact (Reps.one (show Kd.M (Kd.int .i64) _ _ _ x32_1 [.int .i64 x32_1] from rfl) (Reps.none _ _)))
           intro v130 w35 ho36 hb hg_ hnew_
           clear hg_ hnew_
           (first | rw [← Ny129.out] at ho36 | (simp only [Int.reduceToNat] at ho36; rw [← Ny129.out] at ho36))
           replace HO_115000 := Aside0.mk (Kd.V_elder' (pV HO_115000.out) (Kd.R_base ho36) hb)
           replace HO_115001 := Aside0.mk (Kd.V_elder' (pV HO_115001.out) (Kd.R_base ho36) hb)
           replace HO_115004 := Aside0.mk (Kd.V_elder' (pV HO_115004.out) (Kd.R_base ho36) hb)
           have HO131 := Aside0.mk (Kd.R_lower (Kd.R_new' (Kd.R_new' (Kd.R_new' ho36 (Kd.R_lt (pR HO_10.out))) (Kd.R_lt (pR HO_122000.out))) (Kd.R_lt (pR HO125.out))) (below_size (pE HB)))
           replace HO_10 := re HO_10 ho36 hb
           replace HO_122000 := re HO_122000 ho36 hb
           replace HO125 := re HO125 ho36 hb
           replace BK101 := bb BK101 hb
           replace BK114 := bb BK114 hb
           replace BK121 := bb BK121 hb
           replace HB := bs HB hb
           clear hb ho36
           obtain ⟨Ao38, co38, eo38⟩ := Kd.R_slice HO125.out
           (first | subst eo38 | (injection eo38 with f1_ f2_ f3_; have f4_ := f1_.symm; have f5_ := f3_.symm; clear f1_ f2_ f3_; subst f4_; subst f5_))
           refine hK.out _ _ ⟨(blk_cell BK121.out 0).trans rfl, (blk_cell BK114.out 0).trans rfl, (blk_cell BK114.out 1).trans rfl, (blk_cell BK114.out 2).trans rfl, (blk_cell BK114.out 3).trans rfl, (blk_cell BK114.out 4).trans rfl⟩ (fun hHeld => ?_)
           clear hK K
           refine norm_ (a' := ?_) ?_ ?_
           rotate_left
           ·show Act.put _ (some 44) _ = _
            simp only [Act.put, List.setIfInBounds_toArray, List.set_cons_zero, List.set_cons_succ, i64_w, i32_w]
            rfl
           refine on 6 (fun K hK => ?_)
           refine Kd.R_append_rows_step (Kd.int .i64) (w0 := w) w.heap.size (by rfl) (.tmp 35) (.tmp 40) 23 3 (.int .i64 0) 8 rfl Tryz.underlying23 info3 rfl (by decide) (by omega) (.slice Ao29 x122000_1.length co29) x122000_1 y123 _ _ _ (fun k_ => some k_ ≠ (.slice Ao30 x10_1.length co30 : Value).ownBlock ∧ some k_ ≠ (.slice Ao38 y123.length co38 : Value).ownBlock ∧ some k_ ≠ (v130 : Value).ownBlock) (fun _ => False) rfl rfl ?aO ?aR (fun _ _ h => h) (fun _ h => h.elim) ?aF ?aB ?aS ?aL ?_
           (case aR => exact pC (Kd.R_reads' HO125.out).2.2)
           (case aB => exact (pE HB))
           (case aF => exact (fun k_ hk => ⟨Kd.fresh' (Kd.R_lt (pR HO_10.out)) k_ hk, Kd.fresh' (Kd.R_lt (pR HO125.out)) k_ hk, Kd.fresh' (Kd.R_lt (pR HO131.out)) k_ hk⟩))
           (case aO => exact (by refine pR ?_; exact Kd.R_mono HO_122000.out (fun _ hk => ⟨hk.1.1, ⟨hk.1.2, hk.2⟩⟩)))
           (case aS => exact (below_size (pE HB)))
           (case aL => have := LMc27.out; omega)
           intro v127 w37 ho hb hg hat
           rw [← Ny126.out] at ho
           replace HO_10 := Aside0.mk (Kd.R_after (ok := (fun k_ => some k_ ≠ (.slice Ao38 y123.length co38 : Value).ownBlock ∧ some k_ ≠ (v130 : Value).ownBlock)) (by refine pR ?_; exact Kd.R_mono HO_10.out (fun _ hk => ⟨⟨hk.1.2, hk.2⟩, hk.1.1⟩)) hg hat)
           replace HO_115000 := Aside0.mk (Kd.V_afterv (ok := (fun k_ => some k_ ≠ (.slice Ao30 x10_1.length co30 : Value).ownBlock ∧ some k_ ≠ (.slice Ao38 y123.length co38 : Value).ownBlock ∧ some k_ ≠ (v130 : Value).ownBlock ∧ k_ ≠ gb101 ∧ k_ ≠ gb114 ∧ k_ ≠ gb121)) (by refine pV ?_; exact Kd.V_mono HO_115000.out (fun _ hk => ⟨⟨hk.1.1.1, ⟨hk.1.2, ⟨hk.2, ⟨hk.1.1.2.2.1, ⟨hk.1.1.2.2.2.1, hk.1.1.2.2.2.2⟩⟩⟩⟩⟩, hk.1.1.2.1⟩)) hg hat)
           replace HO_115001 := Aside0.mk (Kd.V_afterv (ok := (fun k_ => some k_ ≠ (.slice Ao30 x10_1.length co30 : Value).ownBlock ∧ some k_ ≠ (.slice Ao38 y123.length co38 : Value).ownBlock ∧ some k_ ≠ (v130 : Value).ownBlock ∧ k_ ≠ gb101 ∧ k_ ≠ gb114 ∧ k_ ≠ gb121)) (by refine pV ?_; exact Kd.V_mono HO_115001.out (fun _ hk => ⟨⟨hk.1.1.1, ⟨hk.1.2, ⟨hk.2, ⟨hk.1.1.2.2.1, ⟨hk.1.1.2.2.2.1, hk.1.1.2.2.2.2⟩⟩⟩⟩⟩, hk.1.1.2.1⟩)) hg hat)
           replace HO_115004 := Aside0.mk (Kd.V_afterv (ok := (fun k_ => some k_ ≠ (.slice Ao30 x10_1.length co30 : Value).ownBlock ∧ some k_ ≠ (.slice Ao38 y123.length co38 : Value).ownBlock ∧ some k_ ≠ (v130 : Value).ownBlock ∧ k_ ≠ gb101 ∧ k_ ≠ gb114 ∧ k_ ≠ gb121)) (by refine pV ?_; exact Kd.V_mono HO_115004.out (fun _ hk => ⟨⟨hk.1.1.1, ⟨hk.1.2, ⟨hk.2, ⟨hk.1.1.2.2.1, ⟨hk.1.1.2.2.2.1, hk.1.1.2.2.2.2⟩⟩⟩⟩⟩, hk.1.1.2.1⟩)) hg hat)
           replace BK101 := Aside0.mk (blk_grown (g := gb101) (o := .cells #[.slice A0_0 l0_0.length c0_0, .slice A0_1 l0_1.length c0_1, .int .i64 a0_2, .int .i64 a0_3] 25 (0, 0)) (pB BK101.out) hg (Kd.R_ne HO_122000.out BK101.out (by decide)))
           replace BK114 := Aside0.mk (blk_grown (g := gb114) (o := .cells #[.slice Ao10 t102.length co10, .slice Ao13 t105.length co13, .int .i64 t108, .int .i64 t109, .slice Ao14 t110.length co14] 121 (0, 0)) (pB BK114.out) hg (Kd.R_ne HO_122000.out BK114.out (by decide)))
           replace BK121 := Aside0.mk (blk_grown (g := gb121) (o := .cells #[.slice Ao29 x122000_1.length co29] 23 (0, 0)) (pB BK121.out) hg (Kd.R_ne HO_122000.out BK121.out (by decide)))
           replace HO125 := Aside0.mk (Kd.R_after (ok := (fun k_ => some k_ ≠ (.slice Ao30 x10_1.length co30 : Value).ownBlock ∧ some k_ ≠ (v130 : Value).ownBlock)) (by refine pR ?_; exact Kd.R_mono HO125.out (fun _ hk => ⟨⟨hk.1.1.2, hk.2⟩, hk.1.2⟩)) hg hat)
           replace HO131 := Aside0.mk (Kd.R_after (ok := (fun k_ => some k_ ≠ (.slice Ao30 x10_1.length co30 : Value).ownBlock ∧ some k_ ≠ (.slice Ao38 y123.length co38 : Value).ownBlock)) (by refine pR ?_; exact Kd.R_mono HO131.out (fun _ hk => ⟨⟨hk.1.1.2, hk.2⟩, hk.1.2⟩)) hg hat)
           replace HB := Aside0.mk (hb)
           have HO128 := Aside0.mk (ho)
           clear HO_122000 ho hb hg hat
           refine hK.out _ _ ⟨(blk_cell BK121.out 0).trans rfl, (blk_cell BK114.out 0).trans rfl, (blk_cell BK114.out 1).trans rfl, (blk_cell BK114.out 2).trans rfl, (blk_cell BK114.out 3).trans rfl, (blk_cell BK114.out 4).trans rfl⟩ (fun hHeld => ?_)
           clear hK K
           refine norm_ (a' := ?_) ?_ ?_
           rotate_left
           ·show Act.put _ (some 41) _ = _
            simp only [Act.put, List.setIfInBounds_toArray, List.set_cons_zero, List.set_cons_succ, i64_w, i32_w]
            rfl
           exact norm_ (by simp only [putAll, Act.put, List.setIfInBounds_toArray, List.set_cons_zero, List.set_cons_succ]) (hCont (.slice Ao38 y123.length co38, v127, v130) _ ⟨hHeld, (by refine pR ?_; exact Kd.R_mono HO125.out (fun _ hk => ⟨hk.2, ⟨hk.1.2, hk.1.1⟩⟩)), (by refine pR ?_; exact Kd.R_mono HO128.out (fun _ hk => ⟨hk.2.1, ⟨hk.2.2, hk.1⟩⟩)), (by refine pR ?_; exact Kd.R_mono HO131.out (fun _ hk => ⟨hk.1.2, ⟨hk.2, hk.1.1⟩⟩)), (by refine pR ?_; exact Kd.R_mono HO_10.out (fun _ hk => ⟨hk.1.1, ⟨hk.2, hk.1.2⟩⟩)), (by refine pV ?_; exact Kd.V_mono HO_115000.out (fun _ hk => ⟨hk.1.2.1, ⟨hk.2, ⟨hk.1.2.2.1, ⟨hk.1.1, ⟨hk.1.2.2.2.1, ⟨hk.1.2.2.2.2.1, hk.1.2.2.2.2.2⟩⟩⟩⟩⟩⟩)), (by refine pV ?_; exact Kd.V_mono HO_115001.out (fun _ hk => ⟨hk.1.2.1, ⟨hk.2, ⟨hk.1.2.2.1, ⟨hk.1.1, ⟨hk.1.2.2.2.1, ⟨hk.1.2.2.2.2.1, hk.1.2.2.2.2.2⟩⟩⟩⟩⟩⟩)), (by refine pV ?_; exact Kd.V_mono HO_115004.out (fun _ hk => ⟨hk.1.2.1, ⟨hk.2, ⟨hk.1.2.2.1, ⟨hk.1.1, ⟨hk.1.2.2.2.1, ⟨hk.1.2.2.2.2.1, hk.1.2.2.2.2.2⟩⟩⟩⟩⟩⟩)), (pB BK101.out), (pB BK114.out), (pB BK121.out), (pE HB)⟩)
         ·skip
          refine Kd.R_lit_step (Kd.int .i64) _ 3 ?hg (N := 44) ?hd (xs := ([x32_1] : List Int)) (inner := [.int .i64 x32_1]) (ok := fun _ => True) (okp := fun _ => True) ?hr ?hp (fun _ hk => hk) trivial (Below.refl _ _) (Nat.le_refl _) (by simp) ?_; (case hd => rfl); (case hg => rfl); (case hr => first | (go_simp; done) | (go_simp; rfl)); (case hp => exact (Reps.one (show Kd.M (Kd.int .i64) _ _ _ x32_1 [.int .i64 x32_1] from rfl) (Reps.none _ _)))
          intro v130 w33 ho34 hb hg_ hnew_
          clear hg_ hnew_
          (first | rw [← Ny129.out] at ho34 | (simp only [Int.reduceToNat] at ho34; rw [← Ny129.out] at ho34))
          replace HO_115000 := Aside0.mk (Kd.V_elder' (pV HO_115000.out) (Kd.R_base ho34) hb)
          replace HO_115001 := Aside0.mk (Kd.V_elder' (pV HO_115001.out) (Kd.R_base ho34) hb)
          replace HO_115004 := Aside0.mk (Kd.V_elder' (pV HO_115004.out) (Kd.R_base ho34) hb)
          have HO131 := Aside0.mk (Kd.R_lower (Kd.R_new' (Kd.R_new' ho34 (Kd.R_lt (pR HO_10.out))) (Kd.R_lt (pR HO_122000.out))) (below_size (pE HB)))
          replace HO_10 := re HO_10 ho34 hb
          replace HO_122000 := re HO_122000 ho34 hb
          replace BK101 := bb BK101 hb
          replace BK114 := bb BK114 hb
          replace BK121 := bb BK121 hb
          replace HB := bs HB hb
          clear hb ho34
          refine hK.out _ _ ⟨(blk_cell BK121.out 0).trans rfl, (blk_cell BK114.out 0).trans rfl, (blk_cell BK114.out 1).trans rfl, (blk_cell BK114.out 2).trans rfl, (blk_cell BK114.out 3).trans rfl, (blk_cell BK114.out 4).trans rfl⟩ (fun hHeld => ?_)
          clear hK K
          refine norm_ (a' := ?_) ?_ ?_
          rotate_left
          ·show Act.put _ (some 44) _ = _
           simp only [Act.put, List.setIfInBounds_toArray, List.set_cons_zero, List.set_cons_succ, i64_w, i32_w]
           rfl
          refine on 5 (fun K hK => ?_)
          refine Kd.R_lit_step (Kd.int .i64) _ 3 ?hg (N := 40) ?hd (xs := ([t122] : List Int)) (inner := [.int .i64 t122]) (ok := fun _ => True) (okp := fun _ => True) ?hr ?hp (fun _ hk => hk) trivial (Below.refl _ _) (Nat.le_refl _) (by simp) ?_; (case hd => rfl); (case hg => rfl); (case hr => first | (go_simp; done) | (go_simp; rfl)); (case hp => exact (Reps.one (show Kd.M (Kd.int .i64) _ _ _ t122 [.int .i64 t122] from rfl) (Reps.none _ _)))
          intro v124 w35 ho36 hb hg_ hnew_
          clear hg_ hnew_
          (first | rw [← Ny123.out] at ho36 | (simp only [Int.reduceToNat] at ho36; rw [← Ny123.out] at ho36))
          replace HO_115000 := Aside0.mk (Kd.V_elder' (pV HO_115000.out) (Kd.R_base ho36) hb)
          replace HO_115001 := Aside0.mk (Kd.V_elder' (pV HO_115001.out) (Kd.R_base ho36) hb)
          replace HO_115004 := Aside0.mk (Kd.V_elder' (pV HO_115004.out) (Kd.R_base ho36) hb)
          have HO125 := Aside0.mk (Kd.R_lower (Kd.R_new' (Kd.R_new' (Kd.R_new' ho36 (Kd.R_lt (pR HO_10.out))) (Kd.R_lt (pR HO_122000.out))) (Kd.R_lt (pR HO131.out))) (below_size (pE HB)))
          replace HO_10 := re HO_10 ho36 hb
          replace HO_122000 := re HO_122000 ho36 hb
          replace HO131 := re HO131 ho36 hb
          replace BK101 := bb BK101 hb
          replace BK114 := bb BK114 hb
          replace BK121 := bb BK121 hb
          replace HB := bs HB hb
          clear hb ho36
          obtain ⟨Ao38, co38, eo38⟩ := Kd.R_slice HO125.out
          (first | subst eo38 | (injection eo38 with f1_ f2_ f3_; have f4_ := f1_.symm; have f5_ := f3_.symm; clear f1_ f2_ f3_; subst f4_; subst f5_))
          refine hK.out _ _ ⟨(blk_cell BK121.out 0).trans rfl, (blk_cell BK114.out 0).trans rfl, (blk_cell BK114.out 1).trans rfl, (blk_cell BK114.out 2).trans rfl, (blk_cell BK114.out 3).trans rfl, (blk_cell BK114.out 4).trans rfl⟩ (fun hHeld => ?_)
          clear hK K
          refine norm_ (a' := ?_) ?_ ?_
          rotate_left
          ·show Act.put _ (some 40) _ = _
           simp only [Act.put, List.setIfInBounds_toArray, List.set_cons_zero, List.set_cons_succ, i64_w, i32_w]
           rfl
          refine on 6 (fun K hK => ?_)
          refine Kd.R_append_rows_step (Kd.int .i64) (w0 := w) w.heap.size (by rfl) (.tmp 35) (.tmp 40) 23 3 (.int .i64 0) 8 rfl Tryz.underlying23 info3 rfl (by decide) (by omega) (.slice Ao29 x122000_1.length co29) x122000_1 y123 _ _ _ (fun k_ => some k_ ≠ (.slice Ao30 x10_1.length co30 : Value).ownBlock ∧ some k_ ≠ (v130 : Value).ownBlock ∧ some k_ ≠ (.slice Ao38 y123.length co38 : Value).ownBlock) (fun _ => False) rfl rfl ?aO ?aR (fun _ _ h => h) (fun _ h => h.elim) ?aF ?aB ?aS ?aL ?_
          (case aR => exact pC (Kd.R_reads' HO125.out).2.2)
          (case aB => exact (pE HB))
          (case aF => exact (fun k_ hk => ⟨Kd.fresh' (Kd.R_lt (pR HO_10.out)) k_ hk, Kd.fresh' (Kd.R_lt (pR HO131.out)) k_ hk, Kd.fresh' (Kd.R_lt (pR HO125.out)) k_ hk⟩))
          (case aO => exact (by refine pR ?_; exact Kd.R_mono HO_122000.out (fun _ hk => ⟨hk.1.1, ⟨hk.1.2, hk.2⟩⟩)))
          (case aS => exact (below_size (pE HB)))
          (case aL => have := LMc27.out; omega)
          intro v127 w37 ho hb hg hat
          rw [← Ny126.out] at ho
          replace HO_10 := Aside0.mk (Kd.R_after (ok := (fun k_ => some k_ ≠ (v130 : Value).ownBlock ∧ some k_ ≠ (.slice Ao38 y123.length co38 : Value).ownBlock)) (by refine pR ?_; exact Kd.R_mono HO_10.out (fun _ hk => ⟨⟨hk.1.2, hk.2⟩, hk.1.1⟩)) hg hat)
          replace HO_115000 := Aside0.mk (Kd.V_afterv (ok := (fun k_ => some k_ ≠ (.slice Ao30 x10_1.length co30 : Value).ownBlock ∧ some k_ ≠ (v130 : Value).ownBlock ∧ some k_ ≠ (.slice Ao38 y123.length co38 : Value).ownBlock ∧ k_ ≠ gb101 ∧ k_ ≠ gb114 ∧ k_ ≠ gb121)) (by refine pV ?_; exact Kd.V_mono HO_115000.out (fun _ hk => ⟨⟨hk.1.1.1, ⟨hk.1.2, ⟨hk.2, ⟨hk.1.1.2.2.1, ⟨hk.1.1.2.2.2.1, hk.1.1.2.2.2.2⟩⟩⟩⟩⟩, hk.1.1.2.1⟩)) hg hat)
          replace HO_115001 := Aside0.mk (Kd.V_afterv (ok := (fun k_ => some k_ ≠ (.slice Ao30 x10_1.length co30 : Value).ownBlock ∧ some k_ ≠ (v130 : Value).ownBlock ∧ some k_ ≠ (.slice Ao38 y123.length co38 : Value).ownBlock ∧ k_ ≠ gb101 ∧ k_ ≠ gb114 ∧ k_ ≠ gb121)) (by refine pV ?_; exact Kd.V_mono HO_115001.out (fun _ hk => ⟨⟨hk.1.1.1, ⟨hk.1.2, ⟨hk.2, ⟨hk.1.1.2.2.1, ⟨hk.1.1.2.2.2.1, hk.1.1.2.2.2.2⟩⟩⟩⟩⟩, hk.1.1.2.1⟩)) hg hat)
          replace HO_115004 := Aside0.mk (Kd.V_afterv (ok := (fun k_ => some k_ ≠ (.slice Ao30 x10_1.length co30 : Value).ownBlock ∧ some k_ ≠ (v130 : Value).ownBlock ∧ some k_ ≠ (.slice Ao38 y123.length co38 : Value).ownBlock ∧ k_ ≠ gb101 ∧ k_ ≠ gb114 ∧ k_ ≠ gb121)) (by refine pV ?_; exact Kd.V_mono HO_115004.out (fun _ hk => ⟨⟨hk.1.1.1, ⟨hk.1.2, ⟨hk.2, ⟨hk.1.1.2.2.1, ⟨hk.1.1.2.2.2.1, hk.1.1.2.2.2.2⟩⟩⟩⟩⟩, hk.1.1.2.1⟩)) hg hat)
          replace BK101 := Aside0.mk (blk_grown (g := gb101) (o := .cells #[.slice A0_0 l0_0.length c0_0, .slice A0_1 l0_1.length c0_1, .int .i64 a0_2, .int .i64 a0_3] 25 (0, 0)) (pB BK101.out) hg (Kd.R_ne HO_122000.out BK101.out (by decide)))
          replace BK114 := Aside0.mk (blk_grown (g := gb114) (o := .cells #[.slice Ao10 t102.length co10, .slice Ao13 t105.length co13, .int .i64 t108, .int .i64 t109, .slice Ao14 t110.length co14] 121 (0, 0)) (pB BK114.out) hg (Kd.R_ne HO_122000.out BK114.out (by decide)))
          replace BK121 := Aside0.mk (blk_grown (g := gb121) (o := .cells #[.slice Ao29 x122000_1.length co29] 23 (0, 0)) (pB BK121.out) hg (Kd.R_ne HO_122000.out BK121.out (by decide)))
          replace HO131 := Aside0.mk (Kd.R_after (ok := (fun k_ => some k_ ≠ (.slice Ao30 x10_1.length co30 : Value).ownBlock ∧ some k_ ≠ (.slice Ao38 y123.length co38 : Value).ownBlock)) (by refine pR ?_; exact Kd.R_mono HO131.out (fun _ hk => ⟨⟨hk.1.1.2, hk.2⟩, hk.1.2⟩)) hg hat)
          replace HO125 := Aside0.mk (Kd.R_after (ok := (fun k_ => some k_ ≠ (.slice Ao30 x10_1.length co30 : Value).ownBlock ∧ some k_ ≠ (v130 : Value).ownBlock)) (by refine pR ?_; exact Kd.R_mono HO125.out (fun _ hk => ⟨⟨hk.1.1.2, hk.2⟩, hk.1.2⟩)) hg hat)
          replace HB := Aside0.mk (hb)
          have HO128 := Aside0.mk (ho)
          clear HO_122000 ho hb hg hat
          refine hK.out _ _ ⟨(blk_cell BK121.out 0).trans rfl, (blk_cell BK114.out 0).trans rfl, (blk_cell BK114.out 1).trans rfl, (blk_cell BK114.out 2).trans rfl, (blk_cell BK114.out 3).trans rfl, (blk_cell BK114.out 4).trans rfl⟩ (fun hHeld => ?_)
          clear hK K
          refine norm_ (a' := ?_) ?_ ?_
          rotate_left
          ·show Act.put _ (some 41) _ = _
           simp only [Act.put, List.setIfInBounds_toArray, List.set_cons_zero, List.set_cons_succ, i64_w, i32_w]
           rfl
          exact norm_ (by simp only [putAll, Act.put, List.setIfInBounds_toArray, List.set_cons_zero, List.set_cons_succ]) (hCont (.slice Ao38 y123.length co38, v127, v130) _ ⟨hHeld, (by refine pR ?_; exact Kd.R_mono HO125.out (fun _ hk => ⟨hk.2, ⟨hk.1.2, hk.1.1⟩⟩)), (by refine pR ?_; exact Kd.R_mono HO128.out (fun _ hk => ⟨hk.2.2, ⟨hk.2.1, hk.1⟩⟩)), (by refine pR ?_; exact Kd.R_mono HO131.out (fun _ hk => ⟨hk.1.2, ⟨hk.2, hk.1.1⟩⟩)), (by refine pR ?_; exact Kd.R_mono HO_10.out (fun _ hk => ⟨hk.1.2, ⟨hk.2, hk.1.1⟩⟩)), (by refine pV ?_; exact Kd.V_mono HO_115000.out (fun _ hk => ⟨hk.1.2.2.1, ⟨hk.2, ⟨hk.1.2.1, ⟨hk.1.1, ⟨hk.1.2.2.2.1, ⟨hk.1.2.2.2.2.1, hk.1.2.2.2.2.2⟩⟩⟩⟩⟩⟩)), (by refine pV ?_; exact Kd.V_mono HO_115001.out (fun _ hk => ⟨hk.1.2.2.1, ⟨hk.2, ⟨hk.1.2.1, ⟨hk.1.1, ⟨hk.1.2.2.2.1, ⟨hk.1.2.2.2.2.1, hk.1.2.2.2.2.2⟩⟩⟩⟩⟩⟩)), (by refine pV ?_; exact Kd.V_mono HO_115004.out (fun _ hk => ⟨hk.1.2.2.1, ⟨hk.2, ⟨hk.1.2.1, ⟨hk.1.1, ⟨hk.1.2.2.2.1, ⟨hk.1.2.2.2.2.1, hk.1.2.2.2.2.2⟩⟩⟩⟩⟩⟩)), (pB BK101.out), (pB BK114.out), (pB BK121.out), (pE HB)⟩)
        ·skip
         refine Kd.R_lit_step (Kd.int .i64) _ 3 ?hg (N := 44) ?hd (xs := ([x32_1] : List Int)) (inner := [.int .i64 x32_1]) (ok := fun _ => True) (okp := fun _ => True) ?hr ?hp (fun _ hk => hk) trivial (Below.refl _ _) (Nat.le_refl _) (by simp) ?_; (case hd => rfl); (case hg => rfl); (case hr => first | (go_simp; done) | (go_simp; rfl)); (case hp => exact (Reps.one (show Kd.M (Kd.int .i64) _ _ _ x32_1 [.int .i64 x32_1] from rfl) (Reps.none _ _)))
         intro v130 w32 ho33 hb hg_ hnew_
         clear hg_ hnew_
         (first | rw [← Ny129.out] at ho33 | (simp only [Int.reduceToNat] at ho33; rw [← Ny129.out] at ho33))
         replace HO_115000 := Aside0.mk (Kd.V_elder' (pV HO_115000.out) (Kd.R_base ho33) hb)
         replace HO_115001 := Aside0.mk (Kd.V_elder' (pV HO_115001.out) (Kd.R_base ho33) hb)
         replace HO_115004 := Aside0.mk (Kd.V_elder' (pV HO_115004.out) (Kd.R_base ho33) hb)
         have HO131 := Aside0.mk (Kd.R_lower (Kd.R_new' (Kd.R_new' ho33 (Kd.R_lt (pR HO_10.out))) (Kd.R_lt (pR HO_122000.out))) (below_size (pE HB)))
         replace HO_10 := re HO_10 ho33 hb
         replace HO_122000 := re HO_122000 ho33 hb
         replace BK101 := bb BK101 hb
         replace BK114 := bb BK114 hb
         replace BK121 := bb BK121 hb
         replace HB := bs HB hb
         clear hb ho33
         refine hK.out _ _ ⟨(blk_cell BK121.out 0).trans rfl, (blk_cell BK114.out 0).trans rfl, (blk_cell BK114.out 1).trans rfl, (blk_cell BK114.out 2).trans rfl, (blk_cell BK114.out 3).trans rfl, (blk_cell BK114.out 4).trans rfl⟩ (fun hHeld => ?_)
         clear hK K
         refine norm_ (a' := ?_) ?_ ?_
         rotate_left
         ·show Act.put _ (some 44) _ = _
          simp only [Act.put, List.setIfInBounds_toArray, List.set_cons_zero, List.set_cons_succ, i64_w, i32_w]
          rfl
         refine on 4 (fun K hK => ?_)
         refine gO Tryz.func81 #[.agg #[.slice Ao10 t102.length co10, .slice Ao13 t105.length co13, .int .i64 t108, .int .i64 t109, .slice Ao14 t110.length co14], .int .i64 x32_1, .int .i64 a2] ?_
         with_reducible refine (tenter_forecast_late.calls k1 _ _ t102 _ _ t105 t108 t109 _ _ t110 x32_1 a2 t122 _ ?side1 ?side2 ?side3 ?side4 ?side5 ?side6 A26.out).mono ?_
         (case side1 => exact pC (Kd.V_reads' HO_115000.out).2.2)
         (case side2 => exact (Kd.V_reads' HO_115000.out).2.1)
         (case side3 => exact pC (Kd.V_reads' HO_115001.out).2.2)
         (case side4 => exact (Kd.V_reads' HO_115001.out).2.1)
         (case side5 => exact pC (Kd.V_reads' HO_115004.out).2.2)
         (case side6 => exact (Kd.V_reads' HO_115004.out).2.1)
         rintro e w34 ⟨rfl, hb⟩
         refine ⟨_, rfl, ?_⟩
         replace HO_10 := rb HO_10 hb
         replace HO_115000 := vb HO_115000 hb
         replace HO_115001 := vb HO_115001 hb
         replace HO_115004 := vb HO_115004 hb
         replace HO_122000 := rb HO_122000 hb
         replace HO131 := rb HO131 hb
         replace BK101 := bb BK101 hb
         replace BK114 := bb BK114 hb
         replace BK121 := bb BK121 hb
         replace HB := bs HB hb
         (try clear hb)
         (try clear hb2)
         (try clear hk)
         (try clear hi)
         refine hK.out _ _ ⟨(blk_cell BK121.out 0).trans rfl, (blk_cell BK114.out 0).trans rfl, (blk_cell BK114.out 1).trans rfl, (blk_cell BK114.out 2).trans rfl, (blk_cell BK114.out 3).trans rfl, (blk_cell BK114.out 4).trans rfl⟩ (fun hHeld => ?_)
         clear hK K
         refine norm_ (a' := ?_) ?_ ?_
         rotate_left
         ·show Act.put _ (some 39) _ = _
          simp only [Act.put, List.setIfInBounds_toArray, List.set_cons_zero, List.set_cons_succ, i64_w, i32_w]
          rfl
         refine on 5 (fun K hK => ?_)
         refine Kd.R_lit_step (Kd.int .i64) _ 3 ?hg (N := 40) ?hd (xs := ([t122] : List Int)) (inner := [.int .i64 t122]) (ok := fun _ => True) (okp := fun _ => True) ?hr ?hp (fun _ hk => hk) trivial (Below.refl _ _) (Nat.le_refl _) (by simp) ?_; (case hd => rfl); (case hg => rfl); (case hr => first | (go_simp; done) | (go_simp; rfl)); (case hp => exact (Reps.one (show Kd.M (Kd.int .i64) _ _ _ t122 [.int .i64 t122] from rfl) (Reps.none _ _)))
         intro v124 w35 ho36 hb hg_ hnew_
         clear hg_ hnew_
         (first | rw [← Ny123.out] at ho36 | (simp only [Int.reduceToNat] at ho36; rw [← Ny123.out] at ho36))
         replace HO_115000 := Aside0.mk (Kd.V_elder' (pV HO_115000.out) (Kd.R_base ho36) hb)
         replace HO_115001 := Aside0.mk (Kd.V_elder' (pV HO_115001.out) (Kd.R_base ho36) hb)
         replace HO_115004 := Aside0.mk (Kd.V_elder' (pV HO_115004.out) (Kd.R_base ho36) hb)
         have HO125 := Aside0.mk (Kd.R_lower (Kd.R_new' (Kd.R_new' (Kd.R_new' ho36 (Kd.R_lt (pR HO_10.out))) (Kd.R_lt (pR HO_122000.out))) (Kd.R_lt (pR HO131.out))) (below_size (pE HB)))
         replace HO_10 := re HO_10 ho36 hb
         replace HO_122000 := re HO_122000 ho36 hb
         replace HO131 := re HO131 ho36 hb
         replace BK101 := bb BK101 hb
         replace BK114 := bb BK114 hb
         replace BK121 := bb BK121 hb
         replace HB := bs HB hb
         clear hb ho36
         obtain ⟨Ao38, co38, eo38⟩ := Kd.R_slice HO125.out
         (first | subst eo38 | (injection eo38 with f1_ f2_ f3_; have f4_ := f1_.symm; have f5_ := f3_.symm; clear f1_ f2_ f3_; subst f4_; subst f5_))
         refine hK.out _ _ ⟨(blk_cell BK121.out 0).trans rfl, (blk_cell BK114.out 0).trans rfl, (blk_cell BK114.out 1).trans rfl, (blk_cell BK114.out 2).trans rfl, (blk_cell BK114.out 3).trans rfl, (blk_cell BK114.out 4).trans rfl⟩ (fun hHeld => ?_)
         clear hK K
         refine norm_ (a' := ?_) ?_ ?_
         rotate_left
         ·show Act.put _ (some 40) _ = _
          simp only [Act.put, List.setIfInBounds_toArray, List.set_cons_zero, List.set_cons_succ, i64_w, i32_w]
          rfl
         refine on 6 (fun K hK => ?_)
         refine Kd.R_append_rows_step (Kd.int .i64) (w0 := w) w.heap.size (by rfl) (.tmp 35) (.tmp 40) 23 3 (.int .i64 0) 8 rfl Tryz.underlying23 info3 rfl (by decide) (by omega) (.slice Ao29 x122000_1.length co29) x122000_1 y123 _ _ _ (fun k_ => some k_ ≠ (.slice Ao30 x10_1.length co30 : Value).ownBlock ∧ some k_ ≠ (v130 : Value).ownBlock ∧ some k_ ≠ (.slice Ao38 y123.length co38 : Value).ownBlock) (fun _ => False) rfl rfl ?aO ?aR (fun _ _ h => h) (fun _ h => h.elim) ?aF ?aB ?aS ?aL ?_
         (case aR => exact pC (Kd.R_reads' HO125.out).2.2)
         (case aB => exact (pE HB))
         (case aF => exact (fun k_ hk => ⟨Kd.fresh' (Kd.R_lt (pR HO_10.out)) k_ hk, Kd.fresh' (Kd.R_lt (pR HO131.out)) k_ hk, Kd.fresh' (Kd.R_lt (pR HO125.out)) k_ hk⟩))
         (case aO => exact (by refine pR ?_; exact Kd.R_mono HO_122000.out (fun _ hk => ⟨hk.1.1, ⟨hk.1.2, hk.2⟩⟩)))
         (case aS => exact (below_size (pE HB)))
         (case aL => have := LMc27.out; omega)
         intro v127 w37 ho hb hg hat
         rw [← Ny126.out] at ho
         replace HO_10 := Aside0.mk (Kd.R_after (ok := (fun k_ => some k_ ≠ (v130 : Value).ownBlock ∧ some k_ ≠ (.slice Ao38 y123.length co38 : Value).ownBlock)) (by refine pR ?_; exact Kd.R_mono HO_10.out (fun _ hk => ⟨⟨hk.1.2, hk.2⟩, hk.1.1⟩)) hg hat)
         replace HO_115000 := Aside0.mk (Kd.V_afterv (ok := (fun k_ => some k_ ≠ (.slice Ao30 x10_1.length co30 : Value).ownBlock ∧ some k_ ≠ (v130 : Value).ownBlock ∧ some k_ ≠ (.slice Ao38 y123.length co38 : Value).ownBlock ∧ k_ ≠ gb101 ∧ k_ ≠ gb114 ∧ k_ ≠ gb121)) (by refine pV ?_; exact Kd.V_mono HO_115000.out (fun _ hk => ⟨⟨hk.1.1.1, ⟨hk.1.2, ⟨hk.2, ⟨hk.1.1.2.2.1, ⟨hk.1.1.2.2.2.1, hk.1.1.2.2.2.2⟩⟩⟩⟩⟩, hk.1.1.2.1⟩)) hg hat)
         replace HO_115001 := Aside0.mk (Kd.V_afterv (ok := (fun k_ => some k_ ≠ (.slice Ao30 x10_1.length co30 : Value).ownBlock ∧ some k_ ≠ (v130 : Value).ownBlock ∧ some k_ ≠ (.slice Ao38 y123.length co38 : Value).ownBlock ∧ k_ ≠ gb101 ∧ k_ ≠ gb114 ∧ k_ ≠ gb121)) (by refine pV ?_; exact Kd.V_mono HO_115001.out (fun _ hk => ⟨⟨hk.1.1.1, ⟨hk.1.2, ⟨hk.2, ⟨hk.1.1.2.2.1, ⟨hk.1.1.2.2.2.1, hk.1.1.2.2.2.2⟩⟩⟩⟩⟩, hk.1.1.2.1⟩)) hg hat)
         replace HO_115004 := Aside0.mk (Kd.V_afterv (ok := (fun k_ => some k_ ≠ (.slice Ao30 x10_1.length co30 : Value).ownBlock ∧ some k_ ≠ (v130 : Value).ownBlock ∧ some k_ ≠ (.slice Ao38 y123.length co38 : Value).ownBlock ∧ k_ ≠ gb101 ∧ k_ ≠ gb114 ∧ k_ ≠ gb121)) (by refine pV ?_; exact Kd.V_mono HO_115004.out (fun _ hk => ⟨⟨hk.1.1.1, ⟨hk.1.2, ⟨hk.2, ⟨hk.1.1.2.2.1, ⟨hk.1.1.2.2.2.1, hk.1.1.2.2.2.2⟩⟩⟩⟩⟩, hk.1.1.2.1⟩)) hg hat)
         replace BK101 := Aside0.mk (blk_grown (g := gb101) (o := .cells #[.slice A0_0 l0_0.length c0_0, .slice A0_1 l0_1.length c0_1, .int .i64 a0_2, .int .i64 a0_3] 25 (0, 0)) (pB BK101.out) hg (Kd.R_ne HO_122000.out BK101.out (by decide)))
         replace BK114 := Aside0.mk (blk_grown (g := gb114) (o := .cells #[.slice Ao10 t102.length co10, .slice Ao13 t105.length co13, .int .i64 t108, .int .i64 t109, .slice Ao14 t110.length co14] 121 (0, 0)) (pB BK114.out) hg (Kd.R_ne HO_122000.out BK114.out (by decide)))
         replace BK121 := Aside0.mk (blk_grown (g := gb121) (o := .cells #[.slice Ao29 x122000_1.length co29] 23 (0, 0)) (pB BK121.out) hg (Kd.R_ne HO_122000.out BK121.out (by decide)))
         replace HO131 := Aside0.mk (Kd.R_after (ok := (fun k_ => some k_ ≠ (.slice Ao30 x10_1.length co30 : Value).ownBlock ∧ some k_ ≠ (.slice Ao38 y123.length co38 : Value).ownBlock)) (by refine pR ?_; exact Kd.R_mono HO131.out (fun _ hk => ⟨⟨hk.1.1.2, hk.2⟩, hk.1.2⟩)) hg hat)
         replace HO125 := Aside0.mk (Kd.R_after (ok := (fun k_ => some k_ ≠ (.slice Ao30 x10_1.length co30 : Value).ownBlock ∧ some k_ ≠ (v130 : Value).ownBlock)) (by refine pR ?_; exact Kd.R_mono HO125.out (fun _ hk => ⟨⟨hk.1.1.2, hk.2⟩, hk.1.2⟩)) hg hat)
         replace HB := Aside0.mk (hb)
         have HO128 := Aside0.mk (ho)
         clear HO_122000 ho hb hg hat
         refine hK.out _ _ ⟨(blk_cell BK121.out 0).trans rfl, (blk_cell BK114.out 0).trans rfl, (blk_cell BK114.out 1).trans rfl, (blk_cell BK114.out 2).trans rfl, (blk_cell BK114.out 3).trans rfl, (blk_cell BK114.out 4).trans rfl⟩ (fun hHeld => ?_)
         clear hK K
         refine norm_ (a' := ?_) ?_ ?_
         rotate_left
         ·show Act.put _ (some 41) _ = _
          simp only [Act.put, List.setIfInBounds_toArray, List.set_cons_zero, List.set_cons_succ, i64_w, i32_w]
          rfl
         exact norm_ (by simp only [putAll, Act.put, List.setIfInBounds_toArray, List.set_cons_zero, List.set_cons_succ]) (hCont (.slice Ao38 y123.length co38, v127, v130) _ ⟨hHeld, (by refine pR ?_; exact Kd.R_mono HO125.out (fun _ hk => ⟨hk.2, ⟨hk.1.2, hk.1.1⟩⟩)), (by refine pR ?_; exact Kd.R_mono HO128.out (fun _ hk => ⟨hk.2.2, ⟨hk.2.1, hk.1⟩⟩)), (by refine pR ?_; exact Kd.R_mono HO131.out (fun _ hk => ⟨hk.1.2, ⟨hk.2, hk.1.1⟩⟩)), (by refine pR ?_; exact Kd.R_mono HO_10.out (fun _ hk => ⟨hk.1.2, ⟨hk.2, hk.1.1⟩⟩)), (by refine pV ?_; exact Kd.V_mono HO_115000.out (fun _ hk => ⟨hk.1.2.2.1, ⟨hk.2, ⟨hk.1.2.1, ⟨hk.1.1, ⟨hk.1.2.2.2.1, ⟨hk.1.2.2.2.2.1, hk.1.2.2.2.2.2⟩⟩⟩⟩⟩⟩)), (by refine pV ?_; exact Kd.V_mono HO_115001.out (fun _ hk => ⟨hk.1.2.2.1, ⟨hk.2, ⟨hk.1.2.1, ⟨hk.1.1, ⟨hk.1.2.2.2.1, ⟨hk.1.2.2.2.2.1, hk.1.2.2.2.2.2⟩⟩⟩⟩⟩⟩)), (by refine pV ?_; exact Kd.V_mono HO_115004.out (fun _ hk => ⟨hk.1.2.2.1, ⟨hk.2, ⟨hk.1.2.1, ⟨hk.1.1, ⟨hk.1.2.2.2.1, ⟨hk.1.2.2.2.2.1, hk.1.2.2.2.2.2⟩⟩⟩⟩⟩⟩)), (pB BK101.out), (pB BK114.out), (pB BK121.out), (pE HB)⟩)
       rintro ⟨v124, v127, v130⟩ w39 ⟨hS_, h0_, h1_, h2_, h3_, h4_, h5_, h6_, h7_, h8_, h9_, h10_⟩
       have n0_ : Aside0 (Kd.R (Kd.int .i64) 3 w39 w.heap.size (fun k_ => some k_ ≠ (v127 : Value).ownBlock ∧ some k_ ≠ (v130 : Value).ownBlock ∧ some k_ ≠ (.slice Ao30 x10_1.length co30 : Value).ownBlock) v124 y123) := ⟨h0_⟩
       have n1_ : Aside0 (Kd.R (Kd.int .i64) 3 w39 w.heap.size (fun k_ => some k_ ≠ (v124 : Value).ownBlock ∧ some k_ ≠ (v130 : Value).ownBlock ∧ some k_ ≠ (.slice Ao30 x10_1.length co30 : Value).ownBlock) v127 y126) := ⟨h1_⟩
       have n2_ : Aside0 (Kd.R (Kd.int .i64) 3 w39 w.heap.size (fun k_ => some k_ ≠ (v124 : Value).ownBlock ∧ some k_ ≠ (v127 : Value).ownBlock ∧ some k_ ≠ (.slice Ao30 x10_1.length co30 : Value).ownBlock) v130 y129) := ⟨h2_⟩
       have n3_ : Aside0 (Kd.R (Kd.int .i64) 3 w39 w.heap.size (fun k_ => some k_ ≠ (v124 : Value).ownBlock ∧ some k_ ≠ (v127 : Value).ownBlock ∧ some k_ ≠ (v130 : Value).ownBlock) (.slice Ao30 x10_1.length co30) x10_1) := ⟨h3_⟩
       have n4_ : Aside0 (Kd.V k43 43 w39 w.heap.size (fun k_ => some k_ ≠ (v124 : Value).ownBlock ∧ some k_ ≠ (v127 : Value).ownBlock ∧ some k_ ≠ (v130 : Value).ownBlock ∧ some k_ ≠ (.slice Ao30 x10_1.length co30 : Value).ownBlock ∧ k_ ≠ gb101 ∧ k_ ≠ gb114 ∧ k_ ≠ gb121) (.slice Ao10 t102.length co10) t102) := ⟨h4_⟩
       have n5_ : Aside0 (Kd.V (Kd.int .i64) 3 w39 w.heap.size (fun k_ => some k_ ≠ (v124 : Value).ownBlock ∧ some k_ ≠ (v127 : Value).ownBlock ∧ some k_ ≠ (v130 : Value).ownBlock ∧ some k_ ≠ (.slice Ao30 x10_1.length co30 : Value).ownBlock ∧ k_ ≠ gb101 ∧ k_ ≠ gb114 ∧ k_ ≠ gb121) (.slice Ao13 t105.length co13) t105) := ⟨h5_⟩
       have n6_ : Aside0 (Kd.V k36 36 w39 w.heap.size (fun k_ => some k_ ≠ (v124 : Value).ownBlock ∧ some k_ ≠ (v127 : Value).ownBlock ∧ some k_ ≠ (v130 : Value).ownBlock ∧ some k_ ≠ (.slice Ao30 x10_1.length co30 : Value).ownBlock ∧ k_ ≠ gb101 ∧ k_ ≠ gb114 ∧ k_ ≠ gb121) (.slice Ao14 t110.length co14) t110) := ⟨h6_⟩
       have n7_ : Aside0 (w39.heap[gb101]? = some (.cells #[.slice A0_0 l0_0.length c0_0, .slice A0_1 l0_1.length c0_1, .int .i64 a0_2, .int .i64 a0_3] 25 (0, 0))) := ⟨h7_⟩
       have n8_ : Aside0 (w39.heap[gb114]? = some (.cells #[.slice Ao10 t102.length co10, .slice Ao13 t105.length co13, .int .i64 t108, .int .i64 t109, .slice Ao14 t110.length co14] 121 (0, 0))) := ⟨h8_⟩
       have n9_ : Aside0 (w39.heap[gb121]? = some (.cells #[.slice Ao29 x122000_1.length co29] 23 (0, 0))) := ⟨h9_⟩
       have n10_ : Aside0 (Below w.heap.size w w39) := ⟨h10_⟩
       clear HO_10 HO_115000 HO_115001 HO_115004 HO_122000 BK101 BK114 BK121 HB h0_ h1_ h2_ h3_ h4_ h5_ h6_ h7_ h8_ h9_ h10_
       have HO125 := n0_
       have HO128 := n1_
       have HO131 := n2_
       have HO_10 := n3_
       have HO_115000 := n4_
       have HO_115001 := n5_
       have HO_115004 := n6_
       have BK101 := n7_
       have BK114 := n8_
       have BK121 := n9_
       have HB := n10_
       clear n0_ n1_ n2_ n3_ n4_ n5_ n6_ n7_ n8_ n9_ n10_
       have hHeld : w39.cell? ⟨gb121, 0, none⟩ = some (.slice Ao29 x122000_1.length co29) ∧ w39.cell? ⟨gb114, 0, none⟩ = some (.slice Ao10 t102.length co10) ∧ w39.cell? ⟨gb114, 1, none⟩ = some (.slice Ao13 t105.length co13) ∧ w39.cell? ⟨gb114, 2, none⟩ = some (.int .i64 t108) ∧ w39.cell? ⟨gb114, 3, none⟩ = some (.int .i64 t109) ∧ w39.cell? ⟨gb114, 4, none⟩ = some (.slice Ao14 t110.length co14) := hS_
       obtain ⟨Ao41, co41, eo41⟩ := Kd.R_slice HO131.out
       (first | subst eo41 | (injection eo41 with f1_ f2_ f3_; have f4_ := f1_.symm; have f5_ := f3_.symm; clear f1_ f2_ f3_; subst f4_; subst f5_))
       refine norm_ (a' := ?_) ?_ ?_
       rotate_left
       ·simp only [putAll, Act.put, List.setIfInBounds_toArray, List.set_cons_zero, List.set_cons_succ]
        rfl
       refine on 10 (fun K hK => ?_)
       refine Kd.R_append_rows_step (Kd.int .i64) (w0 := w) w.heap.size (by rfl) (.tmp 42) (.tmp 44) 23 3 (.int .i64 0) 8 rfl Tryz.underlying23 info3 rfl (by decide) (by omega) (.slice Ao30 x10_1.length co30) x10_1 y129 _ _ _ (fun k_ => some k_ ≠ (v124 : Value).ownBlock ∧ some k_ ≠ (v127 : Value).ownBlock ∧ some k_ ≠ (.slice Ao41 y129.length co41 : Value).ownBlock) (fun _ => False) rfl rfl ?aO ?aR (fun _ _ h => h) (fun _ h => h.elim) ?aF ?aB ?aS ?aL ?_
       (case aR => exact pC (Kd.R_reads' HO131.out).2.2)
       (case aB => exact (pE HB))
       (case aF => exact (fun k_ hk => ⟨Kd.fresh' (Kd.R_lt (pR HO125.out)) k_ hk, Kd.fresh' (Kd.R_lt (pR HO128.out)) k_ hk, Kd.fresh' (Kd.R_lt (pR HO131.out)) k_ hk⟩))
       (case aO => exact (pR HO_10.out))
       (case aS => exact (below_size (pE HB)))
       (case aL => have := LMc28.out; omega)
       intro v133 w40 ho hb hg hat
       rw [← Ny132.out] at ho
       replace HO_115000 := Aside0.mk (Kd.V_afterv (ok := (fun k_ => some k_ ≠ (v124 : Value).ownBlock ∧ some k_ ≠ (v127 : Value).ownBlock ∧ some k_ ≠ (.slice Ao41 y129.length co41 : Value).ownBlock ∧ k_ ≠ gb101 ∧ k_ ≠ gb114 ∧ k_ ≠ gb121)) (by refine pV ?_; exact Kd.V_mono HO_115000.out (fun _ hk => ⟨⟨hk.1, ⟨hk.2.1, ⟨hk.2.2.1, ⟨hk.2.2.2.2.1, ⟨hk.2.2.2.2.2.1, hk.2.2.2.2.2.2⟩⟩⟩⟩⟩, hk.2.2.2.1⟩)) hg hat)
       replace HO_115001 := Aside0.mk (Kd.V_afterv (ok := (fun k_ => some k_ ≠ (v124 : Value).ownBlock ∧ some k_ ≠ (v127 : Value).ownBlock ∧ some k_ ≠ (.slice Ao41 y129.length co41 : Value).ownBlock ∧ k_ ≠ gb101 ∧ k_ ≠ gb114 ∧ k_ ≠ gb121)) (by refine pV ?_; exact Kd.V_mono HO_115001.out (fun _ hk => ⟨⟨hk.1, ⟨hk.2.1, ⟨hk.2.2.1, ⟨hk.2.2.2.2.1, ⟨hk.2.2.2.2.2.1, hk.2.2.2.2.2.2⟩⟩⟩⟩⟩, hk.2.2.2.1⟩)) hg hat)
       replace HO_115004 := Aside0.mk (Kd.V_afterv (ok := (fun k_ => some k_ ≠ (v124 : Value).ownBlock ∧ some k_ ≠ (v127 : Value).ownBlock ∧ some k_ ≠ (.slice Ao41 y129.length co41 : Value).ownBlock ∧ k_ ≠ gb101 ∧ k_ ≠ gb114 ∧ k_ ≠ gb121)) (by refine pV ?_; exact Kd.V_mono HO_115004.out (fun _ hk => ⟨⟨hk.1, ⟨hk.2.1, ⟨hk.2.2.1, ⟨hk.2.2.2.2.1, ⟨hk.2.2.2.2.2.1, hk.2.2.2.2.2.2⟩⟩⟩⟩⟩, hk.2.2.2.1⟩)) hg hat)
       replace BK101 := Aside0.mk (blk_grown (g := gb101) (o := .cells #[.slice A0_0 l0_0.length c0_0, .slice A0_1 l0_1.length c0_1, .int .i64 a0_2, .int .i64 a0_3] 25 (0, 0)) (pB BK101.out) hg (Kd.R_ne HO_10.out BK101.out (by decide)))
       replace BK114 := Aside0.mk (blk_grown (g := gb114) (o := .cells #[.slice Ao10 t102.length co10, .slice Ao13 t105.length co13, .int .i64 t108, .int .i64 t109, .slice Ao14 t110.length co14] 121 (0, 0)) (pB BK114.out) hg (Kd.R_ne HO_10.out BK114.out (by decide)))
       replace BK121 := Aside0.mk (blk_grown (g := gb121) (o := .cells #[.slice Ao29 x122000_1.length co29] 23 (0, 0)) (pB BK121.out) hg (Kd.R_ne HO_10.out BK121.out (by decide)))
       replace HO125 := Aside0.mk (Kd.R_after (ok := (fun k_ => some k_ ≠ (v127 : Value).ownBlock ∧ some k_ ≠ (.slice Ao41 y129.length co41 : Value).ownBlock)) (by refine pR ?_; exact Kd.R_mono HO125.out (fun _ hk => ⟨⟨hk.1, hk.2.1⟩, hk.2.2⟩)) hg hat)
       replace HO128 := Aside0.mk (Kd.R_after (ok := (fun k_ => some k_ ≠ (v124 : Value).ownBlock ∧ some k_ ≠ (.slice Ao41 y129.length co41 : Value).ownBlock)) (by refine pR ?_; exact Kd.R_mono HO128.out (fun _ hk => ⟨⟨hk.1, hk.2.1⟩, hk.2.2⟩)) hg hat)
       replace HO131 := Aside0.mk (Kd.R_after (ok := (fun k_ => some k_ ≠ (v124 : Value).ownBlock ∧ some k_ ≠ (v127 : Value).ownBlock)) (by refine pR ?_; exact Kd.R_mono HO131.out (fun _ hk => ⟨⟨hk.1, hk.2.1⟩, hk.2.2⟩)) hg hat)
       replace HB := Aside0.mk (hb)
       have HO134 := Aside0.mk (ho)
       clear HO_10 ho hb hg hat
       obtain ⟨Ao42, co42, eo42⟩ := Kd.R_slice HO128.out
       (first | subst eo42 | (injection eo42 with f1_ f2_ f3_; have f4_ := f1_.symm; have f5_ := f3_.symm; clear f1_ f2_ f3_; subst f4_; subst f5_))
       refine hK.out _ _ ⟨(blk_cell BK121.out 0).trans rfl, (blk_cell BK114.out 0).trans rfl, (blk_cell BK114.out 1).trans rfl, (blk_cell BK114.out 2).trans rfl, (blk_cell BK114.out 3).trans rfl, (blk_cell BK114.out 4).trans rfl⟩ (fun hHeld => ?_)
       clear hK K
       refine norm_ (a' := ?_) ?_ ?_
       rotate_left
       ·show Act.put _ (some 45) _ = _
        simp only [Act.put, List.setIfInBounds_toArray, List.set_cons_zero, List.set_cons_succ, i64_w, i32_w]
        rfl
       refine last_ (i := 11) (N := none) #[true, true, true, true, true, true, true, true, true, true, true, true, false] rfl rfl (one_of HT_.out (by kernel_rfl)) (by decide) (fun K hK => ?_)
       have hs43 : w40.cell? ⟨gb121, 0, none⟩ = some (.slice Ao29 x122000_1.length co29) := (blk_cell BK121.out 0).trans rfl
       have hfs43 := blk_frozen BK121.out 0
       have hns43_0 := NB101_121.out
       have hns43_1 := NB114_121.out
       have hms43_0 := NB121_101.out
       have hms43_1 := NB121_114.out
       refine skip_ (w1 := ?_) (by rfl) rfl ?_ ?_
       rotate_left
       ·go_simp
        rfl
       refine hK.out _ _ ?_
       clear hK K
       refine pu 12 10 ?_
       refine done_ (done_of HT_.out (by kernel_rfl)) ?_
       try go_wp2
       go_roundg k1
       case measure => have := HK1.out; omega
       case rel => exact ⟨(y132), (wrap64 (x32_1 + 1)), (y126), (.slice Ao42 y126.length co42), (by first | rfl | (simp; done) | (simp [*]; done)), H', ⟨by have := HK1.out; omega⟩, ⟨by (with_reducible repeat (first | apply Kd.R_alloc | apply Kd.R_drewN | apply Kd.R_drew)); exact Kd.R_mono (Kd.R_far (p := ⟨gb121, 0, none⟩) (Kd.R_types HO134.out BK121.out (by decide)) (fun _ hk => hk.2) (.slice Ao42 y126.length co42)) (fun _ hk => hk.1.2.1)⟩, ⟨by (with_reducible repeat (first | apply Kd.V_alloc | apply Kd.V_drewN | apply Kd.V_drew)); exact Kd.V_mono (Kd.V_far (p := ⟨gb121, 0, none⟩) (Kd.V_mono HO_115000.out (fun k_ hk => (⟨hk, hk.1.2.2.2.2.2⟩ : _ ∧ k_ ≠ gb121))) (fun _ hk => hk.2) (.slice Ao42 y126.length co42)) (fun _ hk => ⟨hk.1.2, ⟨hk.1.1.2.1, ⟨hk.1.1.2.2.2.1, ⟨hk.1.1.2.2.2.2.1, hk.1.1.2.2.2.2.2⟩⟩⟩⟩)⟩, ⟨by (with_reducible repeat (first | apply Kd.V_alloc | apply Kd.V_drewN | apply Kd.V_drew)); exact Kd.V_mono (Kd.V_far (p := ⟨gb121, 0, none⟩) (Kd.V_mono HO_115001.out (fun k_ hk => (⟨hk, hk.1.2.2.2.2.2⟩ : _ ∧ k_ ≠ gb121))) (fun _ hk => hk.2) (.slice Ao42 y126.length co42)) (fun _ hk => ⟨hk.1.2, ⟨hk.1.1.2.1, ⟨hk.1.1.2.2.2.1, ⟨hk.1.1.2.2.2.2.1, hk.1.1.2.2.2.2.2⟩⟩⟩⟩)⟩, ⟨by (with_reducible repeat (first | apply Kd.V_alloc | apply Kd.V_drewN | apply Kd.V_drew)); exact Kd.V_mono (Kd.V_far (p := ⟨gb121, 0, none⟩) (Kd.V_mono HO_115004.out (fun k_ hk => (⟨hk, hk.1.2.2.2.2.2⟩ : _ ∧ k_ ≠ gb121))) (fun _ hk => hk.2) (.slice Ao42 y126.length co42)) (fun _ hk => ⟨hk.1.2, ⟨hk.1.1.2.1, ⟨hk.1.1.2.2.2.1, ⟨hk.1.1.2.2.2.2.1, hk.1.1.2.2.2.2.2⟩⟩⟩⟩)⟩, ⟨by (with_reducible repeat (first | apply Kd.R_alloc | apply Kd.R_drewN | apply Kd.R_drew)); exact Kd.R_mono (Kd.R_far (p := ⟨gb121, 0, none⟩) (Kd.R_types HO128.out BK121.out (by decide)) (fun _ hk => hk.2) (.slice Ao42 y126.length co42)) (fun _ hk => hk.1.2)⟩, ⟨by refine pB ?_; refine blk_far ?_ NB101_121.out _; (with_reducible repeat (first | refine blk_drewN ?_ _ | refine blk_drew ?_ | refine blk_alloc ?_ _)); exact BK101.out⟩, ⟨by refine pB ?_; refine blk_far ?_ NB114_121.out _; (with_reducible repeat (first | refine blk_drewN ?_ _ | refine blk_drew ?_ | refine blk_alloc ?_ _)); exact BK114.out⟩, ⟨by refine pB ?_; refine blk_put (cs := #[.slice Ao29 x122000_1.length co29]) ?_ 0 _ rfl; (with_reducible repeat (first | refine blk_drewN ?_ _ | refine blk_drew ?_ | refine blk_alloc ?_ _)); exact BK121.out⟩, ⟨pE HB⟩⟩
      ·rw [if_neg c28] at H
       exact absurd H (by simp)
     ·rw [if_neg c27] at H
      exact absurd H (by simp)
    ·rw [if_neg c25] at H
     have c25b0 : decide (x32_1 < (l0_0.length : Int)) = false := decide_eq_false c25
     clear c25
     obtain ⟨t135, A44, H⟩ := bi H
     by_cases c45 : t135 = true
     ·subst c45
      rw [if_pos rfl] at H
      have H' := Aside0.mk H
      clear H
      obtain ⟨Ao46, co46, eo46⟩ := Kd.R_slice HO_10.out
      subst eo46
      obtain ⟨AoZ1, coZ1, eoZ1⟩ := Kd.R_slice HO_122000.out
      have HOZ1 := HO_122000.out
      rw [eoZ1] at HOZ1
      have EZ1 := Aside0.mk eoZ1
      clear eoZ1
      go_wp2_with (first | (go_at_call 82; (with_reducible refine (tenter_Order_1.calls k1 0 _ _ x10_1 gb121 AoZ1 coZ1 x122000_1 true _ ?side1 ?side2 ?side3 ?side4 ?side5 A44.out).mono ?_); (case side1 => exact pC (Kd.R_reads' HO_10.out).2.2); (case side2 => exact (Kd.R_reads' HO_10.out).2.1); (case side3 => exact by (with_reducible repeat (first | refine blk_drewN ?_ _ | refine blk_drew ?_ | refine blk_alloc ?_ _)); rw [← EZ1.out]; exact BK121.out); (case side4 => exact pC (Kd.R_reads' HOZ1).2.2); (case side5 => exact (Kd.R_reads' HOZ1).2.1); rintro e w47 ⟨rfl, hb⟩; replace HO_10 := rb HO_10 hb; replace HO_115000 := vb HO_115000 hb; replace HO_115001 := vb HO_115001 hb; replace HO_115004 := vb HO_115004 hb; replace HO_122000 := rb HO_122000 hb; replace BK101 := bb BK101 hb; replace BK114 := bb BK114 hb; replace BK121 := bb BK121 hb; replace HB := bs HB hb; (try clear hb); (try clear hb2); (try clear hk); (try clear hi); have hnb48 := NB101_114.out; have hnc48 := NB114_101.out; have hnb49 := NB101_121.out; have hnc49 := NB121_101.out; obtain ⟨hcz50_0, hcz50_1, hcz50_2, hcz50_3, hfz50_0, hfz50_1, hfz50_2, hfz50_3⟩ := cf4 BK101))
      go_loopg [6, 10, 55] k1 (fun kq v6 v10 v55 w' => ∃ (x6_2 : List Int) (x10_2 : List Int) (x55_2 : Int), v55 = .int .i64 x55_2 ∧ Aside0 (tenter_Order.l1 kq x6_2 x10_2 (l0_0.length : Int) x55_2 x122000_1 = some (r1, r2)) ∧ Aside0 (kq ≤ k1) ∧ Aside0 (Kd.R (Kd.int .i64) 3 w' w.heap.size (fun k_ => some k_ ≠ (v10 : Value).ownBlock ∧ some k_ ≠ (u122000 : Value).ownBlock) v6 x6_2) ∧ Aside0 (Kd.R (Kd.int .i64) 3 w' w.heap.size (fun k_ => some k_ ≠ (v6 : Value).ownBlock ∧ some k_ ≠ (u122000 : Value).ownBlock) v10 x10_2) ∧ Aside0 (Kd.V k43 43 w' w.heap.size (fun k_ => some k_ ≠ (v6 : Value).ownBlock ∧ some k_ ≠ (v10 : Value).ownBlock ∧ some k_ ≠ (u122000 : Value).ownBlock ∧ k_ ≠ gb101 ∧ k_ ≠ gb114 ∧ k_ ≠ gb121) (.slice Ao10 t102.length co10) t102) ∧ Aside0 (Kd.V (Kd.int .i64) 3 w' w.heap.size (fun k_ => some k_ ≠ (v6 : Value).ownBlock ∧ some k_ ≠ (v10 : Value).ownBlock ∧ some k_ ≠ (u122000 : Value).ownBlock ∧ k_ ≠ gb101 ∧ k_ ≠ gb114 ∧ k_ ≠ gb121) (.slice Ao13 t105.length co13) t105) ∧ Aside0 (Kd.V k36 36 w' w.heap.size (fun k_ => some k_ ≠ (v6 : Value).ownBlock ∧ some k_ ≠ (v10 : Value).ownBlock ∧ some k_ ≠ (u122000 : Value).ownBlock ∧ k_ ≠ gb101 ∧ k_ ≠ gb114 ∧ k_ ≠ gb121) (.slice Ao14 t110.length co14) t110) ∧ Aside0 (Kd.R (Kd.int .i64) 3 w' w.heap.size (fun k_ => some k_ ≠ (v6 : Value).ownBlock ∧ some k_ ≠ (v10 : Value).ownBlock) u122000 x122000_1) ∧ Aside0 (w'.heap[gb101]? = some (.cells #[(.slice A0_0 l0_0.length c0_0), (.slice A0_1 l0_1.length c0_1), .int .i64 a0_2, .int .i64 a0_3] 25 (0, 0))) ∧ Aside0 (w'.heap[gb114]? = some (.cells #[(.slice Ao10 t102.length co10), (.slice Ao13 t105.length co13), .int .i64 t108, .int .i64 t109, (.slice Ao14 t110.length co14)] 121 (0, 0))) ∧ Aside0 (w'.heap[gb121]? = some (.cells #[u122000] 23 (0, 0))) ∧ Aside0 (Below w.heap.size w w'))
      case atStart => exact ⟨(([] : List Int)), (x10_1), (0), (by first | rfl | (simp; done) | (simp [*]; done)), H', ⟨Nat.le_refl _⟩, ⟨by first | exact Kd.R_nil _ _ _ _ _ | exact Kd.N_nil _ _ _ _ _ | exact Kd.V_nil _ _ _ _ _ | exact Kd.Q_nil _ _ _ _ _ | exact Kd.S_nil _ _ _ _ _⟩, ⟨by (with_reducible repeat (first | apply Kd.R_alloc | apply Kd.R_drewN | apply Kd.R_drew)); exact Kd.R_mono HO_10.out (fun _ hk => ⟨(by simp [Value.ownBlock]), hk⟩)⟩, ⟨by (with_reducible repeat (first | apply Kd.V_alloc | apply Kd.V_drewN | apply Kd.V_drew)); exact Kd.V_mono HO_115000.out (fun _ hk => ⟨(by simp [Value.ownBlock]), ⟨hk.1, ⟨hk.2.1, ⟨hk.2.2.1, ⟨hk.2.2.2.1, hk.2.2.2.2⟩⟩⟩⟩⟩)⟩, ⟨by (with_reducible repeat (first | apply Kd.V_alloc | apply Kd.V_drewN | apply Kd.V_drew)); exact Kd.V_mono HO_115001.out (fun _ hk => ⟨(by simp [Value.ownBlock]), ⟨hk.1, ⟨hk.2.1, ⟨hk.2.2.1, ⟨hk.2.2.2.1, hk.2.2.2.2⟩⟩⟩⟩⟩)⟩, ⟨by (with_reducible repeat (first | apply Kd.V_alloc | apply Kd.V_drewN | apply Kd.V_drew)); exact Kd.V_mono HO_115004.out (fun _ hk => ⟨(by simp [Value.ownBlock]), ⟨hk.1, ⟨hk.2.1, ⟨hk.2.2.1, ⟨hk.2.2.2.1, hk.2.2.2.2⟩⟩⟩⟩⟩)⟩, ⟨by (with_reducible repeat (first | apply Kd.R_alloc | apply Kd.R_drewN | apply Kd.R_drew)); exact Kd.R_mono HO_122000.out (fun _ hk => ⟨(by simp [Value.ownBlock]), hk⟩)⟩, ⟨by (with_reducible repeat (first | refine blk_drewN ?_ _ | refine blk_drew ?_ | refine blk_alloc ?_ _)); exact BK101.out⟩, ⟨by (with_reducible repeat (first | refine blk_drewN ?_ _ | refine blk_drew ?_ | refine blk_alloc ?_ _)); exact BK114.out⟩, ⟨by (with_reducible repeat (first | refine blk_drewN ?_ _ | refine blk_drew ?_ | refine blk_alloc ?_ _)); exact BK121.out⟩, ⟨pE HB⟩⟩
      case round =>
       clear H'
       try clear c2
       try clear p2
       try clear c4
       try clear p6
       try clear c8
       try clear c25
       try clear c25b0
       try clear c27
       try clear c28
       try clear c45
       try clear c48
       try clear c49
       try clear hcz50_0
       try clear hcz50_1
       try clear hcz50_2
       try clear hcz50_3
       try clear hfz50_0
       try clear hfz50_1
       try clear hfz50_2
       try clear hfz50_3
       obtain ⟨x6_2, x10_2, x55_2, rfl, HA, HK2, HO_6, HO_10, HO_115000, HO_115001, HO_115004, HO_122000, BK101, BK114, BK121, HB⟩ := hrel
       cases gk with
       | zero => exact absurd HA.out (by simp [tenter_Order.l1])
       | succ k2 =>
        have H := HA.out
        clear HA
        simp only [tenter_Order.l1] at H
        by_cases c51 : x55_2 < (l0_0.length : Int)
        ·rw [if_pos c51] at H
         have c51b0 : decide (x55_2 < (l0_0.length : Int)) = true := decide_eq_true c51
         clear c51
         have H' := Aside0.mk H
         clear H
         obtain ⟨Ao52, co52, eo52⟩ := Kd.R_slice HO_10.out
         subst eo52
         go_wp2
         go_loopg [6, 10, 60] k2 (fun kq v6 v10 v60 w' => ∃ (x6_3 : List Int) (x10_3 : List Int) (x60_3 : Int), v60 = .int .i64 x60_3 ∧ Aside0 (tenter_Order.l2 kq x6_3 x10_3 x55_2 (l0_0.length : Int) x55_2 x10_2 (x10_2.length : Int) x60_3 x122000_1 = some (r1, r2)) ∧ Aside0 (kq ≤ k2) ∧ Aside0 (Kd.R (Kd.int .i64) 3 w' w.heap.size (fun k_ => some k_ ≠ (v10 : Value).ownBlock ∧ some k_ ≠ ((.slice Ao52 x10_2.length co52) : Value).ownBlock ∧ some k_ ≠ (u122000 : Value).ownBlock) v6 x6_3) ∧ Aside0 (Kd.R (Kd.int .i64) 3 w' w.heap.size (fun k_ => some k_ ≠ (v6 : Value).ownBlock ∧ some k_ ≠ (u122000 : Value).ownBlock) v10 x10_3) ∧ Aside0 (Kd.R (Kd.int .i64) 3 w' w.heap.size (fun k_ => some k_ ≠ (v6 : Value).ownBlock ∧ some k_ ≠ (u122000 : Value).ownBlock) (.slice Ao52 x10_2.length co52) x10_2) ∧ Aside0 (Kd.V k43 43 w' w.heap.size (fun k_ => some k_ ≠ (v6 : Value).ownBlock ∧ some k_ ≠ (v10 : Value).ownBlock ∧ some k_ ≠ ((.slice Ao52 x10_2.length co52) : Value).ownBlock ∧ some k_ ≠ (u122000 : Value).ownBlock ∧ k_ ≠ gb101 ∧ k_ ≠ gb114 ∧ k_ ≠ gb121) (.slice Ao10 t102.length co10) t102) ∧ Aside0 (Kd.V (Kd.int .i64) 3 w' w.heap.size (fun k_ => some k_ ≠ (v6 : Value).ownBlock ∧ some k_ ≠ (v10 : Value).ownBlock ∧ some k_ ≠ ((.slice Ao52 x10_2.length co52) : Value).ownBlock ∧ some k_ ≠ (u122000 : Value).ownBlock ∧ k_ ≠ gb101 ∧ k_ ≠ gb114 ∧ k_ ≠ gb121) (.slice Ao13 t105.length co13) t105) ∧ Aside0 (Kd.V k36 36 w' w.heap.size (fun k_ => some k_ ≠ (v6 : Value).ownBlock ∧ some k_ ≠ (v10 : Value).ownBlock ∧ some k_ ≠ ((.slice Ao52 x10_2.length co52) : Value).ownBlock ∧ some k_ ≠ (u122000 : Value).ownBlock ∧ k_ ≠ gb101 ∧ k_ ≠ gb114 ∧ k_ ≠ gb121) (.slice Ao14 t110.length co14) t110) ∧ Aside0 (Kd.R (Kd.int .i64) 3 w' w.heap.size (fun k_ => some k_ ≠ (v6 : Value).ownBlock ∧ some k_ ≠ (v10 : Value).ownBlock ∧ some k_ ≠ ((.slice Ao52 x10_2.length co52) : Value).ownBlock) u122000 x122000_1) ∧ Aside0 (w'.heap[gb101]? = some (.cells #[(.slice A0_0 l0_0.length c0_0), (.slice A0_1 l0_1.length c0_1), .int .i64 a0_2, .int .i64 a0_3] 25 (0, 0))) ∧ Aside0 (w'.heap[gb114]? = some (.cells #[(.slice Ao10 t102.length co10), (.slice Ao13 t105.length co13), .int .i64 t108, .int .i64 t109, (.slice Ao14 t110.length co14)] 121 (0, 0))) ∧ Aside0 (w'.heap[gb121]? = some (.cells #[u122000] 23 (0, 0))) ∧ Aside0 (Below w.heap.size w w'))
         case atStart => exact ⟨(x6_2), (x10_2), (0), (by first | rfl | (simp; done) | (simp [*]; done)), H', ⟨Nat.le_refl _⟩, ⟨by (with_reducible repeat (first | apply Kd.R_alloc | apply Kd.R_drewN | apply Kd.R_drew)); exact Kd.R_mono HO_6.out (fun _ hk => ⟨hk.1, ⟨hk.1, hk.2⟩⟩)⟩, ⟨by (with_reducible repeat (first | apply Kd.R_alloc | apply Kd.R_drewN | apply Kd.R_drew)); exact HO_10.out⟩, ⟨by (with_reducible repeat (first | apply Kd.R_alloc | apply Kd.R_drewN | apply Kd.R_drew)); exact HO_10.out⟩, ⟨by (with_reducible repeat (first | apply Kd.V_alloc | apply Kd.V_drewN | apply Kd.V_drew)); exact Kd.V_mono HO_115000.out (fun _ hk => ⟨hk.1, ⟨hk.2.1, ⟨hk.2.1, ⟨hk.2.2.1, ⟨hk.2.2.2.1, ⟨hk.2.2.2.2.1, hk.2.2.2.2.2⟩⟩⟩⟩⟩⟩)⟩, ⟨by (with_reducible repeat (first | apply Kd.V_alloc | apply Kd.V_drewN | apply Kd.V_drew)); exact Kd.V_mono HO_115001.out (fun _ hk => ⟨hk.1, ⟨hk.2.1, ⟨hk.2.1, ⟨hk.2.2.1, ⟨hk.2.2.2.1, ⟨hk.2.2.2.2.1, hk.2.2.2.2.2⟩⟩⟩⟩⟩⟩)⟩, ⟨by (with_reducible repeat (first | apply Kd.V_alloc | apply Kd.V_drewN | apply Kd.V_drew)); exact Kd.V_mono HO_115004.out (fun _ hk => ⟨hk.1, ⟨hk.2.1, ⟨hk.2.1, ⟨hk.2.2.1, ⟨hk.2.2.2.1, ⟨hk.2.2.2.2.1, hk.2.2.2.2.2⟩⟩⟩⟩⟩⟩)⟩, ⟨by (with_reducible repeat (first | apply Kd.R_alloc | apply Kd.R_drewN | apply Kd.R_drew)); exact Kd.R_mono HO_122000.out (fun _ hk => ⟨hk.1, ⟨hk.2, hk.2⟩⟩)⟩, ⟨by (with_reducible repeat (first | refine blk_drewN ?_ _ | refine blk_drew ?_ | refine blk_alloc ?_ _)); exact BK101.out⟩, ⟨by (with_reducible repeat (first | refine blk_drewN ?_ _ | refine blk_drew ?_ | refine blk_alloc ?_ _)); exact BK114.out⟩, ⟨by (with_reducible repeat (first | refine blk_drewN ?_ _ | refine blk_drew ?_ | refine blk_alloc ?_ _)); exact BK121.out⟩, ⟨pE HB⟩⟩
         case round =>
          clear H'
          try clear c2
          try clear p2
          try clear c4
          try clear c5
          try clear p6
          try clear c8
          try clear c25
          try clear c25b0
          try clear c27
          try clear c28
          try clear c45
          try clear c48
          try clear c49
          try clear c51
          try clear c51b0
          try clear hcz50_0
          try clear hcz50_1
          try clear hcz50_2
          try clear hcz50_3
          try clear hfz50_0
          try clear hfz50_1
          try clear hfz50_2
          try clear hfz50_3
          try clear p2
          try clear p6
          try clear HO_6
          try clear HO_10
          try clear HO_58
          try clear HO_115000
          try clear HO_115001
          try clear HO_115004
          try clear HO_122000
          try clear BK101
          try clear BK114
          try clear BK121
          try clear HB
          obtain ⟨x6_3, x10_3, x60_3, rfl, HA, HK3, HO_6, HO_10, HO_58, HO_115000, HO_115001, HO_115004, HO_122000, BK101, BK114, BK121, HB⟩ := hrel
          cases gk with
          | zero => exact absurd HA.out (by simp [tenter_Order.l2])
          | succ k3 =>
           have H := HA.out
           clear HA
           simp only [tenter_Order.l2] at H
           by_cases c53 : x60_3 < (x10_2.length : Int)
           ·rw [if_pos c53] at H
            have c53b0 : decide (x60_3 < (x10_2.length : Int)) = true := decide_eq_true c53
            clear c53
            by_cases c54 : 0 ≤ x60_3
            ·rw [if_pos c54] at H
             have c54b0 : decide (0 ≤ x60_3) = true := decide_eq_true c54
             clear c54
             by_cases c55 : x60_3 < (x10_2.length : Int)
             ·rw [if_pos c55] at H
              have c55b0 : decide (x60_3 < (x10_2.length : Int)) = true := decide_eq_true c55
              clear c55
              obtain ⟨t137, A56, H⟩ := bi H
              obtain ⟨t140, A57, H⟩ := bi H
              by_cases c58 : 0 ≤ (rd x10_2 x60_3)
              ·rw [if_pos c58] at H
               have c58b0 : decide (0 ≤ (rd x10_2 x60_3)) = true := decide_eq_true c58
               clear c58
               by_cases c59 : (rd x10_2 x60_3) < (x122000_1.length : Int)
               ·rw [if_pos c59] at H
                have c59b0 : decide ((rd x10_2 x60_3) < (x122000_1.length : Int)) = true := decide_eq_true c59
                clear c59
                by_cases c60 : (rd x122000_1 (rd x10_2 x60_3)) ≥ x55_2
                ·rw [if_pos c60] at H
                 have c60b0 : decide (x55_2 ≤ (rd x122000_1 (rd x10_2 x60_3))) = true := decide_eq_true c60
                 clear c60
                 obtain ⟨t144, A61, H⟩ := bi H
                 by_cases c62 : t144 = true
                 ·subst c62
                  rw [if_pos rfl] at H
                  obtain ⟨y145, hy145⟩ : ∃ y_ : List Int, y_ = (([rd x10_2 x60_3] : List Int)) := ⟨_, rfl⟩
                  replace H : (if x6_3.length + y145.length < 17592186044416 then (tenter_Order.l1 k3 (x6_3 ++ y145) t140 (l0_0.length : Int) (wrap64 (x55_2 + 1)) x122000_1) else (none)) = some (r1, r2) := yy hy145 H
                  have Ny145 := Aside0.mk hy145
                  clear hy145
                  by_cases c63 : x6_3.length + y145.length < 17592186044416
                  ·rw [if_pos c63] at H
                   have LMc63 := Aside0.mk c63
                   clear c63
                   obtain ⟨y148, hy148⟩ : ∃ y_ : List Int, y_ = (x6_3 ++ y145) := ⟨_, rfl⟩
                   replace H : (tenter_Order.l1 k3 y148 t140 (l0_0.length : Int) (wrap64 (x55_2 + 1)) x122000_1) = some (r1, r2) := yy hy148 H
                   have Ny148 := Aside0.mk hy148
                   clear hy148
                   have H' := Aside0.mk H
                   clear H
                   have p136 : 0 ≤ (x60_3 : Int) := dT
                   have q136 : x60_3 < (x10_2.length : Int) := dT
                   obtain ⟨ad136, e136, hx136_0⟩ := Kd.at_int (Kd.R_reads' HO_58.out).2.2 x60_3 p136 q136
                   cases e136
                   replace p136 := eq_true p136
                   replace q136 := eq_true q136
                   obtain ⟨Ao64, co64, eo64⟩ := Kd.R_slice HO_10.out
                   subst eo64
                   go_wp2_with (first | ((with_reducible refine gc 83 rfl ?_); refine gL 66 Tryz.func83 #[.slice Ao64 x10_3.length co64] ?_; (with_reducible refine (slices_Clone_int_int.calls _ _ x10_3 t137 _ ?side1 ?side2 A56.out).mono ?_); (case side1 => exact pC (Kd.R_reads' HO_10.out).2.2); (case side2 => exact (Kd.R_reads' HO_10.out).2.1); rintro e w65 ⟨v138, rfl, ho0, hb⟩; refine ⟨_, rfl, ?_⟩; replace HO_115000 := Aside0.mk (Kd.V_elder' (pV HO_115000.out) (Kd.R_base ho0) hb); replace HO_115001 := Aside0.mk (Kd.V_elder' (pV HO_115001.out) (Kd.R_base ho0) hb); replace HO_115004 := Aside0.mk (Kd.V_elder' (pV HO_115004.out) (Kd.R_base ho0) hb); have HO139 := Aside0.mk (Kd.R_lower (Kd.R_new' (Kd.R_new' (Kd.R_new' (Kd.R_new' ho0 (Kd.R_lt (pR HO_6.out))) (Kd.R_lt (pR HO_10.out))) (Kd.R_lt (pR HO_58.out))) (Kd.R_lt (pR HO_122000.out))) (below_size (pE HB))); replace HO_6 := re HO_6 ho0 hb; replace HO_10 := re HO_10 ho0 hb; replace HO_58 := re HO_58 ho0 hb; replace HO_122000 := re HO_122000 ho0 hb; replace BK101 := bb BK101 hb; replace BK114 := bb BK114 hb; replace BK121 := bb BK121 hb; replace HB := bs HB hb; clear hb ho0; obtain ⟨Ao66, co66, eo66⟩ := Kd.R_slice HO139.out; subst eo66) | ((with_reducible refine gc 86 rfl ?_); refine gL 70 Tryz.func86 #[.slice Ao66 t137.length co66, .int .i64 x60_3, .int .i64 (wrap64 (x60_3 + 1))] ?_; (with_reducible refine (slices_Delete_int_int.calls (fun k_ => some k_ = (.slice Ao66 t137.length co66 : Value).ownBlock) (.slice Ao66 t137.length co66) t137 x60_3 (wrap64 (x60_3 + 1)) t140 w _ ?side1 ?side2 A57.out).mono ?_); (case side1 => repeat (first | (with_reducible first | exact HB.out | apply below_alloc | apply pw_below_drewN | apply below_drew1 | refine below_set ?_ GE101.out | refine below_set ?_ GE114.out | refine below_set ?_ GE121.out) | exact HB.out)); (case side2 => exact Kd.R_tight rfl HO139.out); rintro e w67 ⟨v141, rfl, ho0, hb, hkp⟩; refine ⟨_, rfl, ?_⟩; replace HO_115000 := Aside0.mk (Kd.V_mono (ok' := fun k_ => some k_ ≠ (u6 : Value).ownBlock ∧ some k_ ≠ (.slice Ao64 x10_3.length co64 : Value).ownBlock ∧ some k_ ≠ (.slice (some ad136) x10_2.length co52 : Value).ownBlock ∧ some k_ ≠ (u122000 : Value).ownBlock ∧ k_ ≠ gb101 ∧ k_ ≠ gb114 ∧ k_ ≠ gb121 ∧ some k_ ≠ (v141 : Value).ownBlock) (Kd.V_keptB (HO_115000.out) hkp (fun k_ hk_ hs_ => (hk_.2) hs_)) (fun k_ hk_ => ⟨hk_.1.1.1, hk_.1.1.2.1, hk_.1.1.2.2.1, hk_.1.1.2.2.2.1, hk_.1.1.2.2.2.2.1, hk_.1.1.2.2.2.2.2.1, hk_.1.1.2.2.2.2.2.2, fun e_ => Or.elim (ho0.1 k_ e_.symm) (fun hs_ => hk_.2.1 hs_) (fun hn_ => Nat.not_le.2 hk_.2.2 hn_)⟩)); replace HO_115001 := Aside0.mk (Kd.V_mono (ok' := fun k_ => some k_ ≠ (u6 : Value).ownBlock ∧ some k_ ≠ (.slice Ao64 x10_3.length co64 : Value).ownBlock ∧ some k_ ≠ (.slice (some ad136) x10_2.length co52 : Value).ownBlock ∧ some k_ ≠ (u122000 : Value).ownBlock ∧ k_ ≠ gb101 ∧ k_ ≠ gb114 ∧ k_ ≠ gb121 ∧ some k_ ≠ (v141 : Value).ownBlock) (Kd.V_keptB (HO_115001.out) hkp (fun k_ hk_ hs_ => (hk_.2) hs_)) (fun k_ hk_ => ⟨hk_.1.1.1, hk_.1.1.2.1, hk_.1.1.2.2.1, hk_.1.1.2.2.2.1, hk_.1.1.2.2.2.2.1, hk_.1.1.2.2.2.2.2.1, hk_.1.1.2.2.2.2.2.2, fun e_ => Or.elim (ho0.1 k_ e_.symm) (fun hs_ => hk_.2.1 hs_) (fun hn_ => Nat.not_le.2 hk_.2.2 hn_)⟩)); replace HO_115004 := Aside0.mk (Kd.V_mono (ok' := fun k_ => some k_ ≠ (u6 : Value).ownBlock ∧ some k_ ≠ (.slice Ao64 x10_3.length co64 : Value).ownBlock ∧ some k_ ≠ (.slice (some ad136) x10_2.length co52 : Value).ownBlock ∧ some k_ ≠ (u122000 : Value).ownBlock ∧ k_ ≠ gb101 ∧ k_ ≠ gb114 ∧ k_ ≠ gb121 ∧ some k_ ≠ (v141 : Value).ownBlock) (Kd.V_keptB (HO_115004.out) hkp (fun k_ hk_ hs_ => (hk_.2) hs_)) (fun k_ hk_ => ⟨hk_.1.1.1, hk_.1.1.2.1, hk_.1.1.2.2.1, hk_.1.1.2.2.2.1, hk_.1.1.2.2.2.2.1, hk_.1.1.2.2.2.2.2.1, hk_.1.1.2.2.2.2.2.2, fun e_ => Or.elim (ho0.1 k_ e_.symm) (fun hs_ => hk_.2.1 hs_) (fun hn_ => Nat.not_le.2 hk_.2.2 hn_)⟩)); replace BK101 := Aside0.mk (blk_kept (pB BK101.out) hkp (fun hs_ => (fun e_ => (Kd.R_ne HO139.out BK101.out (by decide)) e_) hs_)); replace BK114 := Aside0.mk (blk_kept (pB BK114.out) hkp (fun hs_ => (fun e_ => (Kd.R_ne HO139.out BK114.out (by decide)) e_) hs_)); replace BK121 := Aside0.mk (blk_kept (pB BK121.out) hkp (fun hs_ => (fun e_ => (Kd.R_ne HO139.out BK121.out (by decide)) e_) hs_)); have HO142 := Aside0.mk (Kd.R_mono (ok' := fun k_ => some k_ ≠ (u6 : Value).ownBlock ∧ some k_ ≠ (.slice Ao64 x10_3.length co64 : Value).ownBlock ∧ some k_ ≠ (.slice (some ad136) x10_2.length co52 : Value).ownBlock ∧ some k_ ≠ (u122000 : Value).ownBlock) ho0 (fun k_ hk_ => ⟨Or.elim hk_ (fun hs_ => fun e_ => (((HO_6.out).1 k_ e_.symm).2) hs_) (fun hn_ => (Kd.fresh' (Kd.R_lt (pR HO_6.out)) k_ hn_)), Or.elim hk_ (fun hs_ => fun e_ => (((HO_10.out).1 k_ e_.symm).2) hs_) (fun hn_ => (Kd.fresh' (Kd.R_lt (pR HO_10.out)) k_ hn_)), Or.elim hk_ (fun hs_ => fun e_ => (((HO_58.out).1 k_ e_.symm).2) hs_) (fun hn_ => (Kd.fresh' (Kd.R_lt (pR HO_58.out)) k_ hn_)), Or.elim hk_ (fun hs_ => fun e_ => (((HO_122000.out).1 k_ e_.symm).2) hs_) (fun hn_ => (Kd.fresh' (Kd.R_lt (pR HO_122000.out)) k_ hn_))⟩)); replace HO_6 := Aside0.mk (Kd.R_mono (ok' := fun k_ => some k_ ≠ (.slice Ao64 x10_3.length co64 : Value).ownBlock ∧ some k_ ≠ (.slice (some ad136) x10_2.length co52 : Value).ownBlock ∧ some k_ ≠ (u122000 : Value).ownBlock ∧ some k_ ≠ (v141 : Value).ownBlock) (Kd.R_keptB (HO_6.out) hkp (fun k_ hk_ hs_ => (hk_.2) hs_)) (fun k_ hk_ => ⟨hk_.1.1.1, hk_.1.1.2.1, hk_.1.1.2.2, fun e_ => Or.elim (ho0.1 k_ e_.symm) (fun hs_ => hk_.2.1 hs_) (fun hn_ => Nat.not_le.2 hk_.2.2 hn_)⟩)); replace HO_10 := Aside0.mk (Kd.R_mono (ok' := fun k_ => some k_ ≠ (u6 : Value).ownBlock ∧ some k_ ≠ (u122000 : Value).ownBlock ∧ some k_ ≠ (v141 : Value).ownBlock) (Kd.R_keptB (HO_10.out) hkp (fun k_ hk_ hs_ => (hk_.2) hs_)) (fun k_ hk_ => ⟨hk_.1.1.1, hk_.1.1.2, fun e_ => Or.elim (ho0.1 k_ e_.symm) (fun hs_ => hk_.2.1 hs_) (fun hn_ => Nat.not_le.2 hk_.2.2 hn_)⟩)); replace HO_58 := Aside0.mk (Kd.R_mono (ok' := fun k_ => some k_ ≠ (u6 : Value).ownBlock ∧ some k_ ≠ (u122000 : Value).ownBlock ∧ some k_ ≠ (v141 : Value).ownBlock) (Kd.R_keptB (HO_58.out) hkp (fun k_ hk_ hs_ => (hk_.2) hs_)) (fun k_ hk_ => ⟨hk_.1.1.1, hk_.1.1.2, fun e_ => Or.elim (ho0.1 k_ e_.symm) (fun hs_ => hk_.2.1 hs_) (fun hn_ => Nat.not_le.2 hk_.2.2 hn_)⟩)); replace HO_122000 := Aside0.mk (Kd.R_mono (ok' := fun k_ => some k_ ≠ (u6 : Value).ownBlock ∧ some k_ ≠ (.slice Ao64 x10_3.length co64 : Value).ownBlock ∧ some k_ ≠ (.slice (some ad136) x10_2.length co52 : Value).ownBlock ∧ some k_ ≠ (v141 : Value).ownBlock) (Kd.R_keptB (HO_122000.out) hkp (fun k_ hk_ hs_ => (hk_.2) hs_)) (fun k_ hk_ => ⟨hk_.1.1.1, hk_.1.1.2.1, hk_.1.1.2.2, fun e_ => Or.elim (ho0.1 k_ e_.symm) (fun hs_ => hk_.2.1 hs_) (fun hn_ => Nat.not_le.2 hk_.2.2 hn_)⟩)); replace HB := Aside0.mk (hb); clear HO139; clear hb hkp ho0; have hnb68 := NB121_101.out; have hnc68 := NB101_121.out; have hnb69 := NB121_114.out; have hnc69 := NB114_121.out; obtain ⟨_, _⟩ := cf1 BK121; obtain ⟨Ao71, co71, eo71⟩ := Kd.R_slice HO_122000.out; subst eo71; have p143 : 0 ≤ ((rd x10_2 x60_3) : Int) := dT; have q143 : (rd x10_2 x60_3) < (x122000_1.length : Int) := dT; obtain ⟨ad143, e143, hx143_0⟩ := Kd.at_int (Kd.R_reads' HO_122000.out).2.2 (rd x10_2 x60_3) p143 q143; cases e143; replace p143 := eq_true p143; replace q143 := eq_true q143; obtain ⟨Ao72, co72, eo72⟩ := Kd.R_slice HO142.out; subst eo72) | (go_at_call 82; (with_reducible refine (tenter_Order_1.calls k3 (wrap64 (x55_2 + 1)) _ _ t140 gb121 (some ad143) co71 x122000_1 true _ ?side1 ?side2 ?side3 ?side4 ?side5 A61.out).mono ?_); (case side1 => exact pC (Kd.R_reads' HO142.out).2.2); (case side2 => exact (Kd.R_reads' HO142.out).2.1); (case side3 => exact pB BK121.out); (case side4 => exact pC (Kd.R_reads' HO_122000.out).2.2); (case side5 => exact (Kd.R_reads' HO_122000.out).2.1); rintro e w73 ⟨rfl, hb⟩; replace HO_6 := rb HO_6 hb; replace HO_10 := rb HO_10 hb; replace HO_58 := rb HO_58 hb; replace HO_115000 := vb HO_115000 hb; replace HO_115001 := vb HO_115001 hb; replace HO_115004 := vb HO_115004 hb; replace HO_122000 := rb HO_122000 hb; replace HO142 := rb HO142 hb; replace BK101 := bb BK101 hb; replace BK114 := bb BK114 hb; replace BK121 := bb BK121 hb; replace HB := bs HB hb; (try clear hb); (try clear hb2); (try clear hk); (try clear hi)) | ((with_reducible refine gate_dst (N := 86) rfl ?_); refine Kd.R_lit (Kd.int .i64) _ 3 ?hg (N := 86) ?hd (xs := ([rd x10_2 x60_3] : List Int)) (inner := [.int .i64 (rd x10_2 x60_3)]) (ok := fun _ => True) (okp := fun _ => True) ?hr ?hp (fun _ hk => hk) trivial (Below.refl _ _) (Nat.le_refl _) (by simp) ?_; (case hd => rfl); (case hg => rfl); (case hr => first | (go_simp; done) | (go_simp; rfl)); (case hp => exact (Reps.one (show Kd.M (Kd.int .i64) _ _ _ (rd x10_2 x60_3) [.int .i64 (rd x10_2 x60_3)] from rfl) (Reps.none _ _))); intro v146 w74 ho75 hb hg_ hnew_; clear hg_ hnew_; (first | rw [← Ny145.out] at ho75 | (simp only [Int.reduceToNat] at ho75; rw [← Ny145.out] at ho75)); replace HO_115000 := Aside0.mk (Kd.V_elder' (pV HO_115000.out) (Kd.R_base ho75) hb); replace HO_115001 := Aside0.mk (Kd.V_elder' (pV HO_115001.out) (Kd.R_base ho75) hb); replace HO_115004 := Aside0.mk (Kd.V_elder' (pV HO_115004.out) (Kd.R_base ho75) hb); have HO147 := Aside0.mk (Kd.R_lower (Kd.R_new' (Kd.R_new' (Kd.R_new' (Kd.R_new' (Kd.R_new' ho75 (Kd.R_lt (pR HO_6.out))) (Kd.R_lt (pR HO_10.out))) (Kd.R_lt (pR HO_58.out))) (Kd.R_lt (pR HO_122000.out))) (Kd.R_lt (pR HO142.out))) (below_size (pE HB))); replace HO_6 := re HO_6 ho75 hb; replace HO_10 := re HO_10 ho75 hb; replace HO_58 := re HO_58 ho75 hb; replace HO_122000 := re HO_122000 ho75 hb; replace HO142 := re HO142 ho75 hb; replace BK101 := bb BK101 hb; replace BK114 := bb BK114 hb; replace BK121 := bb BK121 hb; replace HB := bs HB hb; clear hb ho75; obtain ⟨Ao77, co77, eo77⟩ := Kd.R_slice HO147.out; subst eo77) | ((with_reducible refine gate_builtin (b := .append) (xs := #[.tmp 84, .tmp 86]) rfl ?_); at_builtin; refine Kd.R_append_rows (Kd.int .i64) (w0 := w) w.heap.size rfl (.tmp 84) (.tmp 86) 23 3 (.int .i64 0) 8 rfl Tryz.underlying23 info3 rfl (by decide) (by omega) u6 x6_3 y145 _ _ _ (fun k_ => some k_ ≠ (.slice Ao64 x10_3.length co64 : Value).ownBlock ∧ some k_ ≠ (.slice (some ad136) x10_2.length co52 : Value).ownBlock ∧ some k_ ≠ (.slice (some ad143) x122000_1.length co71 : Value).ownBlock ∧ some k_ ≠ (.slice Ao72 t140.length co72 : Value).ownBlock ∧ some k_ ≠ (.slice Ao77 y145.length co77 : Value).ownBlock) (fun _ => False) rfl rfl ?aO ?aR (fun _ _ h => h) (fun _ h => h.elim) ?aF ?aB ?aS ?aL ?_; (case aR => exact pC (Kd.R_reads' HO147.out).2.2); (case aB => exact (pE HB)); (case aF => exact (fun k_ hk => ⟨Kd.fresh' (Kd.R_lt (pR HO_10.out)) k_ hk, Kd.fresh' (Kd.R_lt (pR HO_58.out)) k_ hk, Kd.fresh' (Kd.R_lt (pR HO_122000.out)) k_ hk, Kd.fresh' (Kd.R_lt (pR HO142.out)) k_ hk, Kd.fresh' (Kd.R_lt (pR HO147.out)) k_ hk⟩)); (case aO => exact (by refine pR ?_; exact Kd.R_mono HO_6.out (fun _ hk => ⟨hk.1.1, ⟨hk.1.2.1, ⟨hk.1.2.2.1, ⟨hk.1.2.2.2, hk.2⟩⟩⟩⟩))); (case aS => exact (below_size (pE HB))); (case aL => have := LMc63.out; omega); intro v149 w76 ho hb hg hat; rw [← Ny148.out] at ho; replace HO_10 := Aside0.mk (Kd.R_after (ok := (fun k_ => some k_ ≠ (.slice (some ad143) x122000_1.length co71 : Value).ownBlock ∧ some k_ ≠ (.slice Ao72 t140.length co72 : Value).ownBlock ∧ some k_ ≠ (.slice Ao77 y145.length co77 : Value).ownBlock)) (by refine pR ?_; exact Kd.R_mono HO_10.out (fun _ hk => ⟨⟨hk.1.2.1, ⟨hk.1.2.2, hk.2⟩⟩, hk.1.1⟩)) hg hat); replace HO_58 := Aside0.mk (Kd.R_after (ok := (fun k_ => some k_ ≠ (.slice (some ad143) x122000_1.length co71 : Value).ownBlock ∧ some k_ ≠ (.slice Ao72 t140.length co72 : Value).ownBlock ∧ some k_ ≠ (.slice Ao77 y145.length co77 : Value).ownBlock)) (by refine pR ?_; exact Kd.R_mono HO_58.out (fun _ hk => ⟨⟨hk.1.2.1, ⟨hk.1.2.2, hk.2⟩⟩, hk.1.1⟩)) hg hat); replace HO_115000 := Aside0.mk (Kd.V_afterv (ok := (fun k_ => some k_ ≠ (.slice Ao64 x10_3.length co64 : Value).ownBlock ∧ some k_ ≠ (.slice (some ad136) x10_2.length co52 : Value).ownBlock ∧ some k_ ≠ (.slice (some ad143) x122000_1.length co71 : Value).ownBlock ∧ some k_ ≠ (.slice Ao72 t140.length co72 : Value).ownBlock ∧ some k_ ≠ (.slice Ao77 y145.length co77 : Value).ownBlock ∧ k_ ≠ gb101 ∧ k_ ≠ gb114 ∧ k_ ≠ gb121)) (by refine pV ?_; exact Kd.V_mono HO_115000.out (fun _ hk => ⟨⟨hk.1.2.1, ⟨hk.1.2.2.1, ⟨hk.1.2.2.2.1, ⟨hk.1.2.2.2.2.2.2.2, ⟨hk.2, ⟨hk.1.2.2.2.2.1, ⟨hk.1.2.2.2.2.2.1, hk.1.2.2.2.2.2.2.1⟩⟩⟩⟩⟩⟩⟩, hk.1.1⟩)) hg hat); replace HO_115001 := Aside0.mk (Kd.V_afterv (ok := (fun k_ => some k_ ≠ (.slice Ao64 x10_3.length co64 : Value).ownBlock ∧ some k_ ≠ (.slice (some ad136) x10_2.length co52 : Value).ownBlock ∧ some k_ ≠ (.slice (some ad143) x122000_1.length co71 : Value).ownBlock ∧ some k_ ≠ (.slice Ao72 t140.length co72 : Value).ownBlock ∧ some k_ ≠ (.slice Ao77 y145.length co77 : Value).ownBlock ∧ k_ ≠ gb101 ∧ k_ ≠ gb114 ∧ k_ ≠ gb121)) (by refine pV ?_; exact Kd.V_mono HO_115001.out (fun _ hk => ⟨⟨hk.1.2.1, ⟨hk.1.2.2.1, ⟨hk.1.2.2.2.1, ⟨hk.1.2.2.2.2.2.2.2, ⟨hk.2, ⟨hk.1.2.2.2.2.1, ⟨hk.1.2.2.2.2.2.1, hk.1.2.2.2.2.2.2.1⟩⟩⟩⟩⟩⟩⟩, hk.1.1⟩)) hg hat); replace HO_115004 := Aside0.mk (Kd.V_afterv (ok := (fun k_ => some k_ ≠ (.slice Ao64 x10_3.length co64 : Value).ownBlock ∧ some k_ ≠ (.slice (some ad136) x10_2.length co52 : Value).ownBlock ∧ some k_ ≠ (.slice (some ad143) x122000_1.length co71 : Value).ownBlock ∧ some k_ ≠ (.slice Ao72 t140.length co72 : Value).ownBlock ∧ some k_ ≠ (.slice Ao77 y145.length co77 : Value).ownBlock ∧ k_ ≠ gb101 ∧ k_ ≠ gb114 ∧ k_ ≠ gb121)) (by refine pV ?_; exact Kd.V_mono HO_115004.out (fun _ hk => ⟨⟨hk.1.2.1, ⟨hk.1.2.2.1, ⟨hk.1.2.2.2.1, ⟨hk.1.2.2.2.2.2.2.2, ⟨hk.2, ⟨hk.1.2.2.2.2.1, ⟨hk.1.2.2.2.2.2.1, hk.1.2.2.2.2.2.2.1⟩⟩⟩⟩⟩⟩⟩, hk.1.1⟩)) hg hat); replace HO_122000 := Aside0.mk (Kd.R_after (ok := (fun k_ => some k_ ≠ (.slice Ao64 x10_3.length co64 : Value).ownBlock ∧ some k_ ≠ (.slice (some ad136) x10_2.length co52 : Value).ownBlock ∧ some k_ ≠ (.slice Ao72 t140.length co72 : Value).ownBlock ∧ some k_ ≠ (.slice Ao77 y145.length co77 : Value).ownBlock)) (by refine pR ?_; exact Kd.R_mono HO_122000.out (fun _ hk => ⟨⟨hk.1.2.1, ⟨hk.1.2.2.1, ⟨hk.1.2.2.2, hk.2⟩⟩⟩, hk.1.1⟩)) hg hat); replace BK101 := Aside0.mk (blk_grown (g := gb101) (o := .cells #[.slice A0_0 l0_0.length c0_0, .slice A0_1 l0_1.length c0_1, .int .i64 a0_2, .int .i64 a0_3] 25 (0, 0)) (pB BK101.out) hg (Kd.R_ne HO_6.out BK101.out (by decide))); replace BK114 := Aside0.mk (blk_grown (g := gb114) (o := .cells #[.slice Ao10 t102.length co10, .slice Ao13 t105.length co13, .int .i64 t108, .int .i64 t109, .slice Ao14 t110.length co14] 121 (0, 0)) (pB BK114.out) hg (Kd.R_ne HO_6.out BK114.out (by decide))); replace BK121 := Aside0.mk (blk_grown (g := gb121) (o := .cells #[.slice (some ad143) x122000_1.length co71] 23 (0, 0)) (pB BK121.out) hg (Kd.R_ne HO_6.out BK121.out (by decide))); replace HO142 := Aside0.mk (Kd.R_after (ok := (fun k_ => some k_ ≠ (.slice Ao64 x10_3.length co64 : Value).ownBlock ∧ some k_ ≠ (.slice (some ad136) x10_2.length co52 : Value).ownBlock ∧ some k_ ≠ (.slice (some ad143) x122000_1.length co71 : Value).ownBlock ∧ some k_ ≠ (.slice Ao77 y145.length co77 : Value).ownBlock)) (by refine pR ?_; exact Kd.R_mono HO142.out (fun _ hk => ⟨⟨hk.1.2.1, ⟨hk.1.2.2.1, ⟨hk.1.2.2.2, hk.2⟩⟩⟩, hk.1.1⟩)) hg hat); replace HO147 := Aside0.mk (Kd.R_after (ok := (fun k_ => some k_ ≠ (.slice Ao64 x10_3.length co64 : Value).ownBlock ∧ some k_ ≠ (.slice (some ad136) x10_2.length co52 : Value).ownBlock ∧ some k_ ≠ (.slice (some ad143) x122000_1.length co71 : Value).ownBlock ∧ some k_ ≠ (.slice Ao72 t140.length co72 : Value).ownBlock)) (by refine pR ?_; exact Kd.R_mono HO147.out (fun _ hk => ⟨⟨hk.1.1.1.2, ⟨hk.1.1.2, ⟨hk.1.2, hk.2⟩⟩⟩, hk.1.1.1.1.2⟩)) hg hat); replace HB := Aside0.mk (hb); have HO150 := Aside0.mk (ho); clear HO_6; clear ho hb hg hat))
                   go_roundg k3
                   case measure => have := HK1.out; have := HK2.out; have := HK3.out; omega
                   case rel => exact ⟨(y148), (t140), (wrap64 (x55_2 + 1)), (by first | rfl | (simp; done) | (simp [*]; done)), H', ⟨by have := HK1.out; have := HK2.out; have := HK3.out; omega⟩, ⟨by (with_reducible repeat (first | apply Kd.R_alloc | apply Kd.R_drewN | apply Kd.R_drew)); exact Kd.R_mono HO150.out (fun _ hk => ⟨hk.2.2.2.1, hk.2.2.1⟩)⟩, ⟨by (with_reducible repeat (first | apply Kd.R_alloc | apply Kd.R_drewN | apply Kd.R_drew)); exact Kd.R_mono HO142.out (fun _ hk => ⟨hk.2, hk.1.2.2.1⟩)⟩, ⟨by (with_reducible repeat (first | apply Kd.V_alloc | apply Kd.V_drewN | apply Kd.V_drew)); exact Kd.V_mono HO_115000.out (fun _ hk => ⟨hk.2, ⟨hk.1.2.2.2.1, ⟨hk.1.2.2.1, ⟨hk.1.2.2.2.2.2.1, ⟨hk.1.2.2.2.2.2.2.1, hk.1.2.2.2.2.2.2.2⟩⟩⟩⟩⟩)⟩, ⟨by (with_reducible repeat (first | apply Kd.V_alloc | apply Kd.V_drewN | apply Kd.V_drew)); exact Kd.V_mono HO_115001.out (fun _ hk => ⟨hk.2, ⟨hk.1.2.2.2.1, ⟨hk.1.2.2.1, ⟨hk.1.2.2.2.2.2.1, ⟨hk.1.2.2.2.2.2.2.1, hk.1.2.2.2.2.2.2.2⟩⟩⟩⟩⟩)⟩, ⟨by (with_reducible repeat (first | apply Kd.V_alloc | apply Kd.V_drewN | apply Kd.V_drew)); exact Kd.V_mono HO_115004.out (fun _ hk => ⟨hk.2, ⟨hk.1.2.2.2.1, ⟨hk.1.2.2.1, ⟨hk.1.2.2.2.2.2.1, ⟨hk.1.2.2.2.2.2.2.1, hk.1.2.2.2.2.2.2.2⟩⟩⟩⟩⟩)⟩, ⟨by (with_reducible repeat (first | apply Kd.R_alloc | apply Kd.R_drewN | apply Kd.R_drew)); exact Kd.R_mono HO_122000.out (fun _ hk => ⟨hk.2, hk.1.2.2.1⟩)⟩, ⟨by (with_reducible repeat (first | refine blk_drewN ?_ _ | refine blk_drew ?_ | refine blk_alloc ?_ _)); exact BK101.out⟩, ⟨by (with_reducible repeat (first | refine blk_drewN ?_ _ | refine blk_drew ?_ | refine blk_alloc ?_ _)); exact BK114.out⟩, ⟨by (with_reducible repeat (first | refine blk_drewN ?_ _ | refine blk_drew ?_ | refine blk_alloc ?_ _)); exact BK121.out⟩, ⟨pE HB⟩⟩
                  ·rw [if_neg c63] at H
                   exact absurd H (by simp)
                 ·replace c62 := Bool.eq_false_iff.mpr c62
                  subst c62
                  rw [if_neg (show ¬ (false = true) by decide)] at H
                  have H' := Aside0.mk H
                  clear H
                  have p136 : 0 ≤ (x60_3 : Int) := dT
                  have q136 : x60_3 < (x10_2.length : Int) := dT
                  obtain ⟨ad136, e136, hx136_0⟩ := Kd.at_int (Kd.R_reads' HO_58.out).2.2 x60_3 p136 q136
                  cases e136
                  replace p136 := eq_true p136
                  replace q136 := eq_true q136
                  obtain ⟨Ao78, co78, eo78⟩ := Kd.R_slice HO_10.out
                  subst eo78
                  go_wp2_with (first | ((with_reducible refine gc 83 rfl ?_); refine gL 66 Tryz.func83 #[.slice Ao78 x10_3.length co78] ?_; (with_reducible refine (slices_Clone_int_int.calls _ _ x10_3 t137 _ ?side1 ?side2 A56.out).mono ?_); (case side1 => exact pC (Kd.R_reads' HO_10.out).2.2); (case side2 => exact (Kd.R_reads' HO_10.out).2.1); rintro e w79 ⟨v138, rfl, ho0, hb⟩; refine ⟨_, rfl, ?_⟩; replace HO_115000 := Aside0.mk (Kd.V_elder' (pV HO_115000.out) (Kd.R_base ho0) hb); replace HO_115001 := Aside0.mk (Kd.V_elder' (pV HO_115001.out) (Kd.R_base ho0) hb); replace HO_115004 := Aside0.mk (Kd.V_elder' (pV HO_115004.out) (Kd.R_base ho0) hb); have HO139 := Aside0.mk (Kd.R_lower (Kd.R_new' (Kd.R_new' (Kd.R_new' (Kd.R_new' ho0 (Kd.R_lt (pR HO_6.out))) (Kd.R_lt (pR HO_10.out))) (Kd.R_lt (pR HO_58.out))) (Kd.R_lt (pR HO_122000.out))) (below_size (pE HB))); replace HO_6 := re HO_6 ho0 hb; replace HO_10 := re HO_10 ho0 hb; replace HO_58 := re HO_58 ho0 hb; replace HO_122000 := re HO_122000 ho0 hb; replace BK101 := bb BK101 hb; replace BK114 := bb BK114 hb; replace BK121 := bb BK121 hb; replace HB := bs HB hb; clear hb ho0; obtain ⟨Ao80, co80, eo80⟩ := Kd.R_slice HO139.out; subst eo80) | ((with_reducible refine gc 86 rfl ?_); refine gL 70 Tryz.func86 #[.slice Ao80 t137.length co80, .int .i64 x60_3, .int .i64 (wrap64 (x60_3 + 1))] ?_; (with_reducible refine (slices_Delete_int_int.calls (fun k_ => some k_ = (.slice Ao80 t137.length co80 : Value).ownBlock) (.slice Ao80 t137.length co80) t137 x60_3 (wrap64 (x60_3 + 1)) t140 w _ ?side1 ?side2 A57.out).mono ?_); (case side1 => repeat (first | (with_reducible first | exact HB.out | apply below_alloc | apply pw_below_drewN | apply below_drew1 | refine below_set ?_ GE101.out | refine below_set ?_ GE114.out | refine below_set ?_ GE121.out) | exact HB.out)); (case side2 => exact Kd.R_tight rfl HO139.out); rintro e w81 ⟨v141, rfl, ho0, hb, hkp⟩; refine ⟨_, rfl, ?_⟩; replace HO_115000 := Aside0.mk (Kd.V_mono (ok' := fun k_ => some k_ ≠ (u6 : Value).ownBlock ∧ some k_ ≠ (.slice Ao78 x10_3.length co78 : Value).ownBlock ∧ some k_ ≠ (.slice (some ad136) x10_2.length co52 : Value).ownBlock ∧ some k_ ≠ (u122000 : Value).ownBlock ∧ k_ ≠ gb101 ∧ k_ ≠ gb114 ∧ k_ ≠ gb121 ∧ some k_ ≠ (v141 : Value).ownBlock) (Kd.V_keptB (HO_115000.out) hkp (fun k_ hk_ hs_ => (hk_.2) hs_)) (fun k_ hk_ => ⟨hk_.1.1.1, hk_.1.1.2.1, hk_.1.1.2.2.1, hk_.1.1.2.2.2.1, hk_.1.1.2.2.2.2.1, hk_.1.1.2.2.2.2.2.1, hk_.1.1.2.2.2.2.2.2, fun e_ => Or.elim (ho0.1 k_ e_.symm) (fun hs_ => hk_.2.1 hs_) (fun hn_ => Nat.not_le.2 hk_.2.2 hn_)⟩)); replace HO_115001 := Aside0.mk (Kd.V_mono (ok' := fun k_ => some k_ ≠ (u6 : Value).ownBlock ∧ some k_ ≠ (.slice Ao78 x10_3.length co78 : Value).ownBlock ∧ some k_ ≠ (.slice (some ad136) x10_2.length co52 : Value).ownBlock ∧ some k_ ≠ (u122000 : Value).ownBlock ∧ k_ ≠ gb101 ∧ k_ ≠ gb114 ∧ k_ ≠ gb121 ∧ some k_ ≠ (v141 : Value).ownBlock) (Kd.V_keptB (HO_115001.out) hkp (fun k_ hk_ hs_ => (hk_.2) hs_)) (fun k_ hk_ => ⟨hk_.1.1.1, hk_.1.1.2.1, hk_.1.1.2.2.1, hk_.1.1.2.2.2.1, hk_.1.1.2.2.2.2.1, hk_.1.1.2.2.2.2.2.1, hk_.1.1.2.2.2.2.2.2, fun e_ => Or.elim (ho0.1 k_ e_.symm) (fun hs_ => hk_.2.1 hs_) (fun hn_ => Nat.not_le.2 hk_.2.2 hn_)⟩)); replace HO_115004 := Aside0.mk (Kd.V_mono (ok' := fun k_ => some k_ ≠ (u6 : Value).ownBlock ∧ some k_ ≠ (.slice Ao78 x10_3.length co78 : Value).ownBlock ∧ some k_ ≠ (.slice (some ad136) x10_2.length co52 : Value).ownBlock ∧ some k_ ≠ (u122000 : Value).ownBlock ∧ k_ ≠ gb101 ∧ k_ ≠ gb114 ∧ k_ ≠ gb121 ∧ some k_ ≠ (v141 : Value).ownBlock) (Kd.V_keptB (HO_115004.out) hkp (fun k_ hk_ hs_ => (hk_.2) hs_)) (fun k_ hk_ => ⟨hk_.1.1.1, hk_.1.1.2.1, hk_.1.1.2.2.1, hk_.1.1.2.2.2.1, hk_.1.1.2.2.2.2.1, hk_.1.1.2.2.2.2.2.1, hk_.1.1.2.2.2.2.2.2, fun e_ => Or.elim (ho0.1 k_ e_.symm) (fun hs_ => hk_.2.1 hs_) (fun hn_ => Nat.not_le.2 hk_.2.2 hn_)⟩)); replace BK101 := Aside0.mk (blk_kept (pB BK101.out) hkp (fun hs_ => (fun e_ => (Kd.R_ne HO139.out BK101.out (by decide)) e_) hs_)); replace BK114 := Aside0.mk (blk_kept (pB BK114.out) hkp (fun hs_ => (fun e_ => (Kd.R_ne HO139.out BK114.out (by decide)) e_) hs_)); replace BK121 := Aside0.mk (blk_kept (pB BK121.out) hkp (fun hs_ => (fun e_ => (Kd.R_ne HO139.out BK121.out (by decide)) e_) hs_)); have HO142 := Aside0.mk (Kd.R_mono (ok' := fun k_ => some k_ ≠ (u6 : Value).ownBlock ∧ some k_ ≠ (.slice Ao78 x10_3.length co78 : Value).ownBlock ∧ some k_ ≠ (.slice (some ad136) x10_2.length co52 : Value).ownBlock ∧ some k_ ≠ (u122000 : Value).ownBlock) ho0 (fun k_ hk_ => ⟨Or.elim hk_ (fun hs_ => fun e_ => (((HO_6.out).1 k_ e_.symm).2) hs_) (fun hn_ => (Kd.fresh' (Kd.R_lt (pR HO_6.out)) k_ hn_)), Or.elim hk_ (fun hs_ => fun e_ => (((HO_10.out).1 k_ e_.symm).2) hs_) (fun hn_ => (Kd.fresh' (Kd.R_lt (pR HO_10.out)) k_ hn_)), Or.elim hk_ (fun hs_ => fun e_ => (((HO_58.out).1 k_ e_.symm).2) hs_) (fun hn_ => (Kd.fresh' (Kd.R_lt (pR HO_58.out)) k_ hn_)), Or.elim hk_ (fun hs_ => fun e_ => (((HO_122000.out).1 k_ e_.symm).2) hs_) (fun hn_ => (Kd.fresh' (Kd.R_lt (pR HO_122000.out)) k_ hn_))⟩)); replace HO_6 := Aside0.mk (Kd.R_mono (ok' := fun k_ => some k_ ≠ (.slice Ao78 x10_3.length co78 : Value).ownBlock ∧ some k_ ≠ (.slice (some ad136) x10_2.length co52 : Value).ownBlock ∧ some k_ ≠ (u122000 : Value).ownBlock ∧ some k_ ≠ (v141 : Value).ownBlock) (Kd.R_keptB (HO_6.out) hkp (fun k_ hk_ hs_ => (hk_.2) hs_)) (fun k_ hk_ => ⟨hk_.1.1.1, hk_.1.1.2.1, hk_.1.1.2.2, fun e_ => Or.elim (ho0.1 k_ e_.symm) (fun hs_ => hk_.2.1 hs_) (fun hn_ => Nat.not_le.2 hk_.2.2 hn_)⟩)); replace HO_10 := Aside0.mk (Kd.R_mono (ok' := fun k_ => some k_ ≠ (u6 : Value).ownBlock ∧ some k_ ≠ (u122000 : Value).ownBlock ∧ some k_ ≠ (v141 : Value).ownBlock) (Kd.R_keptB (HO_10.out) hkp (fun k_ hk_ hs_ => (hk_.2) hs_)) (fun k_ hk_ => ⟨hk_.1.1.1, hk_.1.1.2, fun e_ => Or.elim (ho0.1 k_ e_.symm) (fun hs_ => hk_.2.1 hs_) (fun hn_ => Nat.not_le.2 hk_.2.2 hn_)⟩)); replace HO_58 := Aside0.mk (Kd.R_mono (ok' := fun k_ => some k_ ≠ (u6 : Value).ownBlock ∧ some k_ ≠ (u122000 : Value).ownBlock ∧ some k_ ≠ (v141 : Value).ownBlock) (Kd.R_keptB (HO_58.out) hkp (fun k_ hk_ hs_ => (hk_.2) hs_)) (fun k_ hk_ => ⟨hk_.1.1.1, hk_.1.1.2, fun e_ => Or.elim (ho0.1 k_ e_.symm) (fun hs_ => hk_.2.1 hs_) (fun hn_ => Nat.not_le.2 hk_.2.2 hn_)⟩)); replace HO_122000 := Aside0.mk (Kd.R_mono (ok' := fun k_ => some k_ ≠ (u6 : Value).ownBlock ∧ some k_ ≠ (.slice Ao78 x10_3.length co78 : Value).ownBlock ∧ some k_ ≠ (.slice (some ad136) x10_2.length co52 : Value).ownBlock ∧ some k_ ≠ (v141 : Value).ownBlock) (Kd.R_keptB (HO_122000.out) hkp (fun k_ hk_ hs_ => (hk_.2) hs_)) (fun k_ hk_ => ⟨hk_.1.1.1, hk_.1.1.2.1, hk_.1.1.2.2, fun e_ => Or.elim (ho0.1 k_ e_.symm) (fun hs_ => hk_.2.1 hs_) (fun hn_ => Nat.not_le.2 hk_.2.2 hn_)⟩)); replace HB := Aside0.mk (hb); clear HO139; clear hb hkp ho0; have hnb82 := NB121_101.out; have hnc82 := NB101_121.out; have hnb83 := NB121_114.out; have hnc83 := NB114_121.out; obtain ⟨_, _⟩ := cf1 BK121; obtain ⟨Ao85, co85, eo85⟩ := Kd.R_slice HO_122000.out; subst eo85; have p143 : 0 ≤ ((rd x10_2 x60_3) : Int) := dT; have q143 : (rd x10_2 x60_3) < (x122000_1.length : Int) := dT; obtain ⟨ad143, e143, hx143_0⟩ := Kd.at_int (Kd.R_reads' HO_122000.out).2.2 (rd x10_2 x60_3) p143 q143; cases e143; replace p143 := eq_true p143; replace q143 := eq_true q143; obtain ⟨Ao86, co86, eo86⟩ := Kd.R_slice HO142.out; subst eo86) | (go_at_call 82; (with_reducible refine (tenter_Order_1.calls k3 (wrap64 (x55_2 + 1)) _ _ t140 gb121 (some ad143) co85 x122000_1 false _ ?side1 ?side2 ?side3 ?side4 ?side5 A61.out).mono ?_); (case side1 => exact pC (Kd.R_reads' HO142.out).2.2); (case side2 => exact (Kd.R_reads' HO142.out).2.1); (case side3 => exact pB BK121.out); (case side4 => exact pC (Kd.R_reads' HO_122000.out).2.2); (case side5 => exact (Kd.R_reads' HO_122000.out).2.1); rintro e w87 ⟨rfl, hb⟩; replace HO_6 := rb HO_6 hb; replace HO_10 := rb HO_10 hb; replace HO_58 := rb HO_58 hb; replace HO_115000 := vb HO_115000 hb; replace HO_115001 := vb HO_115001 hb; replace HO_115004 := vb HO_115004 hb; replace HO_122000 := rb HO_122000 hb; replace HO142 := rb HO142 hb; replace BK101 := bb BK101 hb; replace BK114 := bb BK114 hb; replace BK121 := bb BK121 hb; replace HB := bs HB hb; (try clear hb); (try clear hb2); (try clear hk); (try clear hi)))
                  go_roundg k3
                  case measure => have := HK1.out; have := HK2.out; have := HK3.out; omega
                  case rel => exact ⟨(x6_3), (x10_3), (wrap64 (x60_3 + 1)), (by first | rfl | (simp; done) | (simp [*]; done)), H', ⟨by have := HK1.out; have := HK2.out; have := HK3.out; omega⟩, ⟨by (with_reducible repeat (first | apply Kd.R_alloc | apply Kd.R_drewN | apply Kd.R_drew)); exact Kd.R_mono HO_6.out (fun _ hk => ⟨hk.1, ⟨hk.2.1, hk.2.2.1⟩⟩)⟩, ⟨by (with_reducible repeat (first | apply Kd.R_alloc | apply Kd.R_drewN | apply Kd.R_drew)); exact Kd.R_mono HO_10.out (fun _ hk => ⟨hk.1, hk.2.1⟩)⟩, ⟨by (with_reducible repeat (first | apply Kd.R_alloc | apply Kd.R_drewN | apply Kd.R_drew)); exact Kd.R_mono HO_58.out (fun _ hk => ⟨hk.1, hk.2.1⟩)⟩, ⟨by (with_reducible repeat (first | apply Kd.V_alloc | apply Kd.V_drewN | apply Kd.V_drew)); exact Kd.V_mono HO_115000.out (fun _ hk => ⟨hk.1, ⟨hk.2.1, ⟨hk.2.2.1, ⟨hk.2.2.2.1, ⟨hk.2.2.2.2.1, ⟨hk.2.2.2.2.2.1, hk.2.2.2.2.2.2.1⟩⟩⟩⟩⟩⟩)⟩, ⟨by (with_reducible repeat (first | apply Kd.V_alloc | apply Kd.V_drewN | apply Kd.V_drew)); exact Kd.V_mono HO_115001.out (fun _ hk => ⟨hk.1, ⟨hk.2.1, ⟨hk.2.2.1, ⟨hk.2.2.2.1, ⟨hk.2.2.2.2.1, ⟨hk.2.2.2.2.2.1, hk.2.2.2.2.2.2.1⟩⟩⟩⟩⟩⟩)⟩, ⟨by (with_reducible repeat (first | apply Kd.V_alloc | apply Kd.V_drewN | apply Kd.V_drew)); exact Kd.V_mono HO_115004.out (fun _ hk => ⟨hk.1, ⟨hk.2.1, ⟨hk.2.2.1, ⟨hk.2.2.2.1, ⟨hk.2.2.2.2.1, ⟨hk.2.2.2.2.2.1, hk.2.2.2.2.2.2.1⟩⟩⟩⟩⟩⟩)⟩, ⟨by (with_reducible repeat (first | apply Kd.R_alloc | apply Kd.R_drewN | apply Kd.R_drew)); exact Kd.R_mono HO_122000.out (fun _ hk => ⟨hk.1, ⟨hk.2.1, hk.2.2.1⟩⟩)⟩, ⟨by (with_reducible repeat (first | refine blk_drewN ?_ _ | refine blk_drew ?_ | refine blk_alloc ?_ _)); exact BK101.out⟩, ⟨by (with_reducible repeat (first | refine blk_drewN ?_ _ | refine blk_drew ?_ | refine blk_alloc ?_ _)); exact BK114.out⟩, ⟨by (with_reducible repeat (first | refine blk_drewN ?_ _ | refine blk_drew ?_ | refine blk_alloc ?_ _)); exact BK121.out⟩, ⟨pE HB⟩⟩
                ·rw [if_neg c60] at H
                 have c60b0 : decide (x55_2 ≤ (rd x122000_1 (rd x10_2 x60_3))) = false := decide_eq_false c60
                 clear c60
                 have H' := Aside0.mk H
                 clear H
                 have p136 : 0 ≤ (x60_3 : Int) := dT
                 have q136 : x60_3 < (x10_2.length : Int) := dT
                 obtain ⟨ad136, e136, hx136_0⟩ := Kd.at_int (Kd.R_reads' HO_58.out).2.2 x60_3 p136 q136
                 cases e136
                 replace p136 := eq_true p136
                 replace q136 := eq_true q136
                 obtain ⟨Ao88, co88, eo88⟩ := Kd.R_slice HO_10.out
                 subst eo88
                 go_wp2_with (first | ((with_reducible refine gc 83 rfl ?_); refine gL 66 Tryz.func83 #[.slice Ao88 x10_3.length co88] ?_; (with_reducible refine (slices_Clone_int_int.calls _ _ x10_3 t137 _ ?side1 ?side2 A56.out).mono ?_); (case side1 => exact pC (Kd.R_reads' HO_10.out).2.2); (case side2 => exact (Kd.R_reads' HO_10.out).2.1); rintro e w89 ⟨v138, rfl, ho0, hb⟩; refine ⟨_, rfl, ?_⟩; replace HO_115000 := Aside0.mk (Kd.V_elder' (pV HO_115000.out) (Kd.R_base ho0) hb); replace HO_115001 := Aside0.mk (Kd.V_elder' (pV HO_115001.out) (Kd.R_base ho0) hb); replace HO_115004 := Aside0.mk (Kd.V_elder' (pV HO_115004.out) (Kd.R_base ho0) hb); have HO139 := Aside0.mk (Kd.R_lower (Kd.R_new' (Kd.R_new' (Kd.R_new' (Kd.R_new' ho0 (Kd.R_lt (pR HO_6.out))) (Kd.R_lt (pR HO_10.out))) (Kd.R_lt (pR HO_58.out))) (Kd.R_lt (pR HO_122000.out))) (below_size (pE HB))); replace HO_6 := re HO_6 ho0 hb; replace HO_10 := re HO_10 ho0 hb; replace HO_58 := re HO_58 ho0 hb; replace HO_122000 := re HO_122000 ho0 hb; replace BK101 := bb BK101 hb; replace BK114 := bb BK114 hb; replace BK121 := bb BK121 hb; replace HB := bs HB hb; clear hb ho0; obtain ⟨Ao90, co90, eo90⟩ := Kd.R_slice HO139.out; subst eo90) | ((with_reducible refine gc 86 rfl ?_); refine gL 70 Tryz.func86 #[.slice Ao90 t137.length co90, .int .i64 x60_3, .int .i64 (wrap64 (x60_3 + 1))] ?_; (with_reducible refine (slices_Delete_int_int.calls (fun k_ => some k_ = (.slice Ao90 t137.length co90 : Value).ownBlock) (.slice Ao90 t137.length co90) t137 x60_3 (wrap64 (x60_3 + 1)) t140 w _ ?side1 ?side2 A57.out).mono ?_); (case side1 => repeat (first | (with_reducible first | exact HB.out | apply below_alloc | apply pw_below_drewN | apply below_drew1 | refine below_set ?_ GE101.out | refine below_set ?_ GE114.out | refine below_set ?_ GE121.out) | exact HB.out)); (case side2 => exact Kd.R_tight rfl HO139.out); rintro e w91 ⟨v141, rfl, ho0, hb, hkp⟩; refine ⟨_, rfl, ?_⟩; replace HO_115000 := Aside0.mk (Kd.V_mono (ok' := fun k_ => some k_ ≠ (u6 : Value).ownBlock ∧ some k_ ≠ (.slice Ao88 x10_3.length co88 : Value).ownBlock ∧ some k_ ≠ (.slice (some ad136) x10_2.length co52 : Value).ownBlock ∧ some k_ ≠ (u122000 : Value).ownBlock ∧ k_ ≠ gb101 ∧ k_ ≠ gb114 ∧ k_ ≠ gb121 ∧ some k_ ≠ (v141 : Value).ownBlock) (Kd.V_keptB (HO_115000.out) hkp (fun k_ hk_ hs_ => (hk_.2) hs_)) (fun k_ hk_ => ⟨hk_.1.1.1, hk_.1.1.2.1, hk_.1.1.2.2.1, hk_.1.1.2.2.2.1, hk_.1.1.2.2.2.2.1, hk_.1.1.2.2.2.2.2.1, hk_.1.1.2.2.2.2.2.2, fun e_ => Or.elim (ho0.1 k_ e_.symm) (fun hs_ => hk_.2.1 hs_) (fun hn_ => Nat.not_le.2 hk_.2.2 hn_)⟩)); replace HO_115001 := Aside0.mk (Kd.V_mono (ok' := fun k_ => some k_ ≠ (u6 : Value).ownBlock ∧ some k_ ≠ (.slice Ao88 x10_3.length co88 : Value).ownBlock ∧ some k_ ≠ (.slice (some ad136) x10_2.length co52 : Value).ownBlock ∧ some k_ ≠ (u122000 : Value).ownBlock ∧ k_ ≠ gb101 ∧ k_ ≠ gb114 ∧ k_ ≠ gb121 ∧ some k_ ≠ (v141 : Value).ownBlock) (Kd.V_keptB (HO_115001.out) hkp (fun k_ hk_ hs_ => (hk_.2) hs_)) (fun k_ hk_ => ⟨hk_.1.1.1, hk_.1.1.2.1, hk_.1.1.2.2.1, hk_.1.1.2.2.2.1, hk_.1.1.2.2.2.2.1, hk_.1.1.2.2.2.2.2.1, hk_.1.1.2.2.2.2.2.2, fun e_ => Or.elim (ho0.1 k_ e_.symm) (fun hs_ => hk_.2.1 hs_) (fun hn_ => Nat.not_le.2 hk_.2.2 hn_)⟩)); replace HO_115004 := Aside0.mk (Kd.V_mono (ok' := fun k_ => some k_ ≠ (u6 : Value).ownBlock ∧ some k_ ≠ (.slice Ao88 x10_3.length co88 : Value).ownBlock ∧ some k_ ≠ (.slice (some ad136) x10_2.length co52 : Value).ownBlock ∧ some k_ ≠ (u122000 : Value).ownBlock ∧ k_ ≠ gb101 ∧ k_ ≠ gb114 ∧ k_ ≠ gb121 ∧ some k_ ≠ (v141 : Value).ownBlock) (Kd.V_keptB (HO_115004.out) hkp (fun k_ hk_ hs_ => (hk_.2) hs_)) (fun k_ hk_ => ⟨hk_.1.1.1, hk_.1.1.2.1, hk_.1.1.2.2.1, hk_.1.1.2.2.2.1, hk_.1.1.2.2.2.2.1, hk_.1.1.2.2.2.2.2.1, hk_.1.1.2.2.2.2.2.2, fun e_ => Or.elim (ho0.1 k_ e_.symm) (fun hs_ => hk_.2.1 hs_) (fun hn_ => Nat.not_le.2 hk_.2.2 hn_)⟩)); replace BK101 := Aside0.mk (blk_kept (pB BK101.out) hkp (fun hs_ => (fun e_ => (Kd.R_ne HO139.out BK101.out (by decide)) e_) hs_)); replace BK114 := Aside0.mk (blk_kept (pB BK114.out) hkp (fun hs_ => (fun e_ => (Kd.R_ne HO139.out BK114.out (by decide)) e_) hs_)); replace BK121 := Aside0.mk (blk_kept (pB BK121.out) hkp (fun hs_ => (fun e_ => (Kd.R_ne HO139.out BK121.out (by decide)) e_) hs_)); have HO142 := Aside0.mk (Kd.R_mono (ok' := fun k_ => some k_ ≠ (u6 : Value).ownBlock ∧ some k_ ≠ (.slice Ao88 x10_3.length co88 : Value).ownBlock ∧ some k_ ≠ (.slice (some ad136) x10_2.length co52 : Value).ownBlock ∧ some k_ ≠ (u122000 : Value).ownBlock) ho0 (fun k_ hk_ => ⟨Or.elim hk_ (fun hs_ => fun e_ => (((HO_6.out).1 k_ e_.symm).2) hs_) (fun hn_ => (Kd.fresh' (Kd.R_lt (pR HO_6.out)) k_ hn_)), Or.elim hk_ (fun hs_ => fun e_ => (((HO_10.out).1 k_ e_.symm).2) hs_) (fun hn_ => (Kd.fresh' (Kd.R_lt (pR HO_10.out)) k_ hn_)), Or.elim hk_ (fun hs_ => fun e_ => (((HO_58.out).1 k_ e_.symm).2) hs_) (fun hn_ => (Kd.fresh' (Kd.R_lt (pR HO_58.out)) k_ hn_)), Or.elim hk_ (fun hs_ => fun e_ => (((HO_122000.out).1 k_ e_.symm).2) hs_) (fun hn_ => (Kd.fresh' (Kd.R_lt (pR HO_122000.out)) k_ hn_))⟩)); replace HO_6 := Aside0.mk (Kd.R_mono (ok' := fun k_ => some k_ ≠ (.slice Ao88 x10_3.length co88 : Value).ownBlock ∧ some k_ ≠ (.slice (some ad136) x10_2.length co52 : Value).ownBlock ∧ some k_ ≠ (u122000 : Value).ownBlock ∧ some k_ ≠ (v141 : Value).ownBlock) (Kd.R_keptB (HO_6.out) hkp (fun k_ hk_ hs_ => (hk_.2) hs_)) (fun k_ hk_ => ⟨hk_.1.1.1, hk_.1.1.2.1, hk_.1.1.2.2, fun e_ => Or.elim (ho0.1 k_ e_.symm) (fun hs_ => hk_.2.1 hs_) (fun hn_ => Nat.not_le.2 hk_.2.2 hn_)⟩)); replace HO_10 := Aside0.mk (Kd.R_mono (ok' := fun k_ => some k_ ≠ (u6 : Value).ownBlock ∧ some k_ ≠ (u122000 : Value).ownBlock ∧ some k_ ≠ (v141 : Value).ownBlock) (Kd.R_keptB (HO_10.out) hkp (fun k_ hk_ hs_ => (hk_.2) hs_)) (fun k_ hk_ => ⟨hk_.1.1.1, hk_.1.1.2, fun e_ => Or.elim (ho0.1 k_ e_.symm) (fun hs_ => hk_.2.1 hs_) (fun hn_ => Nat.not_le.2 hk_.2.2 hn_)⟩)); replace HO_58 := Aside0.mk (Kd.R_mono (ok' := fun k_ => some k_ ≠ (u6 : Value).ownBlock ∧ some k_ ≠ (u122000 : Value).ownBlock ∧ some k_ ≠ (v141 : Value).ownBlock) (Kd.R_keptB (HO_58.out) hkp (fun k_ hk_ hs_ => (hk_.2) hs_)) (fun k_ hk_ => ⟨hk_.1.1.1, hk_.1.1.2, fun e_ => Or.elim (ho0.1 k_ e_.symm) (fun hs_ => hk_.2.1 hs_) (fun hn_ => Nat.not_le.2 hk_.2.2 hn_)⟩)); replace HO_122000 := Aside0.mk (Kd.R_mono (ok' := fun k_ => some k_ ≠ (u6 : Value).ownBlock ∧ some k_ ≠ (.slice Ao88 x10_3.length co88 : Value).ownBlock ∧ some k_ ≠ (.slice (some ad136) x10_2.length co52 : Value).ownBlock ∧ some k_ ≠ (v141 : Value).ownBlock) (Kd.R_keptB (HO_122000.out) hkp (fun k_ hk_ hs_ => (hk_.2) hs_)) (fun k_ hk_ => ⟨hk_.1.1.1, hk_.1.1.2.1, hk_.1.1.2.2, fun e_ => Or.elim (ho0.1 k_ e_.symm) (fun hs_ => hk_.2.1 hs_) (fun hn_ => Nat.not_le.2 hk_.2.2 hn_)⟩)); replace HB := Aside0.mk (hb); clear HO139; clear hb hkp ho0; have hnb92 := NB121_101.out; have hnc92 := NB101_121.out; have hnb93 := NB121_114.out; have hnc93 := NB114_121.out; obtain ⟨_, _⟩ := cf1 BK121; obtain ⟨Ao95, co95, eo95⟩ := Kd.R_slice HO_122000.out; subst eo95; have p143 : 0 ≤ ((rd x10_2 x60_3) : Int) := dT; have q143 : (rd x10_2 x60_3) < (x122000_1.length : Int) := dT; obtain ⟨ad143, e143, hx143_0⟩ := Kd.at_int (Kd.R_reads' HO_122000.out).2.2 (rd x10_2 x60_3) p143 q143; cases e143; replace p143 := eq_true p143; replace q143 := eq_true q143))
                 go_roundg k3
                 case measure => have := HK1.out; have := HK2.out; have := HK3.out; omega
                 case rel => exact ⟨(x6_3), (x10_3), (wrap64 (x60_3 + 1)), (by first | rfl | (simp; done) | (simp [*]; done)), H', ⟨by have := HK1.out; have := HK2.out; have := HK3.out; omega⟩, ⟨by (with_reducible repeat (first | apply Kd.R_alloc | apply Kd.R_drewN | apply Kd.R_drew)); exact Kd.R_mono HO_6.out (fun _ hk => ⟨hk.1, ⟨hk.2.1, hk.2.2.1⟩⟩)⟩, ⟨by (with_reducible repeat (first | apply Kd.R_alloc | apply Kd.R_drewN | apply Kd.R_drew)); exact Kd.R_mono HO_10.out (fun _ hk => ⟨hk.1, hk.2.1⟩)⟩, ⟨by (with_reducible repeat (first | apply Kd.R_alloc | apply Kd.R_drewN | apply Kd.R_drew)); exact Kd.R_mono HO_58.out (fun _ hk => ⟨hk.1, hk.2.1⟩)⟩, ⟨by (with_reducible repeat (first | apply Kd.V_alloc | apply Kd.V_drewN | apply Kd.V_drew)); exact Kd.V_mono HO_115000.out (fun _ hk => ⟨hk.1, ⟨hk.2.1, ⟨hk.2.2.1, ⟨hk.2.2.2.1, ⟨hk.2.2.2.2.1, ⟨hk.2.2.2.2.2.1, hk.2.2.2.2.2.2.1⟩⟩⟩⟩⟩⟩)⟩, ⟨by (with_reducible repeat (first | apply Kd.V_alloc | apply Kd.V_drewN | apply Kd.V_drew)); exact Kd.V_mono HO_115001.out (fun _ hk => ⟨hk.1, ⟨hk.2.1, ⟨hk.2.2.1, ⟨hk.2.2.2.1, ⟨hk.2.2.2.2.1, ⟨hk.2.2.2.2.2.1, hk.2.2.2.2.2.2.1⟩⟩⟩⟩⟩⟩)⟩, ⟨by (with_reducible repeat (first | apply Kd.V_alloc | apply Kd.V_drewN | apply Kd.V_drew)); exact Kd.V_mono HO_115004.out (fun _ hk => ⟨hk.1, ⟨hk.2.1, ⟨hk.2.2.1, ⟨hk.2.2.2.1, ⟨hk.2.2.2.2.1, ⟨hk.2.2.2.2.2.1, hk.2.2.2.2.2.2.1⟩⟩⟩⟩⟩⟩)⟩, ⟨by (with_reducible repeat (first | apply Kd.R_alloc | apply Kd.R_drewN | apply Kd.R_drew)); exact Kd.R_mono HO_122000.out (fun _ hk => ⟨hk.1, ⟨hk.2.1, hk.2.2.1⟩⟩)⟩, ⟨by (with_reducible repeat (first | refine blk_drewN ?_ _ | refine blk_drew ?_ | refine blk_alloc ?_ _)); exact BK101.out⟩, ⟨by (with_reducible repeat (first | refine blk_drewN ?_ _ | refine blk_drew ?_ | refine blk_alloc ?_ _)); exact BK114.out⟩, ⟨by (with_reducible repeat (first | refine blk_drewN ?_ _ | refine blk_drew ?_ | refine blk_alloc ?_ _)); exact BK121.out⟩, ⟨pE HB⟩⟩
               ·rw [if_neg c59] at H
                exact absurd H (by simp)
              ·rw [if_neg c58] at H
               exact absurd H (by simp)
             ·rw [if_neg c55] at H
              exact absurd H (by simp)
            ·rw [if_neg c54] at H
             exact absurd H (by simp)
           ·rw [if_neg c53] at H
            have c53b0 : decide (x60_3 < (x10_2.length : Int)) = false := decide_eq_false c53
            clear c53
            have H' := Aside0.mk H
            clear H
            go_wp2
            go_roundg k3
            case measure => have := HK1.out; have := HK2.out; have := HK3.out; omega
            case rel => exact ⟨(x6_3), (x10_3), (wrap64 (x55_2 + 1)), (by first | rfl | (simp; done) | (simp [*]; done)), H', ⟨by have := HK1.out; have := HK2.out; have := HK3.out; omega⟩, ⟨by (with_reducible repeat (first | apply Kd.R_alloc | apply Kd.R_drewN | apply Kd.R_drew)); exact Kd.R_mono HO_6.out (fun _ hk => ⟨hk.1, hk.2.2⟩)⟩, ⟨by (with_reducible repeat (first | apply Kd.R_alloc | apply Kd.R_drewN | apply Kd.R_drew)); exact HO_10.out⟩, ⟨by (with_reducible repeat (first | apply Kd.V_alloc | apply Kd.V_drewN | apply Kd.V_drew)); exact Kd.V_mono HO_115000.out (fun _ hk => ⟨hk.1, ⟨hk.2.1, ⟨hk.2.2.2.1, ⟨hk.2.2.2.2.1, ⟨hk.2.2.2.2.2.1, hk.2.2.2.2.2.2⟩⟩⟩⟩⟩)⟩, ⟨by (with_reducible repeat (first | apply Kd.V_alloc | apply Kd.V_drewN | apply Kd.V_drew)); exact Kd.V_mono HO_115001.out (fun _ hk => ⟨hk.1, ⟨hk.2.1, ⟨hk.2.2.2.1, ⟨hk.2.2.2.2.1, ⟨hk.2.2.2.2.2.1, hk.2.2.2.2.2.2⟩⟩⟩⟩⟩)⟩, ⟨by (with_reducible repeat (first | apply Kd.V_alloc | apply Kd.V_drewN | apply Kd.V_drew)); exact Kd.V_mono HO_115004.out (fun _ hk => ⟨hk.1, ⟨hk.2.1, ⟨hk.2.2.2.1, ⟨hk.2.2.2.2.1, ⟨hk.2.2.2.2.2.1, hk.2.2.2.2.2.2⟩⟩⟩⟩⟩)⟩, ⟨by (with_reducible repeat (first | apply Kd.R_alloc | apply Kd.R_drewN | apply Kd.R_drew)); exact Kd.R_mono HO_122000.out (fun _ hk => ⟨hk.1, hk.2.1⟩)⟩, ⟨by (with_reducible repeat (first | refine blk_drewN ?_ _ | refine blk_drew ?_ | refine blk_alloc ?_ _)); exact BK101.out⟩, ⟨by (with_reducible repeat (first | refine blk_drewN ?_ _ | refine blk_drew ?_ | refine blk_alloc ?_ _)); exact BK114.out⟩, ⟨by (with_reducible repeat (first | refine blk_drewN ?_ _ | refine blk_drew ?_ | refine blk_alloc ?_ _)); exact BK121.out⟩, ⟨pE HB⟩⟩
        ·rw [if_neg c51] at H
         have c51b0 : decide (x55_2 < (l0_0.length : Int)) = false := decide_eq_false c51
         clear c51
         simp only [Option.some.injEq, Prod.mk.injEq] at H
         obtain ⟨rfl, rfl⟩ := H
         go_wp2
         go_ret2
         exact ⟨_, eT, by (with_reducible repeat (first | apply Kd.R_alloc | apply Kd.R_drewN | apply Kd.R_drew)); exact Kd.R_mono HO_6.out (fun _ hk => trivial), pE HB⟩
     ·replace c45 := Bool.eq_false_iff.mpr c45
      subst c45
      rw [if_neg (show ¬ (false = true) by decide)] at H
      simp only [Option.some.injEq, Prod.mk.injEq] at H
      obtain ⟨rfl, rfl⟩ := H
      obtain ⟨Ao96, co96, eo96⟩ := Kd.R_slice HO_10.out
      subst eo96
      obtain ⟨AoZ2, coZ2, eoZ2⟩ := Kd.R_slice HO_122000.out
      have HOZ2 := HO_122000.out
      rw [eoZ2] at HOZ2
      have EZ2 := Aside0.mk eoZ2
      clear eoZ2
      go_wp2_with (first | (go_at_call 82; (with_reducible refine (tenter_Order_1.calls k1 0 _ _ x10_1 gb121 AoZ2 coZ2 x122000_1 false _ ?side1 ?side2 ?side3 ?side4 ?side5 A44.out).mono ?_); (case side1 => exact pC (Kd.R_reads' HO_10.out).2.2); (case side2 => exact (Kd.R_reads' HO_10.out).2.1); (case side3 => exact by (with_reducible repeat (first | refine blk_drewN ?_ _ | refine blk_drew ?_ | refine blk_alloc ?_ _)); rw [← EZ2.out]; exact BK121.out); (case side4 => exact pC (Kd.R_reads' HOZ2).2.2); (case side5 => exact (Kd.R_reads' HOZ2).2.1); rintro e w97 ⟨rfl, hb⟩; replace HO_10 := rb HO_10 hb; replace HO_115000 := vb HO_115000 hb; replace HO_115001 := vb HO_115001 hb; replace HO_115004 := vb HO_115004 hb; replace HO_122000 := rb HO_122000 hb; replace BK101 := bb BK101 hb; replace BK114 := bb BK114 hb; replace BK121 := bb BK121 hb; replace HB := bs HB hb; (try clear hb); (try clear hb2); (try clear hk); (try clear hi)))
      go_ret2
      exact ⟨_, eT, by first | exact Kd.R_nil _ _ _ _ _ | exact Kd.N_nil _ _ _ _ _ | exact Kd.V_nil _ _ _ _ _ | exact Kd.Q_nil _ _ _ _ _ | exact Kd.S_nil _ _ _ _ _, pE HB⟩
 ·rw [if_neg c5] at H
  have c5b0 : (t113 == 0) = false := beq_eq_false_iff_ne.mpr c5
  have c5b1 : (t113 != 0) = true := bne_iff_ne.mpr c5
  simp only [Option.some.injEq, Prod.mk.injEq] at H
  obtain ⟨rfl, rfl⟩ := H
  go_enter Tryz.func39, Tryz.ntmps39
  go_wp2_with (first | ((with_reducible refine gate_dst (N := 3) rfl ?_); refine bx 3 #[.slice A0_0 l0_0.length c0_0, .slice A0_1 l0_1.length c0_1, .int .i64 a0_2, .int .i64 a0_3] 25 ?_; intro gb101 hg w98 hbox hb; have BK101 := hbox; have GW101 := gs HB hg; have GE101 := gs HB hg; replace HB := bs HB hb; clear hb hbox hg; obtain ⟨_, _, _, _, _, _, _, _⟩ := cf4 BK101) | ((with_reducible refine gc 78 rfl ?_); refine gL 21 Tryz.func78 #[.agg #[.slice A0_0 l0_0.length c0_0, .slice A0_1 l0_1.length c0_1, .int .i64 a0_2, .int .i64 a0_3], .slice A1 l1.length c1, .int .i64 a2] ?_; (with_reducible refine (tenter_newForecast.calls (fun k_ => k_ < w.heap.size) _ _ l0_0 (fun k_ => k_ < w.heap.size) _ _ l0_1 a0_2 a0_3 (fun k_ => k_ < w.heap.size) _ _ l1 a2 t102 t105 t108 t109 t110 t113 _ ?side1 ?side2 ?side3 A4.out).mono ?_); (case side1 => exact Kd.V_mk HC0_0.out (Kd.F_below (Kd.C_F k43_heap HR0_0.out) (pE HB))); (case side2 => exact Kd.V_mk HC0_1.out (Kd.F_below (Kd.C_F (Kd.heap_int .i64) HR0_1.out) (pE HB))); (case side3 => exact Kd.V_mk HC1.out (Kd.F_below (Kd.C_F k36_heap HR1.out) (pE HB))); rintro e w100 ⟨v103, v106, v111, rfl, ho0, ho1, ho2, hb⟩; refine ⟨_, rfl, ?_⟩; have HO104 := Aside0.mk (Kd.V_lower (Kd.V_mono (ok' := fun k_ => k_ ≠ gb101) ho0 (fun k_ hk_ => Or.elim hk_ (fun hs_ => Or.elim hs_ (fun hs_ => fun e_ => Nat.not_le.2 hs_ (by rw [e_]; exact GW101.out)) (fun hs_ => Or.elim hs_ (fun hs_ => fun e_ => Nat.not_le.2 hs_ (by rw [e_]; exact GW101.out)) (fun hs_ => fun e_ => Nat.not_le.2 hs_ (by rw [e_]; exact GW101.out)))) (fun hn_ => (Kd.freshB (g := gb101) (o := .cells #[.slice A0_0 l0_0.length c0_0, .slice A0_1 l0_1.length c0_1, .int .i64 a0_2, .int .i64 a0_3] 25 (0, 0)) (pB BK101.out) k_ hn_)))) (below_size (pE HB))); have HO107 := Aside0.mk (Kd.V_lower (Kd.V_mono (ok' := fun k_ => k_ ≠ gb101) ho1 (fun k_ hk_ => Or.elim hk_ (fun hs_ => Or.elim hs_ (fun hs_ => fun e_ => Nat.not_le.2 hs_ (by rw [e_]; exact GW101.out)) (fun hs_ => Or.elim hs_ (fun hs_ => fun e_ => Nat.not_le.2 hs_ (by rw [e_]; exact GW101.out)) (fun hs_ => fun e_ => Nat.not_le.2 hs_ (by rw [e_]; exact GW101.out)))) (fun hn_ => (Kd.freshB (g := gb101) (o := .cells #[.slice A0_0 l0_0.length c0_0, .slice A0_1 l0_1.length c0_1, .int .i64 a0_2, .int .i64 a0_3] 25 (0, 0)) (pB BK101.out) k_ hn_)))) (below_size (pE HB))); have HO112 := Aside0.mk (Kd.V_lower (Kd.V_mono (ok' := fun k_ => k_ ≠ gb101) ho2 (fun k_ hk_ => Or.elim hk_ (fun hs_ => Or.elim hs_ (fun hs_ => fun e_ => Nat.not_le.2 hs_ (by rw [e_]; exact GW101.out)) (fun hs_ => Or.elim hs_ (fun hs_ => fun e_ => Nat.not_le.2 hs_ (by rw [e_]; exact GW101.out)) (fun hs_ => fun e_ => Nat.not_le.2 hs_ (by rw [e_]; exact GW101.out)))) (fun hn_ => (Kd.freshB (g := gb101) (o := .cells #[.slice A0_0 l0_0.length c0_0, .slice A0_1 l0_1.length c0_1, .int .i64 a0_2, .int .i64 a0_3] 25 (0, 0)) (pB BK101.out) k_ hn_)))) (below_size (pE HB))); replace BK101 := bb BK101 hb; replace HB := bs HB hb; clear hb ho0 ho1 ho2) | ((with_reducible refine gate_dst (N := 8) rfl ?_); refine bx 8 #[.slice none 0 0, .slice none 0 0, .int .i64 0, .int .i64 0, .slice none 0 0] 121 ?_; intro gb114 hg w101 hbox hb; replace HO104 := ve HO104 hg hb; replace HO107 := ve HO107 hg hb; replace HO112 := ve HO112 hg hb; have BK114 := hbox; have GW114 := gs HB hg; have GE114 := gs HB hg; replace HB := bs HB hb; have NB101_114 := nl BK101 hg; have NB114_101 := nr BK101 hg; replace BK101 := bb BK101 hb; clear hb hbox hg; obtain ⟨Ao102, co102, eo102⟩ := Kd.V_slice HO104.out; subst eo102; have hnb103 := NB114_101.out; have hnc103 := NB101_114.out; obtain ⟨_, _, _, _, _, _, _, _, _, _⟩ := cf5 BK114; obtain ⟨Ao105, co105, eo105⟩ := Kd.V_slice HO107.out; subst eo105; obtain ⟨Ao106, co106, eo106⟩ := Kd.V_slice HO112.out; subst eo106))
  go_ret2
  exact ⟨_, eT, by first | exact Kd.R_nil _ _ _ _ _ | exact Kd.N_nil _ _ _ _ _ | exact Kd.V_nil _ _ _ _ _ | exact Kd.Q_nil _ _ _ _ _ | exact Kd.S_nil _ _ _ _ _, pE HB⟩
def walkmillref05_Has.l0 : Nat → List Int → Int → Int → Option (Bool)
  | 0, _, _, _ => none
  | k + 1, x0, x1, x5 => if x5 < (x0.length : Int) then (if 0 ≤ x5 then (if (rd x0 x5) = x1 then (some true) else (walkmillref05_Has.l0 k x0 x1 (wrap64 (x5 + 1)))) else (none)) else (some false)
def walkmillref05_Has.f (k : Nat) (l0 : List Int) (a1 : Int) : Option (Bool) := walkmillref05_Has.l0 k l0 a1 0
theorem walkmillref05_Has.mono_l : ∀ k, (∀ y0 y1 y2, LeO (walkmillref05_Has.l0 k y0 y1 y2) (walkmillref05_Has.l0 (k + 1) y0 y1 y2))
  | 0 => fun _ _ _ r h => by simp [walkmillref05_Has.l0] at h
  | k + 1 => by
    have ih0 := walkmillref05_Has.mono_l k
    · intro y0 y1 y2
      unfold walkmillref05_Has.l0
      repeat' first
      | (with_reducible exact ih0 _ _ _)
      | (with_reducible exact LeO.refl _)
      | (with_reducible exact LeO.none _)
      | (with_reducible refine LeO.ite ?_ ?_)
      | (with_reducible refine LeO.bind ?_ (fun _ => ?_))
      | exact ih0 _ _ _
      | exact LeO.none _
      | refine LeO.ite ?_ ?_
      | refine LeO.bind ?_ (fun _ => ?_)
theorem walkmillref05_Has.mono : ∀ a0 a1 k, LeO (walkmillref05_Has.f k a0 a1) (walkmillref05_Has.f (k + 1) a0 a1) := by
  intro a0 a1 k
  have ih0 := walkmillref05_Has.mono_l k
  unfold walkmillref05_Has.f
  repeat' first
      | (with_reducible exact ih0 _ _ _)
      | (with_reducible exact LeO.refl _)
      | (with_reducible exact LeO.none _)
      | (with_reducible refine LeO.ite ?_ ?_)
      | (with_reducible refine LeO.bind ?_ (fun _ => ?_))
      | exact ih0 _ _ _
      | exact LeO.none _
      | refine LeO.ite ?_ ?_
      | refine LeO.bind ?_ (fun _ => ?_)
set_option maxHeartbeats 8000000 in
set_option maxRecDepth 100000 in
theorem walkmillref05_Has.calls (k : Nat) (A0 : Option Addr) (c0 : Nat) (l0 : List Int) (a1 : Int) (r : Bool) (w : World) (hr0 : Kd.C (Kd.int .i64) w A0 l0.length l0) (hc0 : l0.length ≤ c0) (h : walkmillref05_Has.f k l0 a1 = some r) :
    Calls Tryz.prog 103 #[.slice A0 l0.length c0, .int .i64 a1] w fun e w' => e = .returned (.bool r) ∧ Drawn0 w w' := by
  have HR0 := Aside0.mk hr0
  have HC0 := Aside0.mk hc0
  clear hr0 hc0
  have H : (walkmillref05_Has.l0 k l0 a1 0) = some r := h
  clear h
  have H' := Aside0.mk H
  clear H
  go_enter Tryz.func103, Tryz.ntmps103
  go_wp2
  go_loopg [5] k (fun kq v5 w' => ∃ (x5_1 : Int), v5 = .int .i64 x5_1 ∧ Aside0 (walkmillref05_Has.l0 kq l0 a1 x5_1 = some r) ∧ Aside0 (kq ≤ k) ∧ Drawn0 w w')
  case atStart => exact ⟨(0), (by first | rfl | (simp; done) | (simp [*]; done)), H', ⟨Nat.le_refl _⟩, by repeat (first | exact Drawn0.refl _ | apply Drawn0.step)⟩
  case round =>
    clear H'
    try clear c1
    try clear p2
    obtain ⟨x5_1, rfl, HA, HK1, ⟨m1, rfl⟩⟩ := hrel
    cases gk with
    | zero => exact absurd HA.out (by simp [walkmillref05_Has.l0])
    | succ k1 =>
      have H := HA.out
      clear HA
      simp only [walkmillref05_Has.l0] at H
      by_cases c3 : x5_1 < (l0.length : Int)
      · rw [if_pos c3] at H
        have c3b0 : decide (x5_1 < (l0.length : Int)) = true := decide_eq_true c3
        clear c3
        by_cases c4 : 0 ≤ x5_1
        · rw [if_pos c4] at H
          have c4b0 : decide (0 ≤ x5_1) = true := decide_eq_true c4
          clear c4
          by_cases c5 : (rd l0 x5_1) = a1
          · rw [if_pos c5] at H
            have c5b0 : ((rd l0 x5_1) == a1) = true := beq_iff_eq.mpr c5
            have c5b1 : ((rd l0 x5_1) != a1) = false := bne_eq_false_iff_eq.mpr c5
            clear c5
            obtain rfl := Option.some.inj H
            have p101 : 0 ≤ (x5_1 : Int) := of_decide_eq_true (by first | (with_reducible assumption) | assumption)
            have q101 : x5_1 < (l0.length : Int) := of_decide_eq_true (by first | (with_reducible assumption) | assumption)
            obtain ⟨ad101, e101, hx101_0⟩ := Kd.at_int HR0.out x5_1 p101 q101
            cases e101
            replace p101 := eq_true p101
            replace q101 := eq_true q101
            go_wp2
            go_ret
            exact ⟨by first | rfl | (simp; done) | (simp [*]; done), by repeat (first | exact Drawn0.refl _ | apply Drawn0.step)⟩
          · rw [if_neg c5] at H
            have c5b0 : ((rd l0 x5_1) == a1) = false := beq_eq_false_iff_ne.mpr c5
            have c5b1 : ((rd l0 x5_1) != a1) = true := bne_iff_ne.mpr c5
            have H' := Aside0.mk H
            clear H
            have p101 : 0 ≤ (x5_1 : Int) := of_decide_eq_true (by first | (with_reducible assumption) | assumption)
            have q101 : x5_1 < (l0.length : Int) := of_decide_eq_true (by first | (with_reducible assumption) | assumption)
            obtain ⟨ad101, e101, hx101_0⟩ := Kd.at_int HR0.out x5_1 p101 q101
            cases e101
            replace p101 := eq_true p101
            replace q101 := eq_true q101
            go_wp2
            go_roundg k1
            case measure => have := HK1.out; omega
            case rel => exact ⟨(wrap64 (x5_1 + 1)), (by first | rfl | (simp; done) | (simp [*]; done)), H', ⟨by have := HK1.out; omega⟩, by repeat (first | exact Drawn0.refl _ | apply Drawn0.step)⟩
        · rw [if_neg c4] at H
          exact absurd H (by simp)
      · rw [if_neg c3] at H
        have c3b0 : decide (x5_1 < (l0.length : Int)) = false := decide_eq_false c3
        clear c3
        obtain rfl := Option.some.inj H
        go_wp2
        go_ret
        exact ⟨by first | rfl | (simp; done) | (simp [*]; done), by repeat (first | exact Drawn0.refl _ | apply Drawn0.step)⟩
mutual
def walkmillref05_Orders.l0 : Nat → Int → List Int → List (List Int) → Int → Option ((List (List Int)))
 | 0, _, _, _, _ => none
 | k + 1, x0, x1, x5, x6 => if x6 < x0 then ((walkmillref05_Has.f k x1 x6).bind fun t107 => (if t107 = true then (walkmillref05_Orders.l0 k x0 x1 x5 (wrap64 (x6 + 1))) else ((some (([] : List Int) : List Int)).bind fun y108 => (if y108.length + x1.length < 17592186044416 then ((some (y108 ++ x1 : List Int)).bind fun y111 => (if y111.length < 17592186044416 then ((walkmillref05_Orders.f k x0 (y111 ++ [x6])).bind fun t117 => (if x5.length + t117.length < 5864062014805 then (walkmillref05_Orders.l0 k x0 x1 (x5 ++ t117) (wrap64 (x6 + 1))) else (none))) else (none))) else (none))))) else (some x5)
def walkmillref05_Orders.f : Nat → Int → List Int → Option ((List (List Int)))
 | 0, _, _ => none
 | k + 1, a0, l1 => if (l1.length : Int) = a0 then (some (([l1] : List (List Int)))) else (walkmillref05_Orders.l0 k a0 l1 (([] : List (List Int))) 0)
end
theorem walkmillref05_Orders.mono_l : ∀ k, (∀ y0 y1, LeO (walkmillref05_Orders.f k y0 y1) (walkmillref05_Orders.f (k + 1) y0 y1)) ∧ (∀ y0 y1 y2 y3, LeO (walkmillref05_Orders.l0 k y0 y1 y2 y3) (walkmillref05_Orders.l0 (k + 1) y0 y1 y2 y3))
 | 0 => ⟨fun _ _ r h => by simp [walkmillref05_Orders.f] at h, fun _ _ _ _ r h => by simp [walkmillref05_Orders.l0] at h⟩
 | k + 1 => by
  obtain ⟨ih0, ih1⟩ := walkmillref05_Orders.mono_l k
  refine ⟨?_, ?_⟩
  ·intro y0 y1
   unfold walkmillref05_Orders.f
   repeat' first
   | (with_reducible exact ih0 _ _)
   | (with_reducible exact ih1 _ _ _ _)
   | (with_reducible exact walkmillref05_Has.mono _ _ _)
   | (with_reducible exact LeO.refl _)
   | (with_reducible exact LeO.none _)
   | (with_reducible refine LeO.ite ?_ ?_)
   | (with_reducible refine LeO.bind ?_ (fun _ => ?_))
   | exact ih0 _ _
   | exact ih1 _ _ _ _
   | exact walkmillref05_Has.mono _ _ _
   | exact LeO.none _
   | refine LeO.ite ?_ ?_
   | refine LeO.bind ?_ (fun _ => ?_)
  ·intro y0 y1 y2 y3
   unfold walkmillref05_Orders.l0
   repeat' first
   | (with_reducible exact ih0 _ _)
   | (with_reducible exact ih1 _ _ _ _)
   | (with_reducible exact walkmillref05_Has.mono _ _ _)
   | (with_reducible exact LeO.refl _)
   | (with_reducible exact LeO.none _)
   | (with_reducible refine LeO.ite ?_ ?_)
   | (with_reducible refine LeO.bind ?_ (fun _ => ?_))
   | exact ih0 _ _
   | exact ih1 _ _ _ _
   | exact walkmillref05_Has.mono _ _ _
   | exact LeO.none _
   | refine LeO.ite ?_ ?_
   | refine LeO.bind ?_ (fun _ => ?_)
theorem walkmillref05_Orders.mono : ∀ a0 a1 k, LeO (walkmillref05_Orders.f k a0 a1) (walkmillref05_Orders.f (k + 1) a0 a1) := by
 intro a0 a1 k
 obtain ⟨ih0, ih1⟩ := walkmillref05_Orders.mono_l k
 exact ih0 a0 a1
set_option maxHeartbeats 8000000 in
set_option maxRecDepth 100000 in
theorem walkmillref05_Orders.calls (k : Nat) : ∀ (a0 : Int) (P1_ : Nat → Prop) (A1 : Option Addr) (c1 : Nat) (l1 : List Int) (r : List (List Int)) (w : World) (hs1 : Kd.V (Kd.int .i64) 3 w w.heap.size (fun k_ => P1_ k_) (.slice A1 l1.length c1) l1) (h : walkmillref05_Orders.f k a0 l1 = some r),
  Calls Tryz.prog 87 #[.int .i64 a0, .slice A1 l1.length c1] w fun e w' => ∃ v0_ : Value, e = .returned (v0_) ∧ Kd.N (Kd.slice 3 (Kd.int .i64)) 23 w' w.heap.size (fun k_ => (P1_ k_ ∨ w.heap.size ≤ k_)) v0_ r ∧ Below w.heap.size w w' := by
 induction k using Nat.strongRecOn with
 | _ k ih =>
 intro a0 P1_ A1 c1 l1 r w hs1 h
 cases k with
 | zero => exact absurd h (by simp [walkmillref05_Orders.f])
 | succ k =>
 simp only [walkmillref05_Orders.f] at h
 have HO1 := Aside0.mk (show Kd.V (Kd.int .i64) 3 w w.heap.size (fun k_ => (P1_ k_ ∨ w.heap.size ≤ k_)) (.slice A1 l1.length c1) l1 from Kd.V_mono hs1 (fun k_ hk => .inl hk))
 have HB := Aside0.mk (Below.refl w.heap.size w)
 have H : (if (l1.length : Int) = a0 then (some (([l1] : List (List Int)))) else (walkmillref05_Orders.l0 k a0 l1 (([] : List (List Int))) 0)) = some r := h
 clear h
 by_cases c3 : (l1.length : Int) = a0
 ·rw [if_pos c3] at H
  have c3b0 : ((l1.length : Int) == a0) = true := beq_iff_eq.mpr c3
  have c3b1 : ((l1.length : Int) != a0) = false := bne_eq_false_iff_eq.mpr c3
  clear c3
  obtain ⟨y101, hy101⟩ : ∃ y_ : List (List Int), y_ = (([l1] : List (List Int))) := ⟨_, rfl⟩
  replace H : (some y101) = some r := yy hy101 H
  have Ny101 := Aside0.mk hy101
  clear hy101
  obtain rfl := Option.some.inj H
  go_enter Tryz.func87, Tryz.ntmps87
  go_wp2_with (first | ((with_reducible refine gate_dst (N := 12) rfl ?_); refine Kd.N_lit (Kd.slice 3 (Kd.int .i64)) _ 23 ?hg (N' := 12) ?hd (xs := ([l1] : List (List Int))) (inner := [.slice A1 l1.length c1]) (ok := (fun k_ => (P1_ k_ ∨ w.heap.size ≤ k_))) (okp := (fun k_ => (P1_ k_ ∨ w.heap.size ≤ k_))) ?hr ?hp (fun _ hk => hk) ((show ∀ k_, w.heap.size ≤ k_ → (fun k_ => (P1_ k_ ∨ w.heap.size ≤ k_)) k_ from fun k_ hk => (.inr (Nat.le_trans (below_size (pE HB)) hk))) _ (Nat.le_refl _)) (Below.refl _ _) (Nat.le_refl _) (by simp) ?_; (case hd => rfl); (case hg => rfl); (case hr => first | (go_simp; done) | (go_simp; rfl)); (case hp => exact (Reps.one (show Kd.FK (Kd.slice 3 (Kd.int .i64)) _ _ l1 [.slice A1 l1.length c1] from (Kd.FK_slice_mk (Kd.V_reads' (Kd.V_mono (ok' := (fun k_ => (P1_ k_ ∨ w.heap.size ≤ k_))) (HO1.out) (fun k_ hk => hk))).2.1 (Kd.V_F (Kd.V_mono (ok' := (fun k_ => (P1_ k_ ∨ w.heap.size ≤ k_))) (HO1.out) (fun k_ hk => hk))))) (Reps.none _ _))); intro v102 w4 ho5 hb hg_ hnew_; clear hg_ hnew_; (first | rw [← Ny101.out] at ho5 | (simp only [Int.reduceToNat] at ho5; rw [← Ny101.out] at ho5)); replace HO1 := Aside0.mk (Kd.V_elder' (pV HO1.out) (Kd.N_base ho5) hb); have HO103 := Aside0.mk (Kd.N_lower ho5 (below_size (pE HB))); replace HB := bs HB hb; clear hb ho5))
  go_ret
  exact ⟨_, eT, by (with_reducible repeat (first | apply Kd.N_alloc | apply Kd.N_drewN | apply Kd.N_drew)); exact HO103.out, pE HB⟩
 ·rw [if_neg c3] at H
  have c3b0 : ((l1.length : Int) == a0) = false := beq_eq_false_iff_ne.mpr c3
  have c3b1 : ((l1.length : Int) != a0) = true := bne_iff_ne.mpr c3
  obtain ⟨y104, hy104⟩ : ∃ y_ : List (List Int), y_ = (([] : List (List Int))) := ⟨_, rfl⟩
  replace H : (walkmillref05_Orders.l0 k a0 l1 y104 0) = some r := yy hy104 H
  have Ny104 := Aside0.mk hy104
  clear hy104
  have H' := Aside0.mk H
  clear H
  go_enter Tryz.func87, Tryz.ntmps87
  go_wp2_with (first | ((with_reducible refine gate_dst (N := 13) rfl ?_); refine Kd.N_lit (Kd.slice 3 (Kd.int .i64)) _ 23 ?hg (N' := 13) ?hd (xs := ([] : List (List Int))) (inner := []) (ok := (fun k_ => (P1_ k_ ∨ w.heap.size ≤ k_))) (okp := (fun k_ => (P1_ k_ ∨ w.heap.size ≤ k_))) ?hr ?hp (fun _ hk => hk) ((show ∀ k_, w.heap.size ≤ k_ → (fun k_ => (P1_ k_ ∨ w.heap.size ≤ k_)) k_ from fun k_ hk => (.inr (Nat.le_trans (below_size (pE HB)) hk))) _ (Nat.le_refl _)) (Below.refl _ _) (Nat.le_refl _) (by simp) ?_; (case hd => rfl); (case hg => rfl); (case hr => first | (go_simp; done) | (go_simp; rfl)); (case hp => exact (Reps.none _ _)); intro v105 w6 ho7 hb hg_ hnew_; clear hg_ hnew_; (first | rw [← Ny104.out] at ho7 | (simp only [Int.reduceToNat] at ho7; rw [← Ny104.out] at ho7)); replace HO1 := Aside0.mk (Kd.V_elder' (pV HO1.out) (Kd.N_base ho7) hb); have HO106 := Aside0.mk (Kd.N_lower ho7 (below_size (pE HB))); replace HB := bs HB hb; clear hb ho7))
  go_loopg [5, 6] k (fun kq v5 v6 w' => ∃ (x5_1 : List (List Int)) (x6_1 : Int), v6 = .int .i64 x6_1 ∧ Aside0 (walkmillref05_Orders.l0 kq a0 l1 x5_1 x6_1 = some r) ∧ Aside0 (kq ≤ k) ∧ Aside0 (Kd.V (Kd.int .i64) 3 w' w.heap.size (fun k_ => (P1_ k_ ∨ w.heap.size ≤ k_) ∧ some k_ ≠ (v5 : Value).ownBlock) (.slice A1 l1.length c1) l1) ∧ Aside0 (Kd.N (Kd.slice 3 (Kd.int .i64)) 23 w' w.heap.size (fun k_ => (P1_ k_ ∨ w.heap.size ≤ k_)) v5 x5_1) ∧ Aside0 (Below w.heap.size w w'))
  case atStart => exact ⟨(y104), (0), (by first | rfl | (simp; done) | (simp [*]; done)), H', ⟨Nat.le_refl _⟩, ⟨by (with_reducible repeat (first | apply Kd.V_alloc | apply Kd.V_drewN | apply Kd.V_drew)); exact HO1.out⟩, ⟨by (with_reducible repeat (first | apply Kd.N_alloc | apply Kd.N_drewN | apply Kd.N_drew)); exact HO106.out⟩, ⟨pE HB⟩⟩
  case round =>
   clear H'
   try clear c1
   try clear p2
   try clear c3
   try clear c3b0
   try clear c3b1
   obtain ⟨x5_1, x6_1, rfl, HA, HK1, HO_1, HO_5, HB⟩ := hrel
   cases gk with
   | zero => exact absurd HA.out (by simp [walkmillref05_Orders.l0])
   | succ k1 =>
    have H := HA.out
    clear HA
    simp only [walkmillref05_Orders.l0] at H
    by_cases c8 : x6_1 < a0
    ·rw [if_pos c8] at H
     have c8b0 : decide (x6_1 < a0) = true := decide_eq_true c8
     clear c8
     obtain ⟨t107, A9, H⟩ := bi H
     by_cases c10 : t107 = true
     ·subst c10
      rw [if_pos rfl] at H
      have H' := Aside0.mk H
      clear H
      go_wp2_with (first | ((with_reducible refine gc 103 rfl ?_); refine gL 21 Tryz.func103 #[.slice A1 l1.length c1, .int .i64 x6_1] ?_; (with_reducible refine (walkmillref05_Has.calls k1 _ _ l1 x6_1 true _ ?side1 ?side2 A9.out).mono ?_); (case side1 => exact pC (Kd.V_reads' HO_1.out).2.2); (case side2 => exact (Kd.V_reads' HO_1.out).2.1); rintro e w' ⟨rfl, ⟨nd, rfl⟩⟩; refine ⟨_, rfl, ?_⟩))
      go_roundg k1
      case measure => have := HK1.out; omega
      case rel => exact ⟨(x5_1), (wrap64 (x6_1 + 1)), (by first | rfl | (simp; done) | (simp [*]; done)), H', ⟨by have := HK1.out; omega⟩, ⟨by (with_reducible repeat (first | apply Kd.V_alloc | apply Kd.V_drewN | apply Kd.V_drew)); exact HO_1.out⟩, ⟨by (with_reducible repeat (first | apply Kd.N_alloc | apply Kd.N_drewN | apply Kd.N_drew)); exact HO_5.out⟩, ⟨pE HB⟩⟩
     ·replace c10 := Bool.eq_false_iff.mpr c10
      subst c10
      rw [if_neg (show ¬ (false = true) by decide)] at H
      obtain ⟨y108, hy108⟩ : ∃ y_ : List Int, y_ = (([] : List Int)) := ⟨_, rfl⟩
      replace H : (if y108.length + l1.length < 17592186044416 then ((some (y108 ++ l1 : List Int)).bind fun y111 => (if y111.length < 17592186044416 then ((walkmillref05_Orders.f k1 a0 (y111 ++ [x6_1])).bind fun t117 => (if x5_1.length + t117.length < 5864062014805 then (walkmillref05_Orders.l0 k1 a0 l1 (x5_1 ++ t117) (wrap64 (x6_1 + 1))) else (none))) else (none))) else (none)) = some r := yy hy108 H
      have Ny108 := Aside0.mk hy108
      clear hy108
      by_cases c11 : y108.length + l1.length < 17592186044416
      ·rw [if_pos c11] at H
       have LMc11 := Aside0.mk c11
       clear c11
       obtain ⟨y111, hy111⟩ : ∃ y_ : List Int, y_ = (y108 ++ l1) := ⟨_, rfl⟩
       replace H : (if y111.length < 17592186044416 then ((walkmillref05_Orders.f k1 a0 (y111 ++ [x6_1])).bind fun t117 => (if x5_1.length + t117.length < 5864062014805 then (walkmillref05_Orders.l0 k1 a0 l1 (x5_1 ++ t117) (wrap64 (x6_1 + 1))) else (none))) else (none)) = some r := yy hy111 H
       have Ny111 := Aside0.mk hy111
       clear hy111
       by_cases c12 : y111.length < 17592186044416
       ·rw [if_pos c12] at H
        have LMc12 := Aside0.mk c12
        clear c12
        obtain ⟨y114, hy114⟩ : ∃ y_ : List Int, y_ = (y111 ++ [x6_1]) := ⟨_, rfl⟩
        replace H : Option.bind (walkmillref05_Orders.f k1 a0 y114) _ = some r := yy hy114 H
        have Ny114 := Aside0.mk hy114
        clear hy114
        obtain ⟨t117, A13, H⟩ := bi H
        by_cases c14 : x5_1.length + t117.length < 5864062014805
        ·rw [if_pos c14] at H
         have LMc14 := Aside0.mk c14
         clear c14
         obtain ⟨y120, hy120⟩ : ∃ y_ : List (List Int), y_ = (x5_1 ++ t117) := ⟨_, rfl⟩
         replace H : (walkmillref05_Orders.l0 k1 a0 l1 y120 (wrap64 (x6_1 + 1))) = some r := yy hy120 H
         have Ny120 := Aside0.mk hy120
         clear hy120
         have H' := Aside0.mk H
         clear H
         go_wp2_with (first | ((with_reducible refine gc 103 rfl ?_); refine gL 21 Tryz.func103 #[.slice A1 l1.length c1, .int .i64 x6_1] ?_; (with_reducible refine (walkmillref05_Has.calls k1 _ _ l1 x6_1 false _ ?side1 ?side2 A9.out).mono ?_); (case side1 => exact pC (Kd.V_reads' HO_1.out).2.2); (case side2 => exact (Kd.V_reads' HO_1.out).2.1); rintro e w' ⟨rfl, ⟨nd, rfl⟩⟩; refine ⟨_, rfl, ?_⟩) | ((with_reducible refine gate_dst (N := 25) rfl ?_); refine Kd.R_lit (Kd.int .i64) _ 3 ?hg (N := 25) ?hd (xs := ([] : List Int)) (inner := []) (ok := fun _ => True) (okp := fun _ => True) ?hr ?hp (fun _ hk => hk) trivial (Below.refl _ _) (Nat.le_refl _) (by simp) ?_; (case hd => rfl); (case hg => rfl); (case hr => first | (go_simp; done) | (go_simp; rfl)); (case hp => exact (Reps.none _ _)); intro v109 w15 ho16 hb hg_ hnew_; clear hg_ hnew_; (first | rw [← Ny108.out] at ho16 | (simp only [Int.reduceToNat] at ho16; rw [← Ny108.out] at ho16)); replace HO_1 := Aside0.mk (Kd.V_elder' (pV HO_1.out) (Kd.R_base ho16) hb); replace HO_5 := Aside0.mk (Kd.N_elder' (pN HO_5.out) (Kd.R_base ho16) hb); have HO110 := Aside0.mk (Kd.R_lower (Kd.R_newM (M := fun k_ => (w.heap.size ≤ k_)) ho16 (below_size (pE HB)) (fun k_ h_ => h_)) (below_size (pE HB))); replace HB := bs HB hb; clear hb ho16) | ((with_reducible refine gate_builtin (b := .append) (xs := #[.tmp 25, .tmp 26]) rfl ?_); at_builtin; refine Kd.R_append_rows (Kd.int .i64) (w0 := w) w.heap.size rfl (.tmp 25) (.tmp 26) 23 3 (.int .i64 0) 8 rfl Tryz.underlying23 info3 rfl (by decide) (by omega) v109 y108 l1 _ _ _ (fun k_ => (w.heap.size ≤ k_)) (fun _ => False) rfl rfl ?aO ?aR (fun _ _ h => h) (fun _ h => h.elim) ?aF ?aB ?aS ?aL ?_; (case aR => exact pC (Kd.V_reads' HO_1.out).2.2); (case aB => exact (pE HB)); (case aF => exact (fun k_ hk => (Nat.le_trans (below_size (pE HB)) hk))); (case aO => exact (by refine pR ?_; exact Kd.R_mono HO110.out (fun _ hk => hk.1))); (case aS => exact (below_size (pE HB))); (case aL => have := LMc11.out; omega); intro v112 w17 ho hb hg hat; rw [← Ny111.out] at ho; replace HO_1 := Aside0.mk (Kd.V_afterv (ok := (fun k_ => (P1_ k_ ∨ w.heap.size ≤ k_) ∧ some k_ ≠ (u5 : Value).ownBlock)) (pV HO_1.out) hg hat); replace HO_5 := Aside0.mk (Kd.N_afterv (ok := (fun k_ => (P1_ k_ ∨ w.heap.size ≤ k_))) (pN HO_5.out) hg hat); replace HB := Aside0.mk (hb); have HO113 := Aside0.mk (ho); clear HO110; clear ho hb hg hat) | ((with_reducible refine gate_builtin (b := .append) (xs := #[.tmp 27, .tmp 29]) rfl ?_); at_builtin; refine Kd.R_append (Kd.int .i64) (w0 := w) w.heap.size rfl (.tmp 27) (.tmp 29) 23 3 (.int .i64 0) 8 rfl Tryz.underlying23 info3 rfl (by decide) (by omega) v112 y111 x6_1 [.int .i64 x6_1] (fun k_ => (w.heap.size ≤ k_)) (fun _ => False) rfl rfl ?aP (fun _ hk => hk.elim) ?aF ?aO ?aB ?aS ?aL ?_; (case aP => exact rfl); (case aB => exact (pE HB)); (case aF => exact (fun k_ hk => (Nat.le_trans (below_size (pE HB)) hk))); (case aO => exact (pR HO113.out)); (case aS => exact (below_size (pE HB))); (case aL => have := LMc12.out; omega); intro v115 w18 ho hb hg hat; rw [← Ny114.out] at ho; replace HO_1 := Aside0.mk (Kd.V_afterv (ok := (fun k_ => (P1_ k_ ∨ w.heap.size ≤ k_) ∧ some k_ ≠ (u5 : Value).ownBlock)) (pV HO_1.out) hg hat); replace HO_5 := Aside0.mk (Kd.N_afterv (ok := (fun k_ => (P1_ k_ ∨ w.heap.size ≤ k_))) (pN HO_5.out) hg hat); replace HB := Aside0.mk (hb); have HO116 := Aside0.mk (ho); clear HO113; clear ho hb hg hat; obtain ⟨Ao19, co19, eo19⟩ := Kd.R_slice HO116.out; subst eo19) | ((with_reducible refine gc 87 rfl ?_); refine gL 31 Tryz.func87 #[.int .i64 a0, .slice Ao19 y114.length co19] ?_; (with_reducible refine (ih k1 (by have := HK1.out; omega) a0 (fun k_ => some k_ = (.slice Ao19 y114.length co19 : Value).ownBlock) _ _ y114 t117 _ ?side1 A13.out).mono ?_); (case side1 => exact Kd.R_V (Kd.R_tight rfl (Kd.R_apart' (HO116.out) (Kd.N_typed HO_5.out) (by decide)))); rintro e w20 ⟨v118, rfl, ho0, hb⟩; refine ⟨_, rfl, ?_⟩; replace HO_1 := Aside0.mk (Kd.V_elder' (pV HO_1.out) (Kd.N_base ho0) hb); have HO119 := Aside0.mk (Kd.N_lower (Kd.N_mono (ok' := fun k_ => (P1_ k_ ∨ w.heap.size ≤ k_) ∧ some k_ ≠ (u5 : Value).ownBlock) ho0 (fun k_ hk_ => ⟨Or.elim hk_ (fun hs_ => (.inr (((Kd.R_apart' (HO116.out) (Kd.N_typed HO_5.out) (by decide)).1 k_ hs_.symm).1))) (fun hn_ => (.inr (Nat.le_trans (below_size (pE HB)) hn_))), Or.elim hk_ (fun hs_ => ((Kd.R_apart' (HO116.out) (Kd.N_typed HO_5.out) (by decide)).1 k_ hs_.symm).2) (fun hn_ => (Kd.fresh' (Kd.N_lt (pN HO_5.out)) k_ hn_))⟩)) (below_size (pE HB))); replace HO_5 := Aside0.mk (Kd.N_elder' (pN HO_5.out) (Kd.N_base ho0) hb); replace HO116 := rb HO116 hb; replace HB := bs HB hb; clear hb ho0; obtain ⟨Ao22, co22, eo22⟩ := Kd.N_slice HO119.out; subst eo22) | ((with_reducible refine gate_builtin (b := .append) (xs := #[.tmp 23, .tmp 31]) rfl ?_); at_builtin; refine Kd.N_append_rows (Kd.slice 3 (Kd.int .i64)) (w0 := w) w.heap.size rfl (.tmp 23) (.tmp 31) 46 23 (.slice none 0 0) 24 rfl Tryz.underlying46 info23 rfl (by decide) (by omega) u5 x5_1 t117 _ _ _ (fun k_ => (P1_ k_ ∨ w.heap.size ≤ k_)) (fun k_ => ((fun k_ => (P1_ k_ ∨ w.heap.size ≤ k_))) k_ ∧ some k_ ≠ (u5 : Value).ownBlock) rfl rfl ?aO ?aR (fun _ hk => hk) ?aF ?aB ?aS ?aL ?_; (case aR => exact (by skip; exact Kd.N_F (Kd.N_mono (ok' := (fun k_ => ((fun k_ => (P1_ k_ ∨ w.heap.size ≤ k_))) k_ ∧ some k_ ≠ (u5 : Value).ownBlock)) (HO119.out) (fun k_ hk => ⟨hk.1, hk.2⟩)))); (case aB => exact (pE HB)); (case aF => exact (fun k_ hk => (.inr (Nat.le_trans (below_size (pE HB)) hk)))); (case aO => exact (by refine pN ?_; exact Kd.N_mono HO_5.out (fun _ hk => hk.1.1))); (case aS => exact (below_size (pE HB))); (case aL => have := LMc14.out; omega); intro v121 w21 ho hb hg hat; rw [← Ny120.out] at ho; replace HO_1 := Aside0.mk (Kd.V_afterv (ok := (fun k_ => (P1_ k_ ∨ w.heap.size ≤ k_) ∧ some k_ ≠ (.slice Ao19 y114.length co19 : Value).ownBlock ∧ some k_ ≠ (.slice Ao22 t117.length co22 : Value).ownBlock)) (by refine pV ?_; exact Kd.V_mono HO_1.out (fun _ hk => ⟨⟨hk.1.1.1, ⟨hk.1.2, hk.2⟩⟩, hk.1.1.2⟩)) hg hat); replace HO116 := Aside0.mk (Kd.R_over' (pR HO116.out) (Kd.N_typed (pN HO_5.out)) (by decide) hg); replace HO119 := Aside0.mk (Kd.N_afterv (ok := (fun k_ => (P1_ k_ ∨ w.heap.size ≤ k_))) (pN HO119.out) hg hat); replace HB := Aside0.mk (hb); have HO122 := Aside0.mk (ho); clear HO_5; clear ho hb hg hat))
         go_roundg k1
         case measure => have := HK1.out; omega
         case rel => exact ⟨(y120), (wrap64 (x6_1 + 1)), (by first | rfl | (simp; done) | (simp [*]; done)), H', ⟨by have := HK1.out; omega⟩, ⟨by (with_reducible repeat (first | apply Kd.V_alloc | apply Kd.V_drewN | apply Kd.V_drew)); exact Kd.V_mono HO_1.out (fun _ hk => ⟨hk.1.1, hk.2⟩)⟩, ⟨by (with_reducible repeat (first | apply Kd.N_alloc | apply Kd.N_drewN | apply Kd.N_drew)); exact HO122.out⟩, ⟨pE HB⟩⟩
        ·rw [if_neg c14] at H
         exact absurd H (by simp)
       ·rw [if_neg c12] at H
        exact absurd H (by simp)
      ·rw [if_neg c11] at H
       exact absurd H (by simp)
    ·rw [if_neg c8] at H
     have c8b0 : decide (x6_1 < a0) = false := decide_eq_false c8
     clear c8
     obtain rfl := Option.some.inj H
     go_wp2
     go_ret
     exact ⟨_, eT, by (with_reducible repeat (first | apply Kd.N_alloc | apply Kd.N_drewN | apply Kd.N_drew)); exact HO_5.out, pE HB⟩
mutual
def walkmillref05_Order.l0 : Nat → List (S36) → Int → List Int → List (List Int) → Int → List (S43) → List Int → Int → Int → Option (List Int × Bool)
 | 0, _, _, _, _, _, _, _, _, _ => none
 | k + 1, x1, x2, x8, x9, x10, x102000, x102001, x102002, x102003 => if x10 < (x102000.length : Int) then ((walkmillref05_Late.f k x102000 x102001 x102002 x102003 x1 x10 x2).bind fun t108 => (if x8.length < 17592186044416 then (walkmillref05_Order.l0 k x1 x2 (x8 ++ [t108]) x9 (wrap64 (x10 + 1)) x102000 x102001 x102002 x102003) else (none))) else (walkmillref05_Order.l1 k x8 x9 0)
def walkmillref05_Order.l1 : Nat → List Int → List (List Int) → Int → Option (List Int × Bool)
 | 0, _, _, _ => none
 | k + 1, x8, x9, x11 => if x11 < (x9.length : Int) then (walkmillref05_Order.l2 k x8 x9 x11 true 0) else (some (([] : List Int), false))
def walkmillref05_Order.l2 : Nat → List Int → List (List Int) → Int → Bool → Int → Option (List Int × Bool)
 | 0, _, _, _, _, _ => none
 | k + 1, x8, x9, x11, x12, x13 => if 0 ≤ x11 then (if x11 < (x9.length : Int) then (if x13 < ((rd_L4 x9 x11).length : Int) then (if x12 = true then (if 0 ≤ x13 then (if 0 ≤ (rd (rd_L4 x9 x11) x13) then (if (rd (rd_L4 x9 x11) x13) < (x8.length : Int) then (walkmillref05_Order.l2 k x8 x9 x11 (decide ((rd x8 (rd (rd_L4 x9 x11) x13)) ≥ x13)) (wrap64 (x13 + 1))) else (none)) else (none)) else (none)) else (walkmillref05_Order.l2 k x8 x9 x11 false (wrap64 (x13 + 1)))) else (if x12 = true then (some (rd_L4 x9 x11, true)) else (walkmillref05_Order.l1 k x8 x9 (wrap64 (x11 + 1))))) else (none)) else (none)
end
def walkmillref05_Order.f (k : Nat) (l0_0 : List (S43)) (l0_1 : List Int) (a0_2 : Int) (a0_3 : Int) (l1 : List (S36)) (a2 : Int) : Option (List Int × Bool) := (walkmillref05_Orders.f k (l0_0.length : Int) ([] : List Int)).bind fun t105 => (walkmillref05_Order.l0 k l1 a2 (([] : List Int)) t105 0 l0_0 l0_1 a0_2 a0_3)
theorem walkmillref05_Order.mono_l : ∀ k, (∀ y0 y1 y2 y3 y4 y5 y6 y7 y8, LeO (walkmillref05_Order.l0 k y0 y1 y2 y3 y4 y5 y6 y7 y8) (walkmillref05_Order.l0 (k + 1) y0 y1 y2 y3 y4 y5 y6 y7 y8)) ∧ (∀ y0 y1 y2, LeO (walkmillref05_Order.l1 k y0 y1 y2) (walkmillref05_Order.l1 (k + 1) y0 y1 y2)) ∧ (∀ y0 y1 y2 y3 y4, LeO (walkmillref05_Order.l2 k y0 y1 y2 y3 y4) (walkmillref05_Order.l2 (k + 1) y0 y1 y2 y3 y4))
 | 0 => ⟨fun _ _ _ _ _ _ _ _ _ r h => by simp [walkmillref05_Order.l0] at h, fun _ _ _ r h => by simp [walkmillref05_Order.l1] at h, fun _ _ _ _ _ r h => by simp [walkmillref05_Order.l2] at h⟩
 | k + 1 => by
  obtain ⟨ih0, ih1, ih2⟩ := walkmillref05_Order.mono_l k
  refine ⟨?_, ?_, ?_⟩
  ·intro y0 y1 y2 y3 y4 y5 y6 y7 y8
   unfold walkmillref05_Order.l0
   repeat' first
   | (with_reducible exact ih0 _ _ _ _ _ _ _ _ _)
   | (with_reducible exact ih1 _ _ _)
   | (with_reducible exact ih2 _ _ _ _ _)
   | (with_reducible exact walkmillref05_Late.mono _ _ _ _ _ _ _ _)
   | (with_reducible exact walkmillref05_Orders.mono _ _ _)
   | (with_reducible exact LeO.refl _)
   | (with_reducible exact LeO.none _)
   | (with_reducible refine LeO.ite ?_ ?_)
   | (with_reducible refine LeO.bind ?_ (fun _ => ?_))
   | exact ih0 _ _ _ _ _ _ _ _ _
   | exact ih1 _ _ _
   | exact ih2 _ _ _ _ _
   | exact walkmillref05_Late.mono _ _ _ _ _ _ _ _
   | exact walkmillref05_Orders.mono _ _ _
   | exact LeO.none _
   | refine LeO.ite ?_ ?_
   | refine LeO.bind ?_ (fun _ => ?_)
  ·intro y0 y1 y2
   unfold walkmillref05_Order.l1
   repeat' first
   | (with_reducible exact ih0 _ _ _ _ _ _ _ _ _)
   | (with_reducible exact ih1 _ _ _)
   | (with_reducible exact ih2 _ _ _ _ _)
   | (with_reducible exact walkmillref05_Late.mono _ _ _ _ _ _ _ _)
   | (with_reducible exact walkmillref05_Orders.mono _ _ _)
   | (with_reducible exact LeO.refl _)
   | (with_reducible exact LeO.none _)
   | (with_reducible refine LeO.ite ?_ ?_)
   | (with_reducible refine LeO.bind ?_ (fun _ => ?_))
   | exact ih0 _ _ _ _ _ _ _ _ _
   | exact ih1 _ _ _
   | exact ih2 _ _ _ _ _
   | exact walkmillref05_Late.mono _ _ _ _ _ _ _ _
   | exact walkmillref05_Orders.mono _ _ _
   | exact LeO.none _
   | refine LeO.ite ?_ ?_
   | refine LeO.bind ?_ (fun _ => ?_)
  ·intro y0 y1 y2 y3 y4
   unfold walkmillref05_Order.l2
   repeat' first
   | (with_reducible exact ih0 _ _ _ _ _ _ _ _ _)
   | (with_reducible exact ih1 _ _ _)
   | (with_reducible exact ih2 _ _ _ _ _)
   | (with_reducible exact walkmillref05_Late.mono _ _ _ _ _ _ _ _)
   | (with_reducible exact walkmillref05_Orders.mono _ _ _)
   | (with_reducible exact LeO.refl _)
   | (with_reducible exact LeO.none _)
   | (with_reducible refine LeO.ite ?_ ?_)
   | (with_reducible refine LeO.bind ?_ (fun _ => ?_))
   | exact ih0 _ _ _ _ _ _ _ _ _
   | exact ih1 _ _ _
   | exact ih2 _ _ _ _ _
   | exact walkmillref05_Late.mono _ _ _ _ _ _ _ _
   | exact walkmillref05_Orders.mono _ _ _
   | exact LeO.none _
   | refine LeO.ite ?_ ?_
   | refine LeO.bind ?_ (fun _ => ?_)
theorem walkmillref05_Order.mono : ∀ a0 a1 a2 a3 a4 a5 k, LeO (walkmillref05_Order.f k a0 a1 a2 a3 a4 a5) (walkmillref05_Order.f (k + 1) a0 a1 a2 a3 a4 a5) := by
 intro a0 a1 a2 a3 a4 a5 k
 obtain ⟨ih0, ih1, ih2⟩ := walkmillref05_Order.mono_l k
 unfold walkmillref05_Order.f
 repeat' first
   | (with_reducible exact ih0 _ _ _ _ _ _ _ _ _)
   | (with_reducible exact ih1 _ _ _)
   | (with_reducible exact ih2 _ _ _ _ _)
   | (with_reducible exact walkmillref05_Late.mono _ _ _ _ _ _ _ _)
   | (with_reducible exact walkmillref05_Orders.mono _ _ _)
   | (with_reducible exact LeO.refl _)
   | (with_reducible exact LeO.none _)
   | (with_reducible refine LeO.ite ?_ ?_)
   | (with_reducible refine LeO.bind ?_ (fun _ => ?_))
   | exact ih0 _ _ _ _ _ _ _ _ _
   | exact ih1 _ _ _
   | exact ih2 _ _ _ _ _
   | exact walkmillref05_Late.mono _ _ _ _ _ _ _ _
   | exact walkmillref05_Orders.mono _ _ _
   | exact LeO.none _
   | refine LeO.ite ?_ ?_
   | refine LeO.bind ?_ (fun _ => ?_)
set_option maxHeartbeats 8000000 in
set_option maxRecDepth 100000 in
theorem walkmillref05_Order.calls (k : Nat) (A0_0 : Option Addr) (c0_0 : Nat) (l0_0 : List (S43)) (A0_1 : Option Addr) (c0_1 : Nat) (l0_1 : List Int) (a0_2 : Int) (a0_3 : Int) (A1 : Option Addr) (c1 : Nat) (l1 : List (S36)) (a2 : Int) (r1 : List Int) (r2 : Bool) (w : World) (hr0_0 : Kd.C k43 w A0_0 l0_0.length l0_0) (hc0_0 : l0_0.length ≤ c0_0) (hr0_1 : Kd.C (Kd.int .i64) w A0_1 l0_1.length l0_1) (hc0_1 : l0_1.length ≤ c0_1) (hr1 : Kd.C k36 w A1 l1.length l1) (hc1 : l1.length ≤ c1) (h : walkmillref05_Order.f k l0_0 l0_1 a0_2 a0_3 l1 a2 = some (r1, r2)) :
  Calls Tryz.prog 40 #[.agg #[.slice A0_0 l0_0.length c0_0, .slice A0_1 l0_1.length c0_1, .int .i64 a0_2, .int .i64 a0_3], .slice A1 l1.length c1, .int .i64 a2] w fun e w' => ∃ v0_ : Value, e = .returned (.tuple #[v0_, .bool r2]) ∧ Kd.V (Kd.int .i64) 3 w' w.heap.size (fun k_ => (w.heap.size ≤ k_)) v0_ r1 ∧ Below w.heap.size w w' := by
 have hu25 := Tryz.underlying25
 have HR0_0 := Aside0.mk hr0_0
 have HC0_0 := Aside0.mk hc0_0
 clear hr0_0 hc0_0
 have HR0_1 := Aside0.mk hr0_1
 have HC0_1 := Aside0.mk hc0_1
 clear hr0_1 hc0_1
 have HR1 := Aside0.mk hr1
 have HC1 := Aside0.mk hc1
 clear hr1 hc1
 have HB := Aside0.mk (Below.refl w.heap.size w)
 have H : ((walkmillref05_Orders.f k (l0_0.length : Int) ([] : List Int)).bind fun t105 => (walkmillref05_Order.l0 k l1 a2 (([] : List Int)) t105 0 l0_0 l0_1 a0_2 a0_3)) = some (r1, r2) := h
 clear h
 obtain ⟨y102, hy102⟩ : ∃ y_ : List Int, y_ = (([] : List Int)) := ⟨_, rfl⟩
 replace H : ((walkmillref05_Orders.f k (l0_0.length : Int) ([] : List Int)).bind fun t105 => (walkmillref05_Order.l0 k l1 a2 y102 t105 0 l0_0 l0_1 a0_2 a0_3)) = some (r1, r2) := yy hy102 H
 have Ny102 := Aside0.mk hy102
 clear hy102
 obtain ⟨t105, A4, H⟩ := bi H
 have H' := Aside0.mk H
 clear H
 go_enter Tryz.func40, Tryz.ntmps40
 go_wp2_with (first | ((with_reducible refine gate_dst (N := 3) rfl ?_); refine bx 3 #[.slice A0_0 l0_0.length c0_0, .slice A0_1 l0_1.length c0_1, .int .i64 a0_2, .int .i64 a0_3] 25 ?_; intro gb101 hg w5 hbox hb; have BK101 := hbox; have GW101 := gs HB hg; have GE101 := gs HB hg; replace HB := bs HB hb; clear hb hbox hg) | ((with_reducible refine gate_dst (N := 14) rfl ?_); refine Kd.R_lit (Kd.int .i64) _ 3 ?hg (N := 14) ?hd (xs := ([] : List Int)) (inner := []) (ok := fun _ => True) (okp := fun _ => True) ?hr ?hp (fun _ hk => hk) trivial (Below.refl _ _) (Nat.le_refl _) (by simp) ?_; (case hd => rfl); (case hg => rfl); (case hr => first | (go_simp; done) | (go_simp; rfl)); (case hp => exact (Reps.none _ _)); intro v103 w6 ho7 hb hg_ hnew_; clear hg_ hnew_; (first | rw [← Ny102.out] at ho7 | (simp only [Int.reduceToNat] at ho7; rw [← Ny102.out] at ho7)); have HO104 := Aside0.mk (Kd.R_lower (Kd.R_newM (M := fun k_ => (w.heap.size ≤ k_)) ho7 (below_size (pE HB)) (fun k_ h_ => h_)) (below_size (pE HB))); replace BK101 := bb BK101 hb; replace HB := bs HB hb; clear hb ho7; obtain ⟨hcz8_0, hcz8_1, hcz8_2, hcz8_3, hfz8_0, hfz8_1, hfz8_2, hfz8_3⟩ := cf4 BK101) | ((with_reducible refine gc 87 rfl ?_); refine gL 18 Tryz.func87 #[.int .i64 (l0_0.length : Int), .slice none 0 0] ?_; (refine (walkmillref05_Orders.calls k (l0_0.length : Int) (fun k_ => False) _ _ ([] : List Int) t105 _ ?side1 A4.out).mono ?_); (case side1 => exact Kd.V_nil _ _ _ _ _); rintro e w9 ⟨v106, rfl, ho0, hb⟩; refine ⟨_, rfl, ?_⟩; have HO107 := Aside0.mk (Kd.N_lower (Kd.N_mono (ok' := fun k_ => (w.heap.size ≤ k_) ∧ some k_ ≠ (v103 : Value).ownBlock ∧ k_ ≠ gb101) ho0 (fun k_ hk_ => ⟨Or.elim hk_ (fun hs_ => (hs_).elim) (fun hn_ => (Nat.le_trans (below_size (pE HB)) hn_)), Or.elim hk_ (fun hs_ => (hs_).elim) (fun hn_ => (Kd.fresh' (Kd.R_lt (pR HO104.out)) k_ hn_)), Or.elim hk_ (fun hs_ => (hs_).elim) (fun hn_ => (Kd.freshB (g := gb101) (o := .cells #[.slice A0_0 l0_0.length c0_0, .slice A0_1 l0_1.length c0_1, .int .i64 a0_2, .int .i64 a0_3] 25 (0, 0)) (pB BK101.out) k_ hn_))⟩)) (below_size (pE HB))); replace HO104 := rb HO104 hb; replace BK101 := bb BK101 hb; replace HB := bs HB hb; clear hb ho0))
 go_loopg [8, 10] k (fun kq v8 v10 w' => ∃ (x8_1 : List Int) (x10_1 : Int), v10 = .int .i64 x10_1 ∧ Aside0 (walkmillref05_Order.l0 kq l1 a2 x8_1 t105 x10_1 l0_0 l0_1 a0_2 a0_3 = some (r1, r2)) ∧ Aside0 (kq ≤ k) ∧ Aside0 (Kd.R (Kd.int .i64) 3 w' w.heap.size (fun k_ => (w.heap.size ≤ k_)) v8 x8_1) ∧ Aside0 (Kd.N (Kd.slice 3 (Kd.int .i64)) 23 w' w.heap.size (fun k_ => (w.heap.size ≤ k_) ∧ some k_ ≠ (v8 : Value).ownBlock ∧ k_ ≠ gb101) v106 t105) ∧ Aside0 (w'.heap[gb101]? = some (.cells #[(.slice A0_0 l0_0.length c0_0), (.slice A0_1 l0_1.length c0_1), .int .i64 a0_2, .int .i64 a0_3] 25 (0, 0))) ∧ Aside0 (Below w.heap.size w w'))
 case atStart => exact ⟨(y102), (0), (by first | rfl | (simp; done) | (simp [*]; done)), H', ⟨Nat.le_refl _⟩, ⟨by (with_reducible repeat (first | apply Kd.R_alloc | apply Kd.R_drewN | apply Kd.R_drew)); exact Kd.R_mono HO104.out (fun _ hk => hk.1)⟩, ⟨by (with_reducible repeat (first | apply Kd.N_alloc | apply Kd.N_drewN | apply Kd.N_drew)); exact HO107.out⟩, ⟨by (with_reducible repeat (first | refine blk_drewN ?_ _ | refine blk_drew ?_ | refine blk_alloc ?_ _)); exact BK101.out⟩, ⟨pE HB⟩⟩
 case round =>
  clear H'
  try clear c1
  try clear p2
  try clear c4
  try clear c8
  try clear hcz8_0
  try clear hcz8_1
  try clear hcz8_2
  try clear hcz8_3
  try clear hfz8_0
  try clear hfz8_1
  try clear hfz8_2
  try clear hfz8_3
  obtain ⟨x8_1, x10_1, rfl, HA, HK1, HO_8, HO_9, BK101, HB⟩ := hrel
  cases gk with
  | zero => exact absurd HA.out (by simp [walkmillref05_Order.l0])
  | succ k1 =>
   have H := HA.out
   clear HA
   simp only [walkmillref05_Order.l0] at H
   by_cases c10 : x10_1 < (l0_0.length : Int)
   ·rw [if_pos c10] at H
    have c10b0 : decide (x10_1 < (l0_0.length : Int)) = true := decide_eq_true c10
    clear c10
    obtain ⟨t108, A11, H⟩ := bi H
    by_cases c12 : x8_1.length < 17592186044416
    ·rw [if_pos c12] at H
     have LMc12 := Aside0.mk c12
     clear c12
     obtain ⟨y109, hy109⟩ : ∃ y_ : List Int, y_ = (x8_1 ++ [t108]) := ⟨_, rfl⟩
     replace H : (walkmillref05_Order.l0 k1 l1 a2 y109 t105 (wrap64 (x10_1 + 1)) l0_0 l0_1 a0_2 a0_3) = some (r1, r2) := yy hy109 H
     have Ny109 := Aside0.mk hy109
     clear hy109
     have H' := Aside0.mk H
     clear H
     obtain ⟨hcz13_0, hcz13_1, hcz13_2, hcz13_3, hfz13_0, hfz13_1, hfz13_2, hfz13_3⟩ := cf4 BK101
     go_wp2_with (first | ((with_reducible refine gc 42 rfl ?_); refine gL 31 Tryz.func42 #[.agg #[.slice A0_0 l0_0.length c0_0, .slice A0_1 l0_1.length c0_1, .int .i64 a0_2, .int .i64 a0_3], .slice A1 l1.length c1, .int .i64 x10_1, .int .i64 a2] ?_; (with_reducible refine (walkmillref05_Late.calls k1 _ _ l0_0 _ _ l0_1 a0_2 a0_3 _ _ l1 x10_1 a2 t108 _ ?side1 ?side2 ?side3 ?side4 ?side5 ?side6 A11.out).mono ?_); (case side1 => exact pC (Kd.C_below HR0_0.out HB.out)); (case side2 => exact HC0_0.out); (case side3 => exact pC (Kd.C_below HR0_1.out HB.out)); (case side4 => exact HC0_1.out); (case side5 => exact pC (Kd.C_below HR1.out HB.out)); (case side6 => exact HC1.out); rintro e w14 ⟨rfl, hb⟩; refine ⟨_, rfl, ?_⟩; replace HO_8 := rb HO_8 hb; replace HO_9 := Aside0.mk (Kd.N_below (pN HO_9.out) hb); replace BK101 := bb BK101 hb; replace HB := bs HB hb; clear hb) | ((with_reducible refine gate_builtin (b := .append) (xs := #[.tmp 26, .tmp 32]) rfl ?_); at_builtin; refine Kd.R_append (Kd.int .i64) (w0 := w) w.heap.size rfl (.tmp 26) (.tmp 32) 23 3 (.int .i64 0) 8 rfl Tryz.underlying23 info3 rfl (by decide) (by omega) u8 x8_1 t108 [.int .i64 t108] (fun k_ => (w.heap.size ≤ k_)) (fun _ => False) rfl rfl ?aP (fun _ hk => hk.elim) ?aF ?aO ?aB ?aS ?aL ?_; (case aP => exact rfl); (case aB => exact (pE HB)); (case aF => exact (fun k_ hk => (Nat.le_trans (below_size (pE HB)) hk))); (case aO => exact (pR HO_8.out)); (case aS => exact (below_size (pE HB))); (case aL => have := LMc12.out; omega); intro v110 w15 ho hb hg hat; rw [← Ny109.out] at ho; replace HO_9 := Aside0.mk (Kd.N_afterv (ok := (fun k_ => (w.heap.size ≤ k_) ∧ k_ ≠ gb101)) (by refine pN ?_; exact Kd.N_mono HO_9.out (fun _ hk => ⟨⟨hk.1, hk.2.2⟩, hk.2.1⟩)) hg hat); replace BK101 := Aside0.mk (blk_grown (g := gb101) (o := .cells #[.slice A0_0 l0_0.length c0_0, .slice A0_1 l0_1.length c0_1, .int .i64 a0_2, .int .i64 a0_3] 25 (0, 0)) (pB BK101.out) hg (Kd.R_ne HO_8.out BK101.out (by decide))); replace HB := Aside0.mk (hb); have HO111 := Aside0.mk (ho); clear HO_8; clear ho hb hg hat))
     go_roundg k1
     case measure => have := HK1.out; omega
     case rel => exact ⟨(y109), (wrap64 (x10_1 + 1)), (by first | rfl | (simp; done) | (simp [*]; done)), H', ⟨by have := HK1.out; omega⟩, ⟨by (with_reducible repeat (first | apply Kd.R_alloc | apply Kd.R_drewN | apply Kd.R_drew)); exact HO111.out⟩, ⟨by (with_reducible repeat (first | apply Kd.N_alloc | apply Kd.N_drewN | apply Kd.N_drew)); exact Kd.N_mono HO_9.out (fun _ hk => ⟨hk.1.1, ⟨hk.2, hk.1.2⟩⟩)⟩, ⟨by (with_reducible repeat (first | refine blk_drewN ?_ _ | refine blk_drew ?_ | refine blk_alloc ?_ _)); exact BK101.out⟩, ⟨pE HB⟩⟩
    ·rw [if_neg c12] at H
     exact absurd H (by simp)
   ·rw [if_neg c10] at H
    have c10b0 : decide (x10_1 < (l0_0.length : Int)) = false := decide_eq_false c10
    clear c10
    have H' := Aside0.mk H
    clear H
    obtain ⟨hcz16_0, hcz16_1, hcz16_2, hcz16_3, hfz16_0, hfz16_1, hfz16_2, hfz16_3⟩ := cf4 BK101
    go_wp2
    go_loopg [11] k1 (fun kq v11 w' => ∃ (x11_2 : Int), v11 = .int .i64 x11_2 ∧ Aside0 (walkmillref05_Order.l1 kq x8_1 t105 x11_2 = some (r1, r2)) ∧ Aside0 (kq ≤ k1) ∧ Aside0 (Kd.R (Kd.int .i64) 3 w' w.heap.size (fun k_ => (w.heap.size ≤ k_)) u8 x8_1) ∧ Aside0 (Kd.N (Kd.slice 3 (Kd.int .i64)) 23 w' w.heap.size (fun k_ => (w.heap.size ≤ k_) ∧ some k_ ≠ (u8 : Value).ownBlock ∧ k_ ≠ gb101) v106 t105) ∧ Aside0 (w'.heap[gb101]? = some (.cells #[(.slice A0_0 l0_0.length c0_0), (.slice A0_1 l0_1.length c0_1), .int .i64 a0_2, .int .i64 a0_3] 25 (0, 0))) ∧ Aside0 (Below w.heap.size w w'))
    case atStart => exact ⟨(0), (by first | rfl | (simp; done) | (simp [*]; done)), H', ⟨Nat.le_refl _⟩, ⟨by (with_reducible repeat (first | apply Kd.R_alloc | apply Kd.R_drewN | apply Kd.R_drew)); exact HO_8.out⟩, ⟨by (with_reducible repeat (first | apply Kd.N_alloc | apply Kd.N_drewN | apply Kd.N_drew)); exact HO_9.out⟩, ⟨by (with_reducible repeat (first | refine blk_drewN ?_ _ | refine blk_drew ?_ | refine blk_alloc ?_ _)); exact BK101.out⟩, ⟨pE HB⟩⟩
    case round =>
     clear H'
     try clear c1
     try clear p2
     try clear c4
     try clear p6
     try clear c8
     try clear c10
     try clear c10b0
     try clear c12
     try clear hcz13_0
     try clear hcz13_1
     try clear hcz13_2
     try clear hcz13_3
     try clear hcz16_0
     try clear hcz16_1
     try clear hcz16_2
     try clear hcz16_3
     try clear hcz8_0
     try clear hcz8_1
     try clear hcz8_2
     try clear hcz8_3
     try clear hfz13_0
     try clear hfz13_1
     try clear hfz13_2
     try clear hfz13_3
     try clear hfz16_0
     try clear hfz16_1
     try clear hfz16_2
     try clear hfz16_3
     try clear hfz8_0
     try clear hfz8_1
     try clear hfz8_2
     try clear hfz8_3
     try clear p2
     obtain ⟨x11_2, rfl, HA, HK2, HO_8, HO_9, BK101, HB⟩ := hrel
     cases gk with
     | zero => exact absurd HA.out (by simp [walkmillref05_Order.l1])
     | succ k2 =>
      have H := HA.out
      clear HA
      simp only [walkmillref05_Order.l1] at H
      by_cases c17 : x11_2 < (t105.length : Int)
      ·rw [if_pos c17] at H
       have c17b0 : decide (x11_2 < (t105.length : Int)) = true := decide_eq_true c17
       clear c17
       have H' := Aside0.mk H
       clear H
       obtain ⟨Ao18, co18, eo18⟩ := Kd.N_slice HO_9.out
       subst eo18
       go_wp2
       go_loopg [12, 13] k2 (fun kq v12 v13 w' => ∃ (x12_3 : Bool) (x13_3 : Int), v12 = .bool x12_3 ∧ v13 = .int .i64 x13_3 ∧ Aside0 (walkmillref05_Order.l2 kq x8_1 t105 x11_2 x12_3 x13_3 = some (r1, r2)) ∧ Aside0 (kq ≤ k2) ∧ Aside0 (Kd.R (Kd.int .i64) 3 w' w.heap.size (fun k_ => (w.heap.size ≤ k_)) u8 x8_1) ∧ Aside0 (Kd.N (Kd.slice 3 (Kd.int .i64)) 23 w' w.heap.size (fun k_ => (w.heap.size ≤ k_) ∧ some k_ ≠ (u8 : Value).ownBlock ∧ k_ ≠ gb101) (.slice Ao18 t105.length co18) t105) ∧ Aside0 (w'.heap[gb101]? = some (.cells #[(.slice A0_0 l0_0.length c0_0), (.slice A0_1 l0_1.length c0_1), .int .i64 a0_2, .int .i64 a0_3] 25 (0, 0))) ∧ Aside0 (Below w.heap.size w w'))
       case atStart => exact ⟨(true), (0), (by first | rfl | (simp; done) | (simp [*]; done)), (by first | rfl | (simp; done) | (simp [*]; done)), H', ⟨Nat.le_refl _⟩, ⟨by (with_reducible repeat (first | apply Kd.R_alloc | apply Kd.R_drewN | apply Kd.R_drew)); exact HO_8.out⟩, ⟨by (with_reducible repeat (first | apply Kd.N_alloc | apply Kd.N_drewN | apply Kd.N_drew)); exact HO_9.out⟩, ⟨by (with_reducible repeat (first | refine blk_drewN ?_ _ | refine blk_drew ?_ | refine blk_alloc ?_ _)); exact BK101.out⟩, ⟨pE HB⟩⟩
       case round =>
        clear H'
        try clear c1
        try clear p2
        try clear c4
        try clear p6
        try clear c8
        try clear c10
        try clear c10b0
        try clear c12
        try clear c17
        try clear c17b0
        try clear hcz13_0
        try clear hcz13_1
        try clear hcz13_2
        try clear hcz13_3
        try clear hcz16_0
        try clear hcz16_1
        try clear hcz16_2
        try clear hcz16_3
        try clear hcz8_0
        try clear hcz8_1
        try clear hcz8_2
        try clear hcz8_3
        try clear hfz13_0
        try clear hfz13_1
        try clear hfz13_2
        try clear hfz13_3
        try clear hfz16_0
        try clear hfz16_1
        try clear hfz16_2
        try clear hfz16_3
        try clear hfz8_0
        try clear hfz8_1
        try clear hfz8_2
        try clear hfz8_3
        try clear p2
        try clear p6
        obtain ⟨x12_3, x13_3, rfl, rfl, HA, HK3, HO_8, HO_9, BK101, HB⟩ := hrel
        cases gk with
        | zero => exact absurd HA.out (by simp [walkmillref05_Order.l2])
        | succ k3 =>
         have H := HA.out
         clear HA
         simp only [walkmillref05_Order.l2] at H
         by_cases c19 : 0 ≤ x11_2
         ·rw [if_pos c19] at H
          have c19b0 : decide (0 ≤ x11_2) = true := decide_eq_true c19
          clear c19
          by_cases c20 : x11_2 < (t105.length : Int)
          ·rw [if_pos c20] at H
           have c20b0 : decide (x11_2 < (t105.length : Int)) = true := decide_eq_true c20
           clear c20
           by_cases c21 : x13_3 < ((rd_L4 t105 x11_2).length : Int)
           ·rw [if_pos c21] at H
            have c21b0 : decide (x13_3 < ((rd_L4 t105 x11_2).length : Int)) = true := decide_eq_true c21
            clear c21
            by_cases c22 : x12_3 = true
            ·subst c22
             rw [if_pos rfl] at H
             by_cases c23 : 0 ≤ x13_3
             ·rw [if_pos c23] at H
              have c23b0 : decide (0 ≤ x13_3) = true := decide_eq_true c23
              clear c23
              by_cases c24 : 0 ≤ (rd (rd_L4 t105 x11_2) x13_3)
              ·rw [if_pos c24] at H
               have c24b0 : decide (0 ≤ (rd (rd_L4 t105 x11_2) x13_3)) = true := decide_eq_true c24
               clear c24
               by_cases c25 : (rd (rd_L4 t105 x11_2) x13_3) < (x8_1.length : Int)
               ·rw [if_pos c25] at H
                have c25b0 : decide ((rd (rd_L4 t105 x11_2) x13_3) < (x8_1.length : Int)) = true := decide_eq_true c25
                clear c25
                have H' := Aside0.mk H
                clear H
                have p112 : 0 ≤ (x11_2 : Int) := dT
                have q112 : x11_2 < (t105.length : Int) := dT
                obtain ⟨ad112, A112_0, c112_0, e112, hx112_0, hl112_0, hi112_0⟩ := at_L4 (Kd.N_reads' HO_9.out).2.2 x11_2 p112 q112
                cases e112
                obtain ⟨ce112, hce112, hMe112, hcc112⟩ := Kd.N_get HO_9.out [] x11_2 p112 (by first | exact q112 | exact dT | (have e_ := (Kd.N_reads' HO_9.out).1; omega))
                obtain ⟨ua112_0, uc112_0, rfl, ul112_0, ge112_0⟩ := Kd.FK_slice_open hMe112
                have hv112_0 := hcc112 0 _ rfl
                rw [Nat.add_zero, show ((Kd.slice 3 (Kd.int .i64))).sz = 1 from rfl, Nat.mul_one] at hv112_0
                replace hv112_0 := Option.some.inj (hv112_0.symm.trans hx112_0)
                injection hv112_0 with hva_ hvn_ hvc_
                rw [hva_] at ge112_0
                rw [hvc_] at ul112_0
                have HL112_0 := Aside0.mk (show Kd.V (Kd.int .i64) 3 _ w.heap.size _ _ (rd_L4 t105 x11_2) from Kd.V_mk ul112_0 ge112_0)
                clear hva_ hvn_ hvc_ ge112_0 ul112_0 hcc112 hce112
                have HR112_0 := Aside0.mk hi112_0
                have HC112_0 := Aside0.mk hl112_0
                clear hi112_0 hl112_0
                replace p112 := eq_true p112
                replace q112 := eq_true q112
                have p113 : 0 ≤ (x11_2 : Int) := dT
                have q113 : x11_2 < (t105.length : Int) := dT
                obtain ⟨ad113, A113_0, c113_0, e113, hx113_0, hl113_0, hi113_0⟩ := at_L4 (Kd.N_reads' HO_9.out).2.2 x11_2 p113 q113
                obtain rfl : ad112 = ad113 := (by injection e113)
                obtain ⟨ce113, hce113, hMe113, hcc113⟩ := Kd.N_get HO_9.out [] x11_2 p113 (by first | exact q113 | exact dT | (have e_ := (Kd.N_reads' HO_9.out).1; omega))
                obtain ⟨ua113_0, uc113_0, rfl, ul113_0, ge113_0⟩ := Kd.FK_slice_open hMe113
                have hv113_0 := hcc113 0 _ rfl
                rw [Nat.add_zero, show ((Kd.slice 3 (Kd.int .i64))).sz = 1 from rfl, Nat.mul_one] at hv113_0
                replace hv113_0 := Option.some.inj (hv113_0.symm.trans hx113_0)
                injection hv113_0 with hva_ hvn_ hvc_
                rw [hva_] at ge113_0
                rw [hvc_] at ul113_0
                have HL113_0 := Aside0.mk (show Kd.V (Kd.int .i64) 3 _ w.heap.size _ _ (rd_L4 t105 x11_2) from Kd.V_mk ul113_0 ge113_0)
                clear hva_ hvn_ hvc_ ge113_0 ul113_0 hcc113 hce113
                have HR113_0 := Aside0.mk hi113_0
                have HC113_0 := Aside0.mk hl113_0
                clear hi113_0 hl113_0
                replace p113 := eq_true p113
                replace q113 := eq_true q113
                have ea_ := Option.some.inj (hx112_0.symm.trans hx113_0)
                injection ea_ with ea_ en_ ec_
                subst ea_
                subst ec_
                clear en_
                have p114 : 0 ≤ (x13_3 : Int) := dT
                have q114 : x13_3 < ((rd_L4 t105 x11_2).length : Int) := dT
                obtain ⟨ad114, e114, hx114_0⟩ := Kd.at_int (by repeat (first | (with_reducible exact HR113_0.out) | (with_reducible refine Kd.C_alloc ?_ _) | (with_reducible refine Kd.C_drewN ?_ _) | (with_reducible refine Kd.C_drew ?_) | exact HR113_0.out)) x13_3 p114 q114
                cases e114
                replace p114 := eq_true p114
                replace q114 := eq_true q114
                obtain ⟨Ao26, co26, eo26⟩ := Kd.R_slice HO_8.out
                subst eo26
                have p115 : 0 ≤ ((rd (rd_L4 t105 x11_2) x13_3) : Int) := dT
                have q115 : (rd (rd_L4 t105 x11_2) x13_3) < (x8_1.length : Int) := dT
                obtain ⟨ad115, e115, hx115_0⟩ := Kd.at_int (Kd.R_reads' HO_8.out).2.2 (rd (rd_L4 t105 x11_2) x13_3) p115 q115
                cases e115
                replace p115 := eq_true p115
                replace q115 := eq_true q115
                go_wp2
                go_roundg k3
                case measure => have := HK1.out; have := HK2.out; have := HK3.out; omega
                case rel => exact ⟨(decide ((rd x8_1 (rd (rd_L4 t105 x11_2) x13_3)) ≥ x13_3)), (wrap64 (x13_3 + 1)), (by first | rfl | (simp; done) | (simp [*]; done)), (by first | rfl | (simp; done) | (simp [*]; done)), H', ⟨by have := HK1.out; have := HK2.out; have := HK3.out; omega⟩, ⟨by (with_reducible repeat (first | apply Kd.R_alloc | apply Kd.R_drewN | apply Kd.R_drew)); exact HO_8.out⟩, ⟨by (with_reducible repeat (first | apply Kd.N_alloc | apply Kd.N_drewN | apply Kd.N_drew)); exact HO_9.out⟩, ⟨by (with_reducible repeat (first | refine blk_drewN ?_ _ | refine blk_drew ?_ | refine blk_alloc ?_ _)); exact BK101.out⟩, ⟨pE HB⟩⟩
               ·rw [if_neg c25] at H
                exact absurd H (by simp)
              ·rw [if_neg c24] at H
               exact absurd H (by simp)
             ·rw [if_neg c23] at H
              exact absurd H (by simp)
            ·replace c22 := Bool.eq_false_iff.mpr c22
             subst c22
             rw [if_neg (show ¬ (false = true) by decide)] at H
             have H' := Aside0.mk H
             clear H
             have p112 : 0 ≤ (x11_2 : Int) := dT
             have q112 : x11_2 < (t105.length : Int) := dT
             obtain ⟨ad112, A112_0, c112_0, e112, hx112_0, hl112_0, hi112_0⟩ := at_L4 (Kd.N_reads' HO_9.out).2.2 x11_2 p112 q112
             cases e112
             obtain ⟨ce112, hce112, hMe112, hcc112⟩ := Kd.N_get HO_9.out [] x11_2 p112 (by first | exact q112 | exact dT | (have e_ := (Kd.N_reads' HO_9.out).1; omega))
             obtain ⟨ua112_0, uc112_0, rfl, ul112_0, ge112_0⟩ := Kd.FK_slice_open hMe112
             have hv112_0 := hcc112 0 _ rfl
             rw [Nat.add_zero, show ((Kd.slice 3 (Kd.int .i64))).sz = 1 from rfl, Nat.mul_one] at hv112_0
             replace hv112_0 := Option.some.inj (hv112_0.symm.trans hx112_0)
             injection hv112_0 with hva_ hvn_ hvc_
             rw [hva_] at ge112_0
             rw [hvc_] at ul112_0
             have HL112_0 := Aside0.mk (show Kd.V (Kd.int .i64) 3 _ w.heap.size _ _ (rd_L4 t105 x11_2) from Kd.V_mk ul112_0 ge112_0)
             clear hva_ hvn_ hvc_ ge112_0 ul112_0 hcc112 hce112
             have HR112_0 := Aside0.mk hi112_0
             have HC112_0 := Aside0.mk hl112_0
             clear hi112_0 hl112_0
             replace p112 := eq_true p112
             replace q112 := eq_true q112
             go_wp2
             go_roundg k3
             case measure => have := HK1.out; have := HK2.out; have := HK3.out; omega
             case rel => exact ⟨(false), (wrap64 (x13_3 + 1)), (by first | rfl | (simp; done) | (simp [*]; done)), (by first | rfl | (simp; done) | (simp [*]; done)), H', ⟨by have := HK1.out; have := HK2.out; have := HK3.out; omega⟩, ⟨by (with_reducible repeat (first | apply Kd.R_alloc | apply Kd.R_drewN | apply Kd.R_drew)); exact HO_8.out⟩, ⟨by (with_reducible repeat (first | apply Kd.N_alloc | apply Kd.N_drewN | apply Kd.N_drew)); exact HO_9.out⟩, ⟨by (with_reducible repeat (first | refine blk_drewN ?_ _ | refine blk_drew ?_ | refine blk_alloc ?_ _)); exact BK101.out⟩, ⟨pE HB⟩⟩
           ·rw [if_neg c21] at H
            have c21b0 : decide (x13_3 < ((rd_L4 t105 x11_2).length : Int)) = false := decide_eq_false c21
            clear c21
            by_cases c27 : x12_3 = true
            ·subst c27
             rw [if_pos rfl] at H
             simp only [Option.some.injEq, Prod.mk.injEq] at H
             obtain ⟨rfl, rfl⟩ := H
             have p112 : 0 ≤ (x11_2 : Int) := dT
             have q112 : x11_2 < (t105.length : Int) := dT
             obtain ⟨ad112, A112_0, c112_0, e112, hx112_0, hl112_0, hi112_0⟩ := at_L4 (Kd.N_reads' HO_9.out).2.2 x11_2 p112 q112
             cases e112
             obtain ⟨ce112, hce112, hMe112, hcc112⟩ := Kd.N_get HO_9.out [] x11_2 p112 (by first | exact q112 | exact dT | (have e_ := (Kd.N_reads' HO_9.out).1; omega))
             obtain ⟨ua112_0, uc112_0, rfl, ul112_0, ge112_0⟩ := Kd.FK_slice_open hMe112
             have hv112_0 := hcc112 0 _ rfl
             rw [Nat.add_zero, show ((Kd.slice 3 (Kd.int .i64))).sz = 1 from rfl, Nat.mul_one] at hv112_0
             replace hv112_0 := Option.some.inj (hv112_0.symm.trans hx112_0)
             injection hv112_0 with hva_ hvn_ hvc_
             rw [hva_] at ge112_0
             rw [hvc_] at ul112_0
             have HL112_0 := Aside0.mk (show Kd.V (Kd.int .i64) 3 _ w.heap.size _ _ (rd_L4 t105 x11_2) from Kd.V_mk ul112_0 ge112_0)
             clear hva_ hvn_ hvc_ ge112_0 ul112_0 hcc112 hce112
             have HR112_0 := Aside0.mk hi112_0
             have HC112_0 := Aside0.mk hl112_0
             clear hi112_0 hl112_0
             replace p112 := eq_true p112
             replace q112 := eq_true q112
             have p116 : 0 ≤ (x11_2 : Int) := dT
             have q116 : x11_2 < (t105.length : Int) := dT
             obtain ⟨ad116, A116_0, c116_0, e116, hx116_0, hl116_0, hi116_0⟩ := at_L4 (Kd.N_reads' HO_9.out).2.2 x11_2 p116 q116
             obtain rfl : ad112 = ad116 := (by injection e116)
             obtain ⟨ce116, hce116, hMe116, hcc116⟩ := Kd.N_get HO_9.out [] x11_2 p116 (by first | exact q116 | exact dT | (have e_ := (Kd.N_reads' HO_9.out).1; omega))
             obtain ⟨ua116_0, uc116_0, rfl, ul116_0, ge116_0⟩ := Kd.FK_slice_open hMe116
             have hv116_0 := hcc116 0 _ rfl
             rw [Nat.add_zero, show ((Kd.slice 3 (Kd.int .i64))).sz = 1 from rfl, Nat.mul_one] at hv116_0
             replace hv116_0 := Option.some.inj (hv116_0.symm.trans hx116_0)
             injection hv116_0 with hva_ hvn_ hvc_
             rw [hva_] at ge116_0
             rw [hvc_] at ul116_0
             have HL116_0 := Aside0.mk (show Kd.V (Kd.int .i64) 3 _ w.heap.size _ _ (rd_L4 t105 x11_2) from Kd.V_mk ul116_0 ge116_0)
             clear hva_ hvn_ hvc_ ge116_0 ul116_0 hcc116 hce116
             have HR116_0 := Aside0.mk hi116_0
             have HC116_0 := Aside0.mk hl116_0
             clear hi116_0 hl116_0
             replace p116 := eq_true p116
             replace q116 := eq_true q116
             have ea_ := Option.some.inj (hx112_0.symm.trans hx116_0)
             injection ea_ with ea_ en_ ec_
             subst ea_
             subst ec_
             clear en_
             go_wp2
             go_ret2
             exact ⟨_, eT, by (with_reducible repeat (first | apply Kd.V_alloc | apply Kd.V_drewN | apply Kd.V_drew)); exact Kd.V_mono HL116_0.out (fun _ hk => hk.1.1), pE HB⟩
            ·replace c27 := Bool.eq_false_iff.mpr c27
             subst c27
             rw [if_neg (show ¬ (false = true) by decide)] at H
             have H' := Aside0.mk H
             clear H
             have p112 : 0 ≤ (x11_2 : Int) := dT
             have q112 : x11_2 < (t105.length : Int) := dT
             obtain ⟨ad112, A112_0, c112_0, e112, hx112_0, hl112_0, hi112_0⟩ := at_L4 (Kd.N_reads' HO_9.out).2.2 x11_2 p112 q112
             cases e112
             obtain ⟨ce112, hce112, hMe112, hcc112⟩ := Kd.N_get HO_9.out [] x11_2 p112 (by first | exact q112 | exact dT | (have e_ := (Kd.N_reads' HO_9.out).1; omega))
             obtain ⟨ua112_0, uc112_0, rfl, ul112_0, ge112_0⟩ := Kd.FK_slice_open hMe112
             have hv112_0 := hcc112 0 _ rfl
             rw [Nat.add_zero, show ((Kd.slice 3 (Kd.int .i64))).sz = 1 from rfl, Nat.mul_one] at hv112_0
             replace hv112_0 := Option.some.inj (hv112_0.symm.trans hx112_0)
             injection hv112_0 with hva_ hvn_ hvc_
             rw [hva_] at ge112_0
             rw [hvc_] at ul112_0
             have HL112_0 := Aside0.mk (show Kd.V (Kd.int .i64) 3 _ w.heap.size _ _ (rd_L4 t105 x11_2) from Kd.V_mk ul112_0 ge112_0)
             clear hva_ hvn_ hvc_ ge112_0 ul112_0 hcc112 hce112
             have HR112_0 := Aside0.mk hi112_0
             have HC112_0 := Aside0.mk hl112_0
             clear hi112_0 hl112_0
             replace p112 := eq_true p112
             replace q112 := eq_true q112
             go_wp2
             go_roundg k3
             case measure => have := HK1.out; have := HK2.out; have := HK3.out; omega
             case rel => exact ⟨(wrap64 (x11_2 + 1)), (by first | rfl | (simp; done) | (simp [*]; done)), H', ⟨by have := HK1.out; have := HK2.out; have := HK3.out; omega⟩, ⟨by (with_reducible repeat (first | apply Kd.R_alloc | apply Kd.R_drewN | apply Kd.R_drew)); exact HO_8.out⟩, ⟨by (with_reducible repeat (first | apply Kd.N_alloc | apply Kd.N_drewN | apply Kd.N_drew)); exact HO_9.out⟩, ⟨by (with_reducible repeat (first | refine blk_drewN ?_ _ | refine blk_drew ?_ | refine blk_alloc ?_ _)); exact BK101.out⟩, ⟨pE HB⟩⟩
          ·rw [if_neg c20] at H
           exact absurd H (by simp)
         ·rw [if_neg c19] at H
          exact absurd H (by simp)
      ·rw [if_neg c17] at H
       have c17b0 : decide (x11_2 < (t105.length : Int)) = false := decide_eq_false c17
       clear c17
       simp only [Option.some.injEq, Prod.mk.injEq] at H
       obtain ⟨rfl, rfl⟩ := H
       obtain ⟨Ao28, co28, eo28⟩ := Kd.N_slice HO_9.out
       subst eo28
       go_wp2
       go_ret2
       exact ⟨_, eT, Kd.V_nil _ _ _ _ _, pE HB⟩
end Go.Proofs.YtikmfpjcdcckeaaGreatDoor.P
namespace Go.Proofs.YtikmfpjcdcckeaaGreatDoor.P
open Go.RowKit Go.Proofs.YtikmfpjcdcckeaaGreatDoorW.PrintWords Go.Proofs.YtikmfpjcdcckeaaGreatDoorW.PrintLast Go.Proofs.YtikmfpjcdcckeaaGreatDoorW.PrintMore
def inR (lt : List Int) (l : List Int) : Prop := ∀ x ∈ l, 0 ≤ x ∧ x < (lt.length : Int)
def smallK (lt : List Int) : Prop := ∀ x : Int, -1000 ≤ rd lt x ∧ rd lt x ≤ 1000
def srt (lt : List Int) (l : List Int) : Prop := l.Pairwise (fun a b => rd lt a ≤ rd lt b)
theorem rd_mid (p q : List Int) (x : Int) : rd (p ++ x :: q) (p.length : Int) = x := by
  unfold rd; simp [List.getD_eq_getElem?_getD]
theorem rd_mid1 (p q : List Int) (u x : Int) : rd (p ++ u :: x :: q) ((p.length + 1 : Nat) : Int) = x := by
  have := rd_mid (p ++ [u]) q x
  simpa using this
theorem swap_mid (u v : Int) (q : List Int) : ∀ p : List Int, ((p ++ u :: v :: q).set (p.length + 1) u).set p.length v = p ++ v :: u :: q
  | [] => rfl
  | a :: p => by simp [swap_mid u v q p]
theorem ins_l1 (lt : List Int) (hk : smallK lt) (b : Int) (r : List Int) (v : Int) (i : Int) : ∀ (m : Nat) (s1 s2 : List Int) (k : Nat), s1.length = m → m < k → (m + s2.length + r.length : Nat) < 1000 → inR lt (s1 ++ v :: (s2 ++ r)) → srt lt (s1 ++ s2) → (∀ y ∈ s2, rd lt v < rd lt y) →
    ∃ (s1' s2' : List Int) (k' : Nat), slices_insertionSortCmpFunc_int_at_tenter_Order_1_1.l1 k (s1 ++ v :: (s2 ++ r)) 0 b i m lt = slices_insertionSortCmpFunc_int_at_tenter_Order_1_1.l0 k' (s1' ++ v :: (s2' ++ r)) 0 b (wrap64 (i + 1)) lt ∧ k ≤ k' + m + 1 ∧ s1' ++ s2' = s1 ++ s2 ∧ (∀ y ∈ s2', rd lt v < rd lt y) ∧ (∀ y ∈ s1', rd lt y ≤ rd lt v)
  | 0, s1, s2, k, hm, hkk, hn, hr, hs, h2 => by
    obtain ⟨k, rfl⟩ : ∃ m, k = m + 1 := ⟨k - 1, by omega⟩
    obtain rfl : s1 = [] := List.eq_nil_of_length_eq_zero hm
    exact ⟨[], s2, k, by rw [slices_insertionSortCmpFunc_int_at_tenter_Order_1_1.l1, if_neg (by omega)], by omega, rfl, h2, fun y hy => (by cases hy)⟩
  | m + 1, s1, s2, k, hm, hkk, hn, hr, hs, h2 => by
    obtain ⟨k, rfl⟩ : ∃ m, k = m + 1 := ⟨k - 1, by omega⟩
    obtain ⟨p, u, rfl⟩ : ∃ p u, s1 = p ++ [u] := by
      have hne : s1 ≠ [] := by intro e; subst e; simp at hm
      exact ⟨s1.dropLast, s1.getLast hne, (List.dropLast_concat_getLast hne).symm⟩
    have hp : p.length = m := by simpa using hm
    subst hp
    have e0 : (p ++ [u]) ++ v :: (s2 ++ r) = p ++ u :: v :: (s2 ++ r) := by simp
    have hu := hr u (by simp)
    have hv := hr v (by simp)
    have ku := hk u
    have kv := hk v
    have ej : wrap64 (((p.length + 1 : Nat) : Int) - 1) = (p.length : Int) := by rw [w64_of (by omega) (by omega)]; omega
    have hlen : ((p ++ u :: v :: (s2 ++ r)).length : Int) = (p.length : Int) + 2 + s2.length + r.length := by simp; omega
    rw [e0, slices_insertionSortCmpFunc_int_at_tenter_Order_1_1.l1, if_pos (by omega), if_pos (by omega), hlen, if_pos (by omega), ej, if_pos (by omega), if_pos (by omega), rd_mid1, rd_mid]
    unfold tenter_Order_1_1.f
    rw [if_pos hv.1, if_pos hv.2, if_pos hu.1, if_pos hu.2, Option.bind_some, w64_of (n := rd lt v - rd lt u) (by omega) (by omega)]
    by_cases hc : rd lt v - rd lt u < 0
    · rw [if_pos hc, Int.toNat_natCast, Int.toNat_natCast, swap_mid]
      have e1 : p ++ v :: u :: (s2 ++ r) = p ++ v :: ((u :: s2) ++ r) := by simp
      rw [e1]
      obtain ⟨s1', s2', k', q1, q2, q3, q4, q5⟩ := ins_l1 lt hk b r v i p.length p (u :: s2) k rfl (by omega) (by simp; omega) (fun x hx => hr x (by simp at hx ⊢; rcases hx with h | h | h | h | h <;> simp [h])) (by simpa using hs) (fun y hy => by
        rcases List.mem_cons.1 hy with rfl | hy
        · omega
        · exact h2 y hy)
      exact ⟨s1', s2', k', q1, by omega, by rw [q3]; simp, q4, q5⟩
    · rw [if_neg hc]
      refine ⟨p ++ [u], s2, k, by rw [e0], by omega, rfl, h2, fun y hy => ?_⟩
      rcases List.mem_append.1 hy with hy | hy
      · have : srt lt (p ++ [u]) := List.Pairwise.sublist (List.sublist_append_left _ _) hs
        have := (List.pairwise_append.1 this).2.2 y hy u (by simp)
        omega
      · obtain rfl := List.mem_singleton.1 hy; omega
theorem ins_l0 (lt : List Int) (hk : smallK lt) : ∀ (d : Nat) (s r : List Int) (k : Nat), r.length = d → 20 * d < k → s.length + d ≤ 15 → inR lt (s ++ r) → srt lt s →
    ∃ ys, slices_insertionSortCmpFunc_int_at_tenter_Order_1_1.l0 k (s ++ r) 0 ((s.length + d : Nat) : Int) s.length lt = some ys ∧ ys.Perm (s ++ r) ∧ srt lt ys
  | 0, s, r, k, hd, hkk, hn, hr, hs => by
    obtain ⟨k, rfl⟩ : ∃ m, k = m + 1 := ⟨k - 1, by omega⟩
    obtain rfl : r = [] := List.eq_nil_of_length_eq_zero hd
    exact ⟨s ++ [], by rw [slices_insertionSortCmpFunc_int_at_tenter_Order_1_1.l0, if_neg (by omega)], List.Perm.refl _, by simpa using hs⟩
  | d + 1, s, r, k, hd, hkk, hn, hr, hs => by
    obtain ⟨k, rfl⟩ : ∃ m, k = m + 1 := ⟨k - 1, by omega⟩
    obtain ⟨v, r, rfl⟩ : ∃ v r', r = v :: r' := by cases r with | nil => cases hd | cons v r => exact ⟨v, r, rfl⟩
    have hrl : r.length = d := by simpa using hd
    rw [slices_insertionSortCmpFunc_int_at_tenter_Order_1_1.l0, if_pos (by omega)]
    obtain ⟨s1, s2, k', q1, q2, q3, q4, q5⟩ := ins_l1 lt hk ((s.length + (d + 1) : Nat) : Int) r v s.length s.length s [] k rfl (by omega) (by simp; omega) (by simpa using hr) (by simpa using hs) (fun y hy => (by cases hy))
    rw [List.nil_append] at q1
    rw [q1, nx s.length (by omega)]
    rw [List.append_nil] at q3
    have hl : (s1 ++ v :: s2).length = s.length + 1 := by rw [← q3]; simp; omega
    have hp1 : (s1 ++ v :: s2 ++ r).Perm (s ++ v :: r) := by
      rw [← q3, List.append_assoc, List.append_assoc]
      refine List.Perm.append_left s1 ?_
      rw [List.cons_append]
      exact List.perm_middle.symm
    have hs' : srt lt (s1 ++ v :: s2) := by
      rw [← q3] at hs
      obtain ⟨a1, a2, a3⟩ := List.pairwise_append.1 hs
      refine List.pairwise_append.2 ⟨a1, List.pairwise_cons.2 ⟨fun y hy => Int.le_of_lt (q4 y hy), a2⟩, fun x hx y hy => ?_⟩
      rcases List.mem_cons.1 hy with rfl | hy
      · exact q5 x hx
      · exact a3 x hx y hy
    obtain ⟨ys, y1, y2, y3⟩ := ins_l0 lt hk d (s1 ++ v :: s2) r k' hrl (by have := congrArg List.length q3; simp at this; omega) (by omega) (fun x hx => hr x (hp1.mem_iff.1 hx)) hs'
    refine ⟨ys, ?_, y2.trans hp1, y3⟩
    rw [hl] at y1
    rw [show s1 ++ v :: (s2 ++ r) = s1 ++ v :: s2 ++ r by simp, show s.length + (d + 1) = s.length + 1 + d by omega]
    exact y1
theorem len_some (k : Nat) (a : Int) : ∃ L, bits_Len.f (k + 1) a = some L := by
  have j : ∀ x n : Int, ∃ L, bits_Len64.j0 (k + 1) x n = some L := by
    intro x n
    have m0 : ∀ y : Int, 0 ≤ y % 256 := fun y => by omega
    have m1 : ∀ y : Int, y % 256 < 256 := fun y => by omega
    rw [bits_Len64.j0]
    split
    · split <;> (rw [if_pos (m0 _), if_pos (m1 _)]; exact ⟨_, rfl⟩)
    · split <;> (rw [if_pos (m0 _), if_pos (m1 _)]; exact ⟨_, rfl⟩)
  unfold bits_Len.f bits_Len64.f
  split
  · obtain ⟨L, e⟩ := j (a / 4294967296) 32
    exact ⟨L, by rw [e]; rfl⟩
  · obtain ⟨L, e⟩ := j a 0
    exact ⟨L, by rw [e]; rfl⟩
theorem sort_ok (lt : List Int) (hk : smallK lt) (l : List Int) (k : Nat) (hl : l.length ≤ 10) (hkk : 300 < k) (hr : inR lt l) :
    ∃ ys, slices_SortFunc_int_int_at_tenter_Order_1_1.f k l lt = some ys ∧ ys.Perm l ∧ srt lt ys := by
  obtain ⟨k, rfl⟩ : ∃ m, k = m + 1 := ⟨k - 1, by omega⟩
  obtain ⟨L, eL⟩ := len_some k (IntKind.u64.wrap (l.length : Int))
  have key : ∃ ys, slices_insertionSortCmpFunc_int_at_tenter_Order_1_1.f k l 0 (l.length : Int) lt = some ys ∧ ys.Perm l ∧ srt lt ys := by
    unfold slices_insertionSortCmpFunc_int_at_tenter_Order_1_1.f
    rw [show wrap64 (0 + 1) = 1 by rw [w64_of (by omega) (by omega)]; rfl]
    cases l with
    | nil =>
      obtain ⟨k, rfl⟩ : ∃ m, k = m + 1 := ⟨k - 1, by omega⟩
      exact ⟨[], by rw [slices_insertionSortCmpFunc_int_at_tenter_Order_1_1.l0, if_neg (by simp)], List.Perm.refl _, List.Pairwise.nil⟩
    | cons v r =>
      have := ins_l0 lt hk r.length [v] r k rfl (by simp at hl; omega) (by simp at hl ⊢; omega) hr (List.pairwise_singleton _ _)
      simpa [Nat.add_comm] using this
  obtain ⟨ys, y1, y2, y3⟩ := key
  refine ⟨ys, ?_, y2, y3⟩
  unfold slices_SortFunc_int_int_at_tenter_Order_1_1.f slices_pdqsortCmpFunc_int_at_tenter_Order_1_1.f
  rw [eL, Option.bind_some, slices_pdqsortCmpFunc_int_at_tenter_Order_1_1.l0, w64_of (n := (l.length : Int) - 0) (by omega) (by omega), if_pos (by omega), y1]
  rfl
def Feas (lt : List Int) (h : Int) (S : List Int) : Prop := ∃ p : List Int, p.Perm S ∧ ∀ (i : Nat) (hi : i < p.length), h + i ≤ rd lt p[i]
theorem feas_sorted (lt : List Int) (h : Int) (S ys : List Int) (hp : ys.Perm S) (hs : srt lt ys) : Feas lt h S ↔ ∀ (i : Nat) (hi : i < ys.length), h + i ≤ rd lt ys[i] := by
  constructor
  · rintro ⟨p, pS, pk⟩ i hi
    have hpy : p.Perm ys := pS.trans hp.symm
    let q : Int → Bool := fun x => decide (rd lt x ≤ rd lt ys[i])
    have c1 : i + 1 ≤ ys.countP q := by
      have e : ys.countP q = (ys.take (i + 1)).countP q + (ys.drop (i + 1)).countP q := by rw [← List.countP_append, List.take_append_drop]
      have a : (ys.take (i + 1)).countP q = (ys.take (i + 1)).length := by
        rw [List.countP_eq_length]
        intro x hx
        obtain ⟨j, hj, rfl⟩ := List.getElem_of_mem hx
        simp only [List.length_take] at hj
        rw [List.getElem_take]
        simp only [q, decide_eq_true_eq]
        rcases Nat.lt_or_ge j i with hji | hji
        · exact List.pairwise_iff_getElem.1 hs j i (by omega) hi hji
        · obtain rfl : j = i := by omega
          exact Int.le_refl _
      rw [List.length_take] at a
      omega
    have c2 : p.countP q = ys.countP q := hpy.countP_eq q
    have e : p.countP q = (p.take i).countP q + (p.drop i).countP q := by rw [← List.countP_append, List.take_append_drop]
    have a : (p.take i).countP q ≤ i := Nat.le_trans List.countP_le_length (by rw [List.length_take]; omega)
    have b : 0 < (p.drop i).countP q := by omega
    obtain ⟨x, hx, hq⟩ := List.countP_pos_iff.1 b
    obtain ⟨j, hj, rfl⟩ := List.getElem_of_mem hx
    rw [List.getElem_drop] at hq
    have := pk (i + j) (by rw [List.length_drop] at hj; omega)
    simp only [q, decide_eq_true_eq] at hq
    omega
  · exact fun hh => ⟨ys, hp, hh⟩
theorem can_l (lt : List Int) (hk : smallK lt) (ys : List Int) (hr : inR lt ys) (hl : ys.length ≤ 10) (h : Int) (h0 : 0 ≤ h) (h1 : h ≤ 100) : ∀ (d i k : Nat), i + d = ys.length → d < k →
    ∃ b, tenter_Order_1.l0 k h ys (ys.length : Int) i lt = some b ∧ (b = true ↔ ∀ (j : Nat) (hj : j < ys.length), i ≤ j → h + j ≤ rd lt ys[j])
  | 0, i, k, hd, hkk => by
    obtain ⟨k, rfl⟩ : ∃ m, k = m + 1 := ⟨k - 1, by omega⟩
    exact ⟨true, by rw [tenter_Order_1.l0, if_neg (by omega)], by simp; intro j hj hij; omega⟩
  | d + 1, i, k, hd, hkk => by
    obtain ⟨k, rfl⟩ : ∃ m, k = m + 1 := ⟨k - 1, by omega⟩
    have hi : i < ys.length := by omega
    have hy := hr ys[i] (List.getElem_mem _)
    rw [tenter_Order_1.l0, if_pos (by omega), if_pos (by omega), if_pos (by omega), rd_at ys i hi, if_pos hy.1, if_pos hy.2, w64_of (n := h + (i : Int)) (by omega) (by omega)]
    by_cases hc : rd lt ys[i] < h + (i : Int)
    · refine ⟨false, by rw [if_pos hc], ?_⟩
      simp only [Bool.false_eq_true, false_iff]
      intro hh
      have := hh i hi (Nat.le_refl _)
      omega
    · obtain ⟨b, e1, e2⟩ := can_l lt hk ys hr hl h h0 h1 d (i + 1) k (by omega) (by omega)
      refine ⟨b, by rw [if_neg hc, nx i (by omega)]; exact e1, e2.trans ⟨fun hh j hj hij => ?_, fun hh j hj hij => hh j hj (by omega)⟩⟩
      by_cases e : j = i
      · subst e; omega
      · exact hh j hj (by omega)
theorem clone_eq (l : List Int) (h : l.length ≤ 1000) : slices_Clone_int_int.f l = some l := by
  unfold slices_Clone_int_int.f
  simp only [Option.bind_some, List.nil_append, List.length_nil, Nat.zero_add]
  rw [if_pos (by omega)]
theorem can_eq (lt : List Int) (hk : smallK lt) (S : List Int) (hr : inR lt S) (hl : S.length ≤ 10) (h : Int) (h0 : 0 ≤ h) (h1 : h ≤ 100) (k : Nat) (hkk : 300 < k) :
    ∃ b, tenter_Order_1.f k h S lt = some b ∧ (b = true ↔ Feas lt h S) := by
  obtain ⟨ys, y1, y2, y3⟩ := sort_ok lt hk S k hl hkk hr
  have hyl : ys.length = S.length := y2.length_eq
  obtain ⟨b, b1, b2⟩ := can_l lt hk ys (fun x hx => hr x (y2.mem_iff.1 hx)) (by omega) h h0 h1 ys.length 0 k (by omega) (by omega)
  refine ⟨b, ?_, b2.trans ((feas_sorted lt h S ys y2 y3).trans ⟨fun hh j hj _ => hh j hj, fun hh j hj => hh j hj (Nat.zero_le _)⟩).symm⟩
  unfold tenter_Order_1.f
  rw [clone_eq S (by omega), Option.bind_some, y1, Option.bind_some, ← hyl]
  exact b1
def rng (n : Nat) : List Int := (List.range n).map (fun i : Nat => (i : Int))
theorem mem_rng {n : Nat} {x : Int} : x ∈ rng n ↔ 0 ≤ x ∧ x < (n : Int) := by
  unfold rng
  simp only [List.mem_map, List.mem_range]
  constructor
  · rintro ⟨i, h, rfl⟩; omega
  · exact fun h => ⟨x.toNat, by omega, by omega⟩
theorem rng_length (n : Nat) : (rng n).length = n := by simp [rng]
theorem rng_getElem (n i : Nat) (h : i < (rng n).length) : (rng n)[i] = (i : Int) := by simp [rng]
theorem rng_nodup (n : Nat) : (rng n).Nodup := by
  unfold rng
  refine List.nodup_iff_pairwise_ne.2 (List.pairwise_map.2 ?_)
  exact (List.nodup_iff_pairwise_ne.1 List.nodup_range).imp (fun h e => h (by omega))
def ordL (n : Nat) : Nat → List Int → List (List Int)
  | 0, b => [b]
  | d + 1, b => (rng n).flatMap fun i => if i ∈ b then [] else ordL n d (b ++ [i])
theorem ordL_len (n : Nat) : ∀ (d : Nat) (b : List Int), (ordL n d b).length ≤ n ^ d
  | 0, b => by simp [ordL]
  | d + 1, b => by
    have key : ∀ l : List Int, (l.flatMap fun i => if i ∈ b then [] else ordL n d (b ++ [i])).length ≤ l.length * n ^ d := by
      intro l
      induction l with
      | nil => simp
      | cons x r ih =>
        rw [List.flatMap_cons, List.length_append, List.length_cons, Nat.succ_mul]
        have : (if x ∈ b then [] else ordL n d (b ++ [x])).length ≤ n ^ d := by
          split
          · simp
          · exact ordL_len n d _
        omega
    have := key (rng n)
    rw [rng_length] at this
    rw [ordL, Nat.pow_succ, Nat.mul_comm]
    exact this
theorem has_l (b : List Int) (x : Int) (hb : b.length ≤ 1000) : ∀ (d i k : Nat), i + d = b.length → d < k → walkmillref05_Has.l0 k b x i = some (decide (x ∈ b.drop i))
  | 0, i, k, hd, hk => by
    obtain ⟨k, rfl⟩ : ∃ m, k = m + 1 := ⟨k - 1, by omega⟩
    rw [walkmillref05_Has.l0, if_neg (by omega), List.drop_of_length_le (by omega)]; simp
  | d + 1, i, k, hd, hk => by
    obtain ⟨k, rfl⟩ : ∃ m, k = m + 1 := ⟨k - 1, by omega⟩
    have hi : i < b.length := by omega
    rw [walkmillref05_Has.l0, if_pos (by omega), if_pos (by omega), rd_at b i hi, List.drop_eq_getElem_cons hi]
    by_cases h : b[i] = x
    · rw [if_pos h]; simp [h]
    · rw [if_neg h, nx i (by omega), has_l b x hb d (i + 1) k (by omega) (by omega)]
      have : ¬ x = b[i] := fun e => h e.symm
      simp only [List.mem_cons, this, false_or]
theorem has_eq (b : List Int) (x : Int) (hb : b.length ≤ 1000) (k : Nat) (hk : b.length < k) : walkmillref05_Has.f k b x = some (decide (x ∈ b)) := by
  unfold walkmillref05_Has.f
  have := has_l b x hb b.length 0 k (by omega) hk
  simpa using this
theorem pow_bd (n d : Nat) (hn : n ≤ 7) (hd : d ≤ 7) : n ^ d ≤ 7 ^ 7 :=
  Nat.le_trans (Nat.pow_le_pow_left hn d) (Nat.pow_le_pow_right (by omega) hd)
theorem pow7 : ∃ M : Nat, (∀ n d : Nat, n ≤ 7 → d ≤ 7 → n ^ d ≤ M) ∧ M ≤ 900000 := ⟨7 ^ 7, pow_bd, by decide⟩
theorem orders_eq (n M : Nat) (hn : n ≤ 7) (hM : ∀ n d : Nat, n ≤ 7 → d ≤ 7 → n ^ d ≤ M) (hM2 : M ≤ 900000) : ∀ (d : Nat) (b : List Int) (k : Nat), b.length + d = n → (d + 1) * 10 + 20 < k → walkmillref05_Orders.f k (n : Int) b = some (ordL n d b)
  | 0, b, k, hb, hk => by
    obtain ⟨k, rfl⟩ : ∃ m, k = m + 1 := ⟨k - 1, by omega⟩
    rw [walkmillref05_Orders.f, if_pos (by omega), ordL]
  | d + 1, b, k, hb, hk => by
    obtain ⟨k, rfl⟩ : ∃ m, k = m + 1 := ⟨k - 1, by omega⟩
    have loop : ∀ (e i k : Nat) (acc : List (List Int)), i + e = n → (d + 1) * 10 + 20 + e < k → acc.length ≤ i * M →
        walkmillref05_Orders.l0 k (n : Int) b acc i = some (acc ++ ((rng n).drop i).flatMap fun i => if i ∈ b then [] else ordL n d (b ++ [i])) := by
      intro e
      induction e with
      | zero =>
        intro i k acc hi hk ha
        obtain ⟨k, rfl⟩ : ∃ m, k = m + 1 := ⟨k - 1, by omega⟩
        rw [walkmillref05_Orders.l0, if_neg (by omega), List.drop_of_length_le (by rw [rng_length]; omega)]; simp
      | succ e ih =>
        intro i k acc hi hk ha
        obtain ⟨k, rfl⟩ : ∃ m, k = m + 1 := ⟨k - 1, by omega⟩
        have hir : i < (rng n).length := by rw [rng_length]; omega
        have i7 : i * M ≤ 7 * M := Nat.mul_le_mul_right _ (by omega)
        have i8 : (i + 1) * M = i * M + M := Nat.succ_mul _ _
        rw [walkmillref05_Orders.l0, if_pos (by omega), has_eq b i (by omega) k (by omega), Option.bind_some, List.drop_eq_getElem_cons hir, rng_getElem, List.flatMap_cons]
        by_cases hm : (i : Int) ∈ b
        · rw [show decide ((i : Int) ∈ b) = true by simpa using hm, if_pos rfl, nx i (by omega), ih (i + 1) k acc (by omega) (by omega) (by omega), if_pos hm, List.nil_append]
        · rw [show decide ((i : Int) ∈ b) = false by simpa using hm, if_neg (by simp), if_neg hm]
          simp only [Option.bind_some, List.nil_append, List.length_nil, Nat.zero_add]
          have hl := ordL_len n d (b ++ [(i : Int)])
          have hp := hM n d hn (by omega)
          rw [if_pos (by omega), if_pos (by omega), orders_eq n M hn hM hM2 d (b ++ [(i : Int)]) k (by simp; omega) (by omega), Option.bind_some, if_pos (by omega), nx i (by omega), ih (i + 1) k _ (by omega) (by omega) (by rw [List.length_append]; omega), List.append_assoc]
    rw [walkmillref05_Orders.f, if_neg (by omega)]
    have := loop n 0 k [] (by omega) (by omega) (by simp)
    rw [ordL]
    simpa using this
def okFrom (lt : List Int) : Nat → List Int → Bool
  | _, [] => true
  | i, x :: r => decide ((i : Int) ≤ rd lt x) && okFrom lt (i + 1) r
theorem okFrom_iff (lt : List Int) : ∀ (p : List Int) (h : Nat), okFrom lt h p = true ↔ ∀ (i : Nat) (hi : i < p.length), ((h : Int) + i ≤ rd lt p[i])
  | [], h => by simp [okFrom]
  | x :: r, h => by
    rw [okFrom, Bool.and_eq_true, decide_eq_true_eq, okFrom_iff lt r (h + 1)]
    constructor
    · rintro ⟨h1, h2⟩ i hi
      cases i with
      | zero => simpa using h1
      | succ i =>
        have := h2 i (by simpa using hi)
        simp only [List.getElem_cons_succ]
        omega
    · intro hh
      refine ⟨by have := hh 0 (by simp); simpa using this, fun i hi => ?_⟩
      have := hh (i + 1) (by simpa using hi)
      simp only [List.getElem_cons_succ] at this
      omega
theorem rl2 (lt : List Int) (all : List (List Int)) (j : Nat) (hj : j < all.length) (hp : inR lt all[j]) (hl : all[j].length ≤ 10) : ∀ (d i k : Nat) (c : Bool), i + d = all[j].length → d < k →
    ∃ k', walkmillref05_Order.l2 k lt all j c i = (if (c && okFrom lt i (all[j].drop i)) = true then some (all[j], true) else walkmillref05_Order.l1 k' lt all (wrap64 ((j : Int) + 1))) ∧ k ≤ k' + d + 1
  | 0, i, k, c, hd, hk => by
    obtain ⟨k, rfl⟩ : ∃ m, k = m + 1 := ⟨k - 1, by omega⟩
    have e : rd_L4 all (j : Int) = all[j] := by unfold rd_L4; simp [List.getD_eq_getElem?_getD, List.getElem?_eq_getElem hj]
    refine ⟨k, ?_, by omega⟩
    rw [walkmillref05_Order.l2, if_pos (by omega), if_pos (by omega), e, if_neg (by omega), List.drop_of_length_le (by omega), okFrom, Bool.and_true]
  | d + 1, i, k, c, hd, hk => by
    obtain ⟨k, rfl⟩ : ∃ m, k = m + 1 := ⟨k - 1, by omega⟩
    have e : rd_L4 all (j : Int) = all[j] := by unfold rd_L4; simp [List.getD_eq_getElem?_getD, List.getElem?_eq_getElem hj]
    have hi : i < all[j].length := by omega
    have hx := hp _ (List.getElem_mem hi)
    rw [walkmillref05_Order.l2, if_pos (by omega), if_pos (by omega), e, if_pos (by omega), rd_at _ i hi, if_pos (show (0 : Int) ≤ (i : Int) by omega), if_pos hx.1, if_pos hx.2, nx i (by omega), List.drop_eq_getElem_cons hi, okFrom]
    cases c with
    | true =>
      rw [if_pos rfl]
      obtain ⟨k', q1, q2⟩ := rl2 lt all j hj hp hl d (i + 1) k (decide (rd lt all[j][i] ≥ (i : Int))) (by omega) (by omega)
      exact ⟨k', by rw [q1]; simp [GE.ge], by omega⟩
    | false =>
      rw [if_neg (by simp)]
      obtain ⟨k', q1, q2⟩ := rl2 lt all j hj hp hl d (i + 1) k false (by omega) (by omega)
      exact ⟨k', by rw [q1]; simp, by omega⟩
theorem rl1 (lt : List Int) (all : List (List Int)) (hp : ∀ p ∈ all, inR lt p ∧ p.length ≤ 10) (ha : all.length ≤ 900000) : ∀ (d j k : Nat), j + d = all.length → 20 * (d + 1) < k →
    walkmillref05_Order.l1 k lt all j = some (match (all.drop j).find? (okFrom lt 0) with | some p => (p, true) | none => ([], false))
  | 0, j, k, hd, hk => by
    obtain ⟨k, rfl⟩ : ∃ m, k = m + 1 := ⟨k - 1, by omega⟩
    rw [walkmillref05_Order.l1, if_neg (by omega), List.drop_of_length_le (by omega)]; rfl
  | d + 1, j, k, hd, hk => by
    obtain ⟨k, rfl⟩ : ∃ m, k = m + 1 := ⟨k - 1, by omega⟩
    have hj : j < all.length := by omega
    have hpj := hp _ (List.getElem_mem hj)
    rw [walkmillref05_Order.l1, if_pos (by omega)]
    obtain ⟨k', q1, q2⟩ := rl2 lt all j hj hpj.1 hpj.2 all[j].length 0 k true (by omega) (by omega)
    rw [show ((0 : Nat) : Int) = 0 from rfl] at q1
    rw [q1, List.drop_zero, Bool.true_and, List.drop_eq_getElem_cons hj, List.find?_cons]
    cases hc : okFrom lt 0 all[j] with
    | true => rw [if_pos rfl]
    | false =>
      rw [if_neg (by simp), nx j (by omega)]
      exact rl1 lt all hp ha d (j + 1) k' (by omega) (by omega)
def leftOf (n : Nat) (b : List Int) : List Int := (rng n).filter (fun i => decide (i ∉ b))
theorem leftOf_nodup (n : Nat) (b : List Int) : (leftOf n b).Nodup := (rng_nodup n).sublist List.filter_sublist
theorem leftOf_snoc (n : Nat) (b : List Int) (c : Int) : leftOf n (b ++ [c]) = (leftOf n b).erase c := by
  rw [(leftOf_nodup n b).erase_eq_filter, leftOf, leftOf, List.filter_filter]
  refine List.filter_congr fun x _ => ?_
  simp only [List.mem_append, List.mem_singleton, not_or, bne_iff_ne, ne_eq, Bool.decide_and]
  rw [Bool.and_comm]
  by_cases h : x = c <;> simp [h]
theorem mem_ordL (n : Nat) : ∀ (d : Nat) (b q : List Int), (leftOf n b).length = d → (q ∈ ordL n d b ↔ ∃ t : List Int, q = b ++ t ∧ t.Perm (leftOf n b))
  | 0, b, q, hd => by
    have : leftOf n b = [] := List.eq_nil_of_length_eq_zero hd
    rw [ordL, List.mem_singleton, this]
    constructor
    · rintro rfl; exact ⟨[], by simp, List.Perm.refl _⟩
    · rintro ⟨t, rfl, ht⟩; rw [ht.eq_nil]; simp
  | d + 1, b, q, hd => by
    rw [ordL, List.mem_flatMap]
    have hlen : ∀ i, i ∈ leftOf n b → (leftOf n (b ++ [i])).length = d := fun i hi => by
      rw [leftOf_snoc, List.length_erase_of_mem hi]; omega
    constructor
    · rintro ⟨i, hi, hq⟩
      split at hq
      · cases hq
      · rename_i hib
        have him : i ∈ leftOf n b := by unfold leftOf; simp [hi, hib]
        obtain ⟨t, rfl, ht⟩ := (mem_ordL n d (b ++ [i]) q (hlen i him)).1 hq
        rw [leftOf_snoc] at ht
        exact ⟨i :: t, by simp, List.cons_perm_iff_perm_erase.2 ⟨him, ht⟩⟩
    · rintro ⟨t, rfl, ht⟩
      cases t with
      | nil => have := ht.length_eq; rw [hd] at this; cases this
      | cons i t =>
        obtain ⟨him, ht'⟩ := List.cons_perm_iff_perm_erase.1 ht
        have hi' := him
        unfold leftOf at hi'
        simp only [List.mem_filter, decide_eq_true_eq] at hi'
        refine ⟨i, hi'.1, ?_⟩
        rw [if_neg hi'.2]
        exact (mem_ordL n d (b ++ [i]) _ (hlen i him)).2 ⟨t, by simp, by rw [leftOf_snoc]; exact ht'⟩
theorem okFrom_append (lt : List Int) : ∀ (a c : List Int) (h : Nat), okFrom lt h (a ++ c) = (okFrom lt h a && okFrom lt (h + a.length) c)
  | [], c, h => by simp [okFrom]
  | x :: r, c, h => by
    rw [List.cons_append, okFrom, okFrom, okFrom_append lt r c (h + 1), List.length_cons, Bool.and_assoc]
    congr 3
    omega
theorem find_none_iff (lt : List Int) (n d : Nat) (b : List Int) (hd : (leftOf n b).length = d) : (ordL n d b).find? (okFrom lt 0) = none ↔ ¬ (okFrom lt 0 b = true ∧ Feas lt b.length (leftOf n b)) := by
  rw [List.find?_eq_none]
  constructor
  · rintro hh ⟨h1, p, p1, p2⟩
    refine hh (b ++ p) ((mem_ordL n d b _ hd).2 ⟨p, rfl, p1⟩) ?_
    rw [okFrom_append, h1, Bool.true_and, Nat.zero_add, okFrom_iff]
    exact p2
  · intro hh q hq hok
    obtain ⟨t, rfl, ht⟩ := (mem_ordL n d b _ hd).1 hq
    rw [okFrom_append, Bool.and_eq_true, Nat.zero_add, okFrom_iff lt t] at hok
    exact hh ⟨hok.1, t, ht, hok.2⟩
theorem findSome_skip {α : Type} (b : List Int) (g : Int → Option α) : ∀ l : List Int, (l.findSome? fun i => if i ∈ b then none else g i) = (l.filter (fun i => decide (i ∉ b))).findSome? g
  | [] => rfl
  | x :: r => by
    rw [List.findSome?_cons, findSome_skip b g r, List.filter_cons]
    by_cases h : x ∈ b
    · simp [h]
    · simp [h, List.findSome?_cons]
theorem find_step (lt : List Int) (n d : Nat) (b : List Int) : (ordL n (d + 1) b).find? (okFrom lt 0) = (leftOf n b).findSome? fun c => (ordL n d (b ++ [c])).find? (okFrom lt 0) := by
  rw [ordL, List.find?_flatMap, leftOf, ← findSome_skip]
  congr 1
  funext i
  split <;> simp
theorem delete_eq (l : List Int) (i : Nat) (h : i < l.length) (hl : l.length ≤ 1000) : slices_Delete_int_int.f l i (wrap64 ((i : Int) + 1)) = some (l.eraseIdx i) := by
  unfold slices_Delete_int_int.f
  rw [if_pos rfl, nx i (by omega), if_neg (by omega), if_pos (by omega), if_pos (by omega), if_pos (by omega), if_pos (by omega)]
  simp
theorem erase_get {l : List Int} (h : l.Nodup) {j : Nat} (hj : j < l.length) : l.erase l[j] = l.eraseIdx j := by
  induction l generalizing j with
  | nil => simp at hj
  | cons x l ih =>
    rw [List.nodup_cons] at h
    cases j with
    | zero => simp
    | succ j =>
      have hj' : j < l.length := by simpa using hj
      rw [List.getElem_cons_succ, List.eraseIdx_cons_succ, List.erase_cons_tail, ih h.2 hj']
      have : x ≠ l[j] := fun e => h.1 (by rw [e]; exact List.getElem_mem hj')
      simpa using this
def pickP (lt : List Int) (h : Nat) (left : List Int) (j : Nat) : Prop := ∃ hj : j < left.length, (h : Int) ≤ rd lt left[j] ∧ Feas lt ((h + 1 : Nat) : Int) (left.eraseIdx j)
theorem order_l2 (lt : List Int) (hk : smallK lt) (left l : List Int) (hr : inR lt left) (hl : left.length ≤ 8) (hll : l.length ≤ 100) (h n : Nat) (hh : h ≤ 50) : ∀ (d i k : Nat), i + d = left.length → 320 + d < k → (∀ j, j < i → ¬ pickP lt h left j) → (∃ j, pickP lt h left j) →
    ∃ (j k' : Nat) (hj : j < left.length), pickP lt h left j ∧ (∀ j', j' < j → ¬ pickP lt h left j') ∧ k ≤ k' + d + 1 ∧
      tenter_Order.l2 k l left h n h left (left.length : Int) i lt = tenter_Order.l1 k' (l ++ [left[j]]) (left.eraseIdx j) n (wrap64 ((h : Int) + 1)) lt
  | 0, i, k, hd, hkk, hno, hex => by
    obtain ⟨j, hj⟩ := hex
    exact absurd hj (hno j (by have := hj.1; omega))
  | d + 1, i, k, hd, hkk, hno, hex => by
    obtain ⟨k, rfl⟩ : ∃ m, k = m + 1 := ⟨k - 1, by omega⟩
    have hi : i < left.length := by omega
    have hx := hr left[i] (List.getElem_mem _)
    have hS : inR lt (left.eraseIdx i) := fun x hx => hr x (List.mem_of_mem_eraseIdx hx)
    have hSl : (left.eraseIdx i).length ≤ 10 := by rw [List.length_eraseIdx]; split <;> omega
    obtain ⟨b, b1, b2⟩ := can_eq lt hk (left.eraseIdx i) hS hSl ((h + 1 : Nat) : Int) (by omega) (by omega) k (by omega)
    rw [tenter_Order.l2, if_pos (by omega), if_pos (by omega), if_pos (by omega), clone_eq left (by omega), Option.bind_some, delete_eq left i hi (by omega), Option.bind_some, rd_at left i hi, if_pos hx.1, if_pos hx.2, nx h (by omega), nx i (by omega)]
    have again : ¬ pickP lt h left i → ∃ (j k' : Nat) (hj : j < left.length), pickP lt h left j ∧ (∀ j', j' < j → ¬ pickP lt h left j') ∧ k + 1 ≤ k' + (d + 1) + 1 ∧
        tenter_Order.l2 k l left h n h left (left.length : Int) ((i + 1 : Nat) : Int) lt = tenter_Order.l1 k' (l ++ [left[j]]) (left.eraseIdx j) n ((h + 1 : Nat) : Int) lt := fun hni => by
      obtain ⟨j, k', hj, q1, q2, q3, q4⟩ := order_l2 lt hk left l hr hl hll h n hh d (i + 1) k (by omega) (by omega) (fun j hj => by
        by_cases e : j = i
        · subst e; exact hni
        · exact hno j (by omega)) hex
      exact ⟨j, k', hj, q1, q2, by omega, by rw [q4, nx h (by omega)]⟩
    by_cases hc : rd lt left[i] ≥ (h : Int)
    · rw [if_pos hc, b1, Option.bind_some]
      cases b with
      | true =>
        rw [if_pos rfl]
        simp only [Option.bind_some, List.length_cons, List.length_nil]
        rw [if_pos (by omega)]
        exact ⟨i, k, hi, ⟨hi, hc, b2.1 rfl⟩, hno, by omega, rfl⟩
      | false =>
        rw [if_neg (by simp)]
        exact again (fun ⟨_, _, hf⟩ => by have := b2.2 hf; cases this)
    · rw [if_neg hc]
      exact again (fun ⟨_, h1, _⟩ => hc h1)
theorem feas_pick (lt : List Int) (h : Nat) (left : List Int) (hnd : left.Nodup) (hne : left ≠ []) (hf : Feas lt h left) : ∃ j, pickP lt h left j := by
  obtain ⟨p, p1, p2⟩ := hf
  cases p with
  | nil => exact absurd p1.symm.eq_nil hne
  | cons c p =>
    obtain ⟨hc, hp⟩ := List.cons_perm_iff_perm_erase.1 p1
    obtain ⟨j, hj, rfl⟩ := List.getElem_of_mem hc
    refine ⟨j, hj, by have := p2 0 (by simp); simpa using this, p, ?_, fun i hi => ?_⟩
    · rw [← erase_get hnd hj]; exact hp
    · have := p2 (i + 1) (by simpa using hi)
      simp only [List.getElem_cons_succ] at this
      omega
theorem findSome_first {α : Type} (g : Int → Option α) (l : List Int) (j : Nat) (hj : j < l.length) (hno : ∀ j' (h : j' < j), g (l[j']'(by omega)) = none) {r : α} (hr : g l[j] = some r) : l.findSome? g = some r := by
  induction l generalizing j with
  | nil => simp at hj
  | cons x l ih =>
    cases j with
    | zero => simp at hr; simp [hr]
    | succ j =>
      have h0 := hno 0 (by omega)
      simp at h0
      rw [List.findSome?_cons, h0]
      exact ih j (by simpa using hj) (fun j' h => by have := hno (j' + 1) (by omega); simpa using this) (by simpa using hr)
theorem order_l1 (lt : List Int) (hk : smallK lt) (n : Nat) (hn : lt.length = n) (hn8 : n ≤ 8) : ∀ (d : Nat) (b : List Int) (k : Nat), (leftOf n b).length = d → b.length + d = n → 20 * (d + 1) + 330 < k → okFrom lt 0 b = true → Feas lt b.length (leftOf n b) →
    ∃ q, tenter_Order.l1 k b (leftOf n b) n b.length lt = some (q, 0) ∧ (ordL n d b).find? (okFrom lt 0) = some q
  | 0, b, k, hd, hb, hkk, hok, hf => by
    obtain ⟨k, rfl⟩ : ∃ m, k = m + 1 := ⟨k - 1, by omega⟩
    exact ⟨b, by rw [tenter_Order.l1, if_neg (by omega)], by rw [ordL, List.find?_cons, hok]⟩
  | d + 1, b, k, hd, hb, hkk, hok, hf => by
    obtain ⟨k, rfl⟩ : ∃ m, k = m + 1 := ⟨k - 1, by omega⟩
    have hnd := leftOf_nodup n b
    have hne : leftOf n b ≠ [] := by intro e; rw [e] at hd; cases hd
    have hr : inR lt (leftOf n b) := fun x hx => by
      unfold leftOf at hx
      have := mem_rng.1 (List.mem_filter.1 hx).1
      omega
    obtain ⟨j, k', hj, q1, q2, q3, q4⟩ := order_l2 lt hk (leftOf n b) b hr (by omega) (by omega) b.length n (by omega) (d + 1) 0 k (by omega) (by omega) (fun j hj => by omega) (feas_pick lt b.length (leftOf n b) hnd hne hf)
    have eid : ∀ j (hj : j < (leftOf n b).length), (leftOf n b).eraseIdx j = leftOf n (b ++ [(leftOf n b)[j]]) := fun j hj => by rw [leftOf_snoc, erase_get hnd hj]
    have hlen : ∀ j (hj : j < (leftOf n b).length), (leftOf n (b ++ [(leftOf n b)[j]])).length = d := fun j hj => by rw [← eid j hj, List.length_eraseIdx, if_pos hj]; omega
    have okS : ∀ c : Int, okFrom lt 0 (b ++ [c]) = true ↔ (b.length : Int) ≤ rd lt c := fun c => by
      rw [okFrom_append, hok, Bool.true_and, Nat.zero_add, okFrom, okFrom, Bool.and_true, decide_eq_true_eq]
    have pf : ∀ j (hj : j < (leftOf n b).length), pickP lt b.length (leftOf n b) j ↔ okFrom lt 0 (b ++ [(leftOf n b)[j]]) = true ∧ Feas lt (b ++ [(leftOf n b)[j]]).length (leftOf n (b ++ [(leftOf n b)[j]])) := fun j hj => by
      rw [okS, ← eid j hj, List.length_append]
      exact ⟨fun ⟨_, h1, h2⟩ => ⟨h1, h2⟩, fun ⟨h1, h2⟩ => ⟨hj, h1, h2⟩⟩
    rw [tenter_Order.l1, if_pos (by omega)]
    rw [show ((0 : Nat) : Int) = 0 from rfl] at q4
    rw [q4, nx b.length (by omega), eid j hj]
    obtain ⟨p1, p2⟩ := (pf j hj).1 q1
    obtain ⟨q, r1, r2⟩ := order_l1 lt hk n hn hn8 d (b ++ [(leftOf n b)[j]]) k' (hlen j hj) (by simp; omega) (by omega) p1 p2
    rw [show (b ++ [(leftOf n b)[j]]).length = b.length + 1 by simp] at r1
    refine ⟨q, r1, ?_⟩
    rw [find_step]
    refine findSome_first _ _ j hj (fun j' hj' => ?_) r2
    have hj2 : j' < (leftOf n b).length := by omega
    rw [find_none_iff lt n d _ (hlen j' hj2)]
    exact fun hh => q2 j' hj' ((pf j' hj2).2 hh)
def lates (cl : List S43) (w : List S36) (rain : Int) : List Int := (rng cl.length).map fun i => lateA cl w i rain
theorem lates_length (cl : List S43) (w : List S36) (rain : Int) : (lates cl w rain).length = cl.length := by simp [lates, rng_length]
theorem leftOf_nil (n : Nat) : leftOf n [] = rng n := by unfold leftOf; simp
def orderA (cl : List S43) (w : List S36) (rain : Int) : Option (List Int) := (ordL cl.length cl.length []).find? (okFrom (lates cl w rain) 0)
theorem lates_small (cl : List S43) (fr : List Int) (g s : Int) (w : List S36) (rain : Int) (hh : wx cl fr g s w rain = 0) : smallK (lates cl w rain) := by
  obtain ⟨hc, h1, h2, h3, h4, h5⟩ := wx_ok hh
  obtain ⟨r, rfl⟩ : ∃ r : Nat, rain = r := ⟨rain.toNat, by omega⟩
  intro x
  unfold rd
  rw [List.getD_eq_getElem?_getD]
  by_cases hx : x.toNat < (lates cl w r).length
  · rw [List.getElem?_eq_getElem hx, Option.getD_some]
    have ex : (lates cl w r)[x.toNat] = lateA cl w (x.toNat : Nat) r := by simp only [lates, List.getElem_map, rng_getElem]
    rw [ex]
    rw [lates_length] at hx
    have ch := late_char w (fun y hy => (h3 y hy).1) cl[x.toNat] r (by omega)
    simp only at ch
    unfold lateA
    rw [rd43_at cl x.toNat hx, Int.toNat_natCast]
    omega
  · rw [List.getElem?_eq_none (by omega), Option.getD_none]; omega
theorem rng_snoc (n : Nat) : rng (n + 1) = rng n ++ [(n : Int)] := by unfold rng; rw [List.range_succ, List.map_append]; rfl
theorem tOrder_l0 (cl : List S43) (fr : List Int) (g s : Int) (w : List S36) (rain : Int) (hh : wx cl fr g s w rain = 0) : ∀ (d i k : Nat), i + d = cl.length → 120 + d < k →
    ∃ k', tenter_Order.l0 k rain (rng i) (cl.length : Int) i cl fr g s cl fr g s w ((rng i).map fun i => lateA cl w i rain) = tenter_Order.l0 k' rain (rng cl.length) (cl.length : Int) (cl.length : Int) cl fr g s cl fr g s w (lates cl w rain) ∧ k ≤ k' + d
  | 0, i, k, hd, hk => by
    obtain rfl : i = cl.length := by omega
    exact ⟨k, rfl, by omega⟩
  | d + 1, i, k, hd, hk => by
    obtain ⟨k, rfl⟩ : ∃ m, k = m + 1 := ⟨k - 1, by omega⟩
    obtain ⟨hc, h1, h2, h3, h4, h5⟩ := wx_ok hh
    have hn := (chk_ok hc).1
    have hi : i < cl.length := by omega
    obtain ⟨r, rfl⟩ : ∃ r : Nat, rain = r := ⟨rain.toNat, by omega⟩
    have hw := cloth_water ((chk_ok hc).2.2.2.1 cl[i] (List.getElem_mem _))
    have e : tenter_forecast_late.f k cl fr g s w i (r : Int) = some (lateA cl w i r) := by
      unfold tenter_forecast_late.f lateA
      rw [if_pos (by omega), if_pos (by omega), rd43_at cl i hi, tLate_l cl fr g s w (by omega) (fun x hx => by have := h3 x hx; omega) r k _ (by omega) (by omega) (by omega) (by omega)]
      simp
    rw [tenter_Order.l0, if_pos (by omega), e]
    simp only [Option.bind_some, List.length_map, rng_length, List.length_cons, List.length_nil]
    rw [if_pos (by omega), if_pos (by omega), nx i (by omega), ← rng_snoc]
    obtain ⟨k', q1, q2⟩ := tOrder_l0 cl fr g s w r hh d (i + 1) k (by omega) (by omega)
    refine ⟨k', ?_, by omega⟩
    rw [← q1]
    congr 1
    rw [rng_snoc, List.map_append]; rfl
def ordR : Option (List Int) → List Int × Int
  | some q => (q, 0)
  | none => ([], 9)
def ordB : Option (List Int) → List Int × Bool
  | some q => (q, true)
  | none => ([], false)
theorem tOrder_eq (k : Nat) (cl : List S43) (fr : List Int) (g s : Int) (w : List S36) (rain : Int) (hk : 1000 < k) :
    tenter_Order.f k cl fr g s w rain = some (if wx cl fr g s w rain = 0 then ordR (orderA cl w rain) else ([], wx cl fr g s w rain)) := by
  unfold tenter_Order.f
  rw [newForecast_eq]
  simp only [Option.bind_some]
  by_cases hh : wx cl fr g s w rain = 0
  · rw [if_pos hh, if_pos hh]
    have hn := (chk_ok (wx_ok hh).1).1
    obtain ⟨k', q1, q2⟩ := tOrder_l0 cl fr g s w rain hh cl.length 0 k (by omega) (by omega)
    rw [show rng 0 = [] from rfl, List.map_nil, show ((0 : Nat) : Int) = 0 from rfl] at q1
    rw [q1]
    obtain ⟨k', rfl⟩ : ∃ m, k' = m + 1 := ⟨k' - 1, by omega⟩
    have hsm := lates_small cl fr g s w rain hh
    have hll := lates_length cl w rain
    have hr : inR (lates cl w rain) (rng cl.length) := fun x hx => by have := mem_rng.1 hx; omega
    obtain ⟨b, b1, b2⟩ := can_eq (lates cl w rain) hsm (rng cl.length) hr (by rw [rng_length]; omega) 0 (by omega) (by omega) k' (by omega)
    rw [tenter_Order.l0, if_neg (by omega), b1, Option.bind_some]
    have hd : (leftOf cl.length []).length = cl.length := by rw [leftOf_nil, rng_length]
    cases b with
    | true =>
      rw [if_pos rfl]
      obtain ⟨q, r1, r2⟩ := order_l1 (lates cl w rain) hsm cl.length hll (by omega) cl.length [] k' hd (by simp) (by omega) rfl (by rw [leftOf_nil]; exact b2.1 rfl)
      rw [leftOf_nil] at r1
      rw [show orderA cl w rain = some q from r2]
      exact r1
    | false =>
      rw [if_neg (by simp)]
      have : orderA cl w rain = none := (find_none_iff (lates cl w rain) cl.length cl.length [] hd).2 (fun ⟨_, hf⟩ => by
        rw [leftOf_nil] at hf
        have := b2.2 hf; cases this)
      rw [this]; rfl
  · rw [if_neg hh, if_neg hh]
end Go.Proofs.YtikmfpjcdcckeaaGreatDoor.P
