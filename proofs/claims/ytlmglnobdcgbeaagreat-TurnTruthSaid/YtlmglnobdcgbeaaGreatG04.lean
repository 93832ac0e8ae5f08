/- Part 4 of what the law's proof needs: words, walks of functions and plain facts. -/
import Derived.Test.YtlmglnobdcgbeaaGreatG01
import Derived.Test.YtlmglnobdcgbeaaGreatG03
set_option linter.unusedVariables false
set_option linter.unusedSimpArgs false
namespace Go.Proofs.YtlmglnobdcgbeaaGreat.P
open Go.RowKit Go.Proofs.YtlmglnobdcgbeaaGreatW.PrintWords Go.Proofs.YtlmglnobdcgbeaaGreatW.PrintLast Go.Proofs.YtlmglnobdcgbeaaGreatW.PrintMore
attribute [local go_sem] max2_int min2_int max_two min_two max_three min_three max_four min_four
mutual
def aA2.l0 : Nat → Int → Int → Int → List (S126) → Int → List Int → List Int → Option ((List (S67)) × List Int)
 | 0, _, _, _, _, _, _, _ => none
 | k + 1, x4, x5, x6, aQ, aZ, bE, bF => if x6 < x4 then (if bF.length < 17592186044416 then (aA2.l0 k x4 x5 (wrap64 (x6 + 1)) aQ aZ bE (bF ++ [x6])) else (none)) else (aA2.l1 k x4 x5 0 aQ aZ bE bF)
def aA2.l1 : Nat → Int → Int → Int → List (S126) → Int → List Int → List Int → Option ((List (S67)) × List Int)
 | 0, _, _, _, _, _, _, _ => none
 | k + 1, x4, x5, x7, aQ, aZ, bE, bF => if x7 < (bE.length : Int) then (aA2.j2 k x4 x5 x7 (decide (x7 < 4)) aQ aZ bE bF) else (aA2.j2 k x4 x5 x7 false aQ aZ bE bF)
def aA2.j2 : Nat → Int → Int → Int → Bool → List (S126) → Int → List Int → List Int → Option ((List (S67)) × List Int)
 | 0, _, _, _, _, _, _, _, _ => none
 | k + 1, x4, x5, x7, x39, aQ, aZ, bE, bF => if x39 = true then (if x4 = 0 then (none) else (if 0 ≤ x7 then (if x7 < (bE.length : Int) then (if 0 ≤ (Int.tmod x7 x4) then (if (Int.tmod x7 x4) < (bF.length : Int) then (if 0 ≤ (Int.tmod (wrap64 (rd bE x7)) x4) then (if (Int.tmod (wrap64 (rd bE x7)) x4) < (bF.length : Int) then (aA2.l1 k x4 x5 (wrap64 (x7 + 1)) aQ aZ bE ((bF.set ((Int.tmod x7 x4) : Int).toNat (rd bF (Int.tmod (wrap64 (rd bE x7)) x4))).set ((Int.tmod (wrap64 (rd bE x7)) x4) : Int).toNat (rd bF (Int.tmod x7 x4)))) else (none)) else (none)) else (none)) else (none)) else (none)) else (none))) else (aA2.l2 k x4 x5 0 aQ aZ bE ([] : List (S67)) bF)
def aA2.l2 : Nat → Int → Int → Int → List (S126) → Int → List Int → List (S67) → List Int → Option ((List (S67)) × List Int)
 | 0, _, _, _, _, _, _, _, _ => none
 | k + 1, x4, x5, x11, aQ, aZ, bE, cP, bF => if x11 < (aQ.length : Int) then (aA2.j4 k x4 x5 x11 (decide (x11 < 8)) aQ aZ bE cP bF) else (aA2.j4 k x4 x5 x11 false aQ aZ bE cP bF)
def aA2.j4 : Nat → Int → Int → Int → Bool → List (S126) → Int → List Int → List (S67) → List Int → Option ((List (S67)) × List Int)
 | 0, _, _, _, _, _, _, _, _, _ => none
 | k + 1, x4, x5, x11, x80, aQ, aZ, bE, cP, bF => if x80 = true then (if 0 ≤ x11 then (if x11 < (aQ.length : Int) then (if (Int.tmod ((aA9 aQ x11).f1) 3) = 0 then (if x4 = 0 then (none) else ((aC5.f (wrap64 (1 + (Int.tmod (wrap64 ((aA9 aQ x11).f2)) 15))) (mn 20 (wrap64 ((wrap64 (1 + (Int.tmod (wrap64 ((aA9 aQ x11).f2)) 15))) + (Int.tmod (wrap64 ((aA9 aQ x11).f3)) 5))))).bind fun bt114 => (if cP.length < 4398046511104 then (aA2.l2 k x4 (wrap64 (x5 + (Int.tmod (wrap64 ((aA9 aQ x11).f1)) 20))) (wrap64 (x11 + 1)) aQ aZ bE (cP ++ [(⟨Int.tmod (wrap64 ((aA9 aQ x11).f0)) x4, wrap64 (x5 + (Int.tmod (wrap64 ((aA9 aQ x11).f1)) 20)), (⟨bt114.1, bt114.2⟩ : S42)⟩ : S67)]) bF) else (none)))) else (if x4 = 0 then (none) else ((aC5.f (wrap64 (1 + (Int.tmod (wrap64 ((aA9 aQ x11).f2)) 15))) (mn 20 (wrap64 ((wrap64 (1 + (Int.tmod (wrap64 ((aA9 aQ x11).f2)) 15))) + (Int.tmod (wrap64 ((aA9 aQ x11).f3)) 5))))).bind fun bt119 => (if cP.length < 4398046511104 then (aA2.l2 k x4 x5 (wrap64 (x11 + 1)) aQ aZ bE (cP ++ [(⟨Int.tmod (wrap64 ((aA9 aQ x11).f0)) x4, x5, (⟨bt119.1, bt119.2⟩ : S42)⟩ : S67)]) bF) else (none))))) else (none)) else (none)) else (some (cP, bF))
end
def aA2.f (k : Nat) (aC : List (S126)) (aW : Int) (bJ : List Int) : Option ((List (S67)) × List Int) := aA2.l0 k (wrap64 (1 + (Int.tmod (wrap64 (aW)) 4))) 0 0 aC aW bJ ([] : List Int)
theorem aA2.mono_l : ∀ k, (∀ y0 y1 y2 y3 y4 y5 y6, LeO (aA2.l0 k y0 y1 y2 y3 y4 y5 y6) (aA2.l0 (k + 1) y0 y1 y2 y3 y4 y5 y6)) ∧ (∀ y0 y1 y2 y3 y4 y5 y6, LeO (aA2.l1 k y0 y1 y2 y3 y4 y5 y6) (aA2.l1 (k + 1) y0 y1 y2 y3 y4 y5 y6)) ∧ (∀ y0 y1 y2 y3 y4 y5 y6 y7, LeO (aA2.j2 k y0 y1 y2 y3 y4 y5 y6 y7) (aA2.j2 (k + 1) y0 y1 y2 y3 y4 y5 y6 y7)) ∧ (∀ y0 y1 y2 y3 y4 y5 y6 y7, LeO (aA2.l2 k y0 y1 y2 y3 y4 y5 y6 y7) (aA2.l2 (k + 1) y0 y1 y2 y3 y4 y5 y6 y7)) ∧ (∀ y0 y1 y2 y3 y4 y5 y6 y7 y8, LeO (aA2.j4 k y0 y1 y2 y3 y4 y5 y6 y7 y8) (aA2.j4 (k + 1) y0 y1 y2 y3 y4 y5 y6 y7 y8))
 | 0 => ⟨fun _ _ _ _ _ _ _ r h => by simp [aA2.l0] at h, fun _ _ _ _ _ _ _ r h => by simp [aA2.l1] at h, fun _ _ _ _ _ _ _ _ r h => by simp [aA2.j2] at h, fun _ _ _ _ _ _ _ _ r h => by simp [aA2.l2] at h, fun _ _ _ _ _ _ _ _ _ r h => by simp [aA2.j4] at h⟩
 | k + 1 => by
  obtain ⟨ih0, ih1, ih2, ih3, ih4⟩ := aA2.mono_l k
  refine ⟨?_, ?_, ?_, ?_, ?_⟩
  ·intro y0 y1 y2 y3 y4 y5 y6
   unfold aA2.l0
   repeat' first
   | (with_reducible exact ih0 _ _ _ _ _ _ _)
   | (with_reducible exact ih1 _ _ _ _ _ _ _)
   | (with_reducible exact ih2 _ _ _ _ _ _ _ _)
   | (with_reducible exact ih3 _ _ _ _ _ _ _ _)
   | (with_reducible exact ih4 _ _ _ _ _ _ _ _ _)
   | (with_reducible exact LeO.refl _)
   | (with_reducible exact LeO.none _)
   | (with_reducible refine LeO.ite ?_ ?_)
   | (with_reducible refine LeO.bind ?_ (fun _ => ?_))
   | exact ih0 _ _ _ _ _ _ _
   | exact ih1 _ _ _ _ _ _ _
   | exact ih2 _ _ _ _ _ _ _ _
   | exact ih3 _ _ _ _ _ _ _ _
   | exact ih4 _ _ _ _ _ _ _ _ _
   | exact LeO.none _
   | refine LeO.ite ?_ ?_
   | refine LeO.bind ?_ (fun _ => ?_)
  ·intro y0 y1 y2 y3 y4 y5 y6
   unfold aA2.l1
   repeat' first
   | (with_reducible exact ih0 _ _ _ _ _ _ _)
   | (with_reducible exact ih1 _ _ _ _ _ _ _)
   | (with_reducible exact ih2 _ _ _ _ _ _ _ _)
   | (with_reducible exact ih3 _ _ _ _ _ _ _ _)
   | (with_reducible exact ih4 _ _ _ _ _ _ _ _ _)
   | (with_reducible exact LeO.refl _)
   | (with_reducible exact LeO.none _)
   | (with_reducible refine LeO.ite ?_ ?_)
   | (with_reducible refine LeO.bind ?_ (fun _ => ?_))
   | exact ih0 _ _ _ _ _ _ _
   | exact ih1 _ _ _ _ _ _ _
   | exact ih2 _ _ _ _ _ _ _ _
   | exact ih3 _ _ _ _ _ _ _ _
   | exact ih4 _ _ _ _ _ _ _ _ _
   | exact LeO.none _
   | refine LeO.ite ?_ ?_
   | refine LeO.bind ?_ (fun _ => ?_)
  ·intro y0 y1 y2 y3 y4 y5 y6 y7
   unfold aA2.j2
   repeat' first
   | (with_reducible exact ih0 _ _ _ _ _ _ _)
   | (with_reducible exact ih1 _ _ _ _ _ _ _)
   | (with_reducible exact ih2 _ _ _ _ _ _ _ _)
   | (with_reducible exact ih3 _ _ _ _ _ _ _ _)
   | (with_reducible exact ih4 _ _ _ _ _ _ _ _ _)
   | (with_reducible exact LeO.refl _)
   | (with_reducible exact LeO.none _)
   | (with_reducible refine LeO.ite ?_ ?_)
   | (with_reducible refine LeO.bind ?_ (fun _ => ?_))
   | exact ih0 _ _ _ _ _ _ _
   | exact ih1 _ _ _ _ _ _ _
   | exact ih2 _ _ _ _ _ _ _ _
   | exact ih3 _ _ _ _ _ _ _ _
   | exact ih4 _ _ _ _ _ _ _ _ _
   | exact LeO.none _
   | refine LeO.ite ?_ ?_
   | refine LeO.bind ?_ (fun _ => ?_)
  ·intro y0 y1 y2 y3 y4 y5 y6 y7
   unfold aA2.l2
   repeat' first
   | (with_reducible exact ih0 _ _ _ _ _ _ _)
   | (with_reducible exact ih1 _ _ _ _ _ _ _)
   | (with_reducible exact ih2 _ _ _ _ _ _ _ _)
   | (with_reducible exact ih3 _ _ _ _ _ _ _ _)
   | (with_reducible exact ih4 _ _ _ _ _ _ _ _ _)
   | (with_reducible exact LeO.refl _)
   | (with_reducible exact LeO.none _)
   | (with_reducible refine LeO.ite ?_ ?_)
   | (with_reducible refine LeO.bind ?_ (fun _ => ?_))
   | exact ih0 _ _ _ _ _ _ _
   | exact ih1 _ _ _ _ _ _ _
   | exact ih2 _ _ _ _ _ _ _ _
   | exact ih3 _ _ _ _ _ _ _ _
   | exact ih4 _ _ _ _ _ _ _ _ _
   | exact LeO.none _
   | refine LeO.ite ?_ ?_
   | refine LeO.bind ?_ (fun _ => ?_)
  ·intro y0 y1 y2 y3 y4 y5 y6 y7 y8
   unfold aA2.j4
   repeat' first
   | (with_reducible exact ih0 _ _ _ _ _ _ _)
   | (with_reducible exact ih1 _ _ _ _ _ _ _)
   | (with_reducible exact ih2 _ _ _ _ _ _ _ _)
   | (with_reducible exact ih3 _ _ _ _ _ _ _ _)
   | (with_reducible exact ih4 _ _ _ _ _ _ _ _ _)
   | (with_reducible exact LeO.refl _)
   | (with_reducible exact LeO.none _)
   | (with_reducible refine LeO.ite ?_ ?_)
   | (with_reducible refine LeO.bind ?_ (fun _ => ?_))
   | exact ih0 _ _ _ _ _ _ _
   | exact ih1 _ _ _ _ _ _ _
   | exact ih2 _ _ _ _ _ _ _ _
   | exact ih3 _ _ _ _ _ _ _ _
   | exact ih4 _ _ _ _ _ _ _ _ _
   | exact LeO.none _
   | refine LeO.ite ?_ ?_
   | refine LeO.bind ?_ (fun _ => ?_)
theorem aA2.mono : ∀ a0 a1 a2 k, LeO (aA2.f k a0 a1 a2) (aA2.f (k + 1) a0 a1 a2) := by
 intro a0 a1 a2 k
 obtain ⟨ih0, ih1, ih2, ih3, ih4⟩ := aA2.mono_l k
 unfold aA2.f
 repeat' first
   | (with_reducible exact ih0 _ _ _ _ _ _ _)
   | (with_reducible exact ih1 _ _ _ _ _ _ _)
   | (with_reducible exact ih2 _ _ _ _ _ _ _ _)
   | (with_reducible exact ih3 _ _ _ _ _ _ _ _)
   | (with_reducible exact ih4 _ _ _ _ _ _ _ _ _)
   | (with_reducible exact LeO.refl _)
   | (with_reducible exact LeO.none _)
   | (with_reducible refine LeO.ite ?_ ?_)
   | (with_reducible refine LeO.bind ?_ (fun _ => ?_))
   | exact ih0 _ _ _ _ _ _ _
   | exact ih1 _ _ _ _ _ _ _
   | exact ih2 _ _ _ _ _ _ _ _
   | exact ih3 _ _ _ _ _ _ _ _
   | exact ih4 _ _ _ _ _ _ _ _ _
   | exact LeO.none _
   | refine LeO.ite ?_ ?_
   | refine LeO.bind ?_ (fun _ => ?_)
def aA2.T1 : Bool × List (List Nat × List Nat) := (true, [([], []), ([], []), ([1], [1]), ([2], [2]), ([3], [3]), ([4], [4]), ([], []), ([6, 0, 0, 6], [0, 6]), ([5, 7, 0, 1, 2, 3, 4, 5, 6, 7], [5]), ([8, 0, 1, 2, 3, 4, 5, 6, 7, 8], [])])
def aA2.B1 : List Nat := [0, 0, 2, 6, 14, 30, 0, 65, 255, 511]
theorem aA2.tab1 : rtab .any (opsOf Tryz.f48 1) = aA2.T1 := by kernel_rfl
theorem aA2.bits1 : waitsOk aA2.T1.2 aA2.B1 = true := by kernel_rfl
def aA2.T9 : Bool × List (List Nat × List Nat) := (true, [([], []), ([], []), ([0, 1], [0, 1]), ([], []), ([3], [3]), ([], []), ([4, 5], [4, 5]), ([6], [6]), ([7], [7]), ([], []), ([8, 9], [8, 9]), ([2, 0, 1, 2], [2]), ([10, 11, 0, 1, 2, 3, 4, 5, 6, 7, 8, 9, 10, 11], [10])])
def aA2.B9 : List Nat := [0, 0, 3, 0, 8, 0, 56, 120, 248, 0, 1016, 7, 4095]
theorem aA2.tab9 : rtab .any (opsOf Tryz.f48 9) = aA2.T9 := by kernel_rfl
theorem aA2.bits9 : waitsOk aA2.T9.2 aA2.B9 = true := by kernel_rfl
def aA2.T11 : Bool × List (List Nat × List Nat) := (true, [([], []), ([0], [0]), ([], []), ([], []), ([3], [3]), ([], []), ([4, 5], [4, 5]), ([6], [6]), ([1, 2, 0, 1, 2, 3, 4, 5, 6, 7], [1, 2]), ([8, 7, 0, 1, 2, 3, 4, 5, 6, 7], [7, 8])])
def aA2.B11 : List Nat := [0, 1, 0, 0, 8, 0, 56, 120, 255, 511]
theorem aA2.tab11 : rtab .any (opsOf Tryz.f48 11) = aA2.T11 := by kernel_rfl
theorem aA2.bits11 : waitsOk aA2.T11.2 aA2.B11 = true := by kernel_rfl
def aA2.T20 : Bool × List (List Nat × List Nat) := (true, [([], []), ([0], [0]), ([], []), ([2], [2]), ([3], [3]), ([], []), ([4, 5], [4, 5]), ([], []), ([], []), ([], []), ([], []), ([10], [10]), ([11], [11]), ([12], [12]), ([9, 13], [9, 13]), ([14], [14]), ([8, 15], [8, 15]), ([6, 7, 16], [6, 7, 16]), ([17], [17]), ([1, 18, 16], [1, 18]), ([0, 1, 2, 3, 4, 5, 6, 7, 8, 9, 10, 11, 12, 13, 14, 15, 16, 17, 18, 19], []), ([20, 19, 19, 0, 1, 2, 3, 4, 5, 6, 7, 8, 9, 10, 11, 12, 13, 14, 15, 16, 17, 18, 19], [19, 20])])
def aA2.B20 : List Nat := [0, 1, 0, 4, 12, 0, 60, 0, 0, 0, 0, 1024, 3072, 7168, 15872, 32256, 65280, 131068, 262140, 524287, 1048575, 2097151]
theorem aA2.tab20 : rtab .any (opsOf Tryz.f48 20) = aA2.T20 := by kernel_rfl
theorem aA2.bits20 : waitsOk aA2.T20.2 aA2.B20 = true := by kernel_rfl
set_option maxHeartbeats 8000000 in
set_option maxRecDepth 100000 in
theorem aA2.calls (k : Nat) (bO : Option Addr) (bH : Nat) (aC : List (S126)) (aW : Int) (dF : Option Addr) (cW : Nat) (bJ : List Int) (r1 : List (S67)) (r2 : List Int) (w : World) (hr0_0 : Kd.C k126 w bO aC.length aC) (cX : aC.length ≤ bH) (hr0_2 : Kd.C (Kd.int .u8) w dF bJ.length bJ) (lQ : bJ.length ≤ cW) (h : aA2.f k aC aW bJ = some (r1, r2)) :
  Calls Tryz.prog 48 #[.agg #[.slice bO aC.length bH, .int .u8 aW, .slice dF bJ.length cW]] w fun e w' => ∃ v0_ v1_ : Value, e = .returned (.agg #[v0_, v1_]) ∧ Kd.R k67 67 w' w.heap.size (fun _ => True) v0_ r1 ∧ Kd.R (Kd.int .i64) 3 w' w.heap.size (fun _ => True) v1_ r2 ∧ Below w.heap.size w w' := by
 have hu76 := Tryz.underlying76
 have hu25 := Tryz.underlying25
 have hu126 := Tryz.underlying126
 have hu67 := Tryz.underlying67
 have cZ := aM hr0_0
 have iM := aM cX
 clear hr0_0 cX
 have nK := aM hr0_2
 have rL := aM lQ
 clear hr0_2 lQ
 have HB := aM (Below.refl w.heap.size w)
 have H : (aA2.l0 k (wrap64 (1 + (Int.tmod (wrap64 (aW)) 4))) 0 0 aC aW bJ ([] : List Int)) = some (r1, r2) := h
 clear h
 have H' := aM H
 clear H
 go_enter Tryz.func48, Tryz.ntmps48
 try go_wp2_with (first | ((with_reducible refine gate_dst (N := 1) rfl ?_); refine bx 1 #[.slice bO aC.length bH, .int .u8 aW, .slice dF bJ.length cW] 76 ?_; intro aY hg w2 hbox hb; have aA := hbox; have iN := gs HB hg; have iO := gs HB hg; replace HB := bs HB hb; clear hb hbox hg) | ((with_reducible refine gate_dst (N := 2) rfl ?_); refine bx 2 #[.slice none 0 0, .slice none 0 0] 25 ?_; intro bD hg w3 hbox hb; have aH := hbox; have nL := gs HB hg; have nM := gs HB hg; replace HB := bs HB hb; have bG := nl aA hg; have bP := nr aA hg; replace aA := bb aA hb; clear hb hbox hg))
 replace aA := aM (blk_drew aA.out)
 replace aH := aM (blk_drew aH.out)
 replace HB := aM (below_drew1 HB.out)
 refine start_ (n := 10) (S := fun w' => w'.cell? ⟨aY, 0, none⟩ = some (.slice bO aC.length bH) ∧ w'.cell? ⟨aY, 1, none⟩ = some (.int .u8 aW) ∧ w'.cell? ⟨aY, 2, none⟩ = some (.slice dF bJ.length cW)) (ds := []) #[false, false, false, false, false, false, false, false, false, false] (by kernel_rfl) rfl rfl ⟨(blk_cell aA.out 0).trans rfl, (blk_cell aA.out 1).trans rfl, (blk_cell aA.out 2).trans rfl⟩ (fun aN => ?_); refine with_tabW aA2.tab1 aA2.bits1 (fun HT_ HW_ => ?_)
 generalize w3.drew = w4 at aA aH HB aN ⊢
 refine pu 0 14 ?_
 refine pu 1 15 ?_
 refine tk 2 16 aN ?_
 refine pu 3 17 ?_
 refine pu 4 18 ?_
 refine pu 5 19 ?_
 refine on 6 (fun K hK => ?_)
 refine box_step ?hg (N := 3) ?hd (cs := #[.slice none 0 0, .slice none 0 0]) (t := 25) ?hr ?_; (case hd => rfl); (case hg => rfl); (case hr => first | (go_simp; done) | (go_simp; rfl))
 intro bI hg w5 hbox hb
 have aI := aM (hbox)
 have rM := gs HB hg
 have rN := gs HB hg
 replace HB := bs HB hb
 have bB := nl aA hg
 have bL := nr aA hg
 replace aA := bb aA hb
 have cC := nl aH hg
 have cD := nr aH hg
 replace aH := bb aH hb
 clear hb hbox hg
 refine hK.out _ _ ⟨(blk_cell aA.out 0).trans rfl, (blk_cell aA.out 1).trans rfl, (blk_cell aA.out 2).trans rfl⟩ (fun aN => ?_)
 clear hK K
 refine norm_ (a' := ?_) ?_ ?_
 rotate_left
 ·show Act.put _ (some 3) _ = _
  simp only [Act.put, List.setIfInBounds_toArray, List.set_cons_zero, List.set_cons_succ, i64_w, i32_w]
  rfl
 refine on 7 (fun K hK => ?_)
 have hs6 : w5.cell? ⟨bI, 0, none⟩ = some (.slice none 0 0) := (blk_cell aI.out 0).trans rfl
 have hfs6 := blk_frozen aI.out 0
 have qJ := bB.out
 have qK := cC.out
 have qL := bL.out
 have qM := cD.out
 have hs7 : w5.cell? ⟨bI, 1, none⟩ = some (.slice none 0 0) := (blk_cell aI.out 1).trans rfl
 have hfs7 := blk_frozen aI.out 1
 have qN := bB.out
 have qO := cC.out
 have qP := bL.out
 have qQ := cD.out
 refine skip_ (w1 := ?_) (by rfl) rfl ?_ ?_
 rotate_left
 ·go_simp
  rfl
 refine hK.out _ _ ⟨((cell_far (p := ⟨bI, _, none⟩) bB.out _).trans (((cell_far (p := ⟨bI, _, none⟩) bB.out _).trans (aN.1)))), ((cell_far (p := ⟨bI, _, none⟩) bB.out _).trans (((cell_far (p := ⟨bI, _, none⟩) bB.out _).trans (aN.2.1)))), ((cell_far (p := ⟨bI, _, none⟩) bB.out _).trans (((cell_far (p := ⟨bI, _, none⟩) bB.out _).trans (aN.2.2))))⟩ (fun aN => ?_)
 clear hK K
 refine pu 8 4 ?_
 refine pu 9 5 ?_
 refine done_ (done_of HT_.out (by kernel_rfl)) ?_
 try go_wp2
 go_loopg [6] k (fun kq v6 w' => ∃ (aT : Int) (cE : List Int) (bC : Value), v6 = .int .i64 aT ∧ Aside0 (aA2.l0 kq (wrap64 (1 + (Int.tmod (wrap64 (aW)) 4))) 0 aT aC aW bJ cE = some (r1, r2)) ∧ Aside0 (kq ≤ k) ∧ Aside0 (Kd.R (Kd.int .i64) 3 w' w.heap.size (fun _ => True) bC cE) ∧ Aside0 (w'.heap[aY]? = some (.cells #[(.slice bO aC.length bH), .int .u8 aW, (.slice dF bJ.length cW)] 76 (0, 0))) ∧ Aside0 (w'.heap[bD]? = some (.cells #[(.slice none 0 0), (.slice none 0 0)] 25 (0, 0))) ∧ Aside0 (w'.heap[bI]? = some (.cells #[(.slice none 0 0), bC] 25 (0, 0))) ∧ Aside0 (Below w.heap.size w w'))
 case atStart => exact ⟨(0), (([] : List Int)), (.slice none 0 0), (by first | rfl | (simp; done) | (simp [*]; done)), H', ⟨Nat.le_refl _⟩, ⟨by first | exact Kd.R_nil _ _ _ _ _ | exact Kd.N_nil _ _ _ _ _ | exact Kd.V_nil _ _ _ _ _ | exact Kd.Q_nil _ _ _ _ _ | exact Kd.S_nil _ _ _ _ _⟩, ⟨pF aA⟩, ⟨pF aH⟩, ⟨by refine pB ?_; refine blk_put (cs := #[.slice none 0 0, .slice none 0 0]) ?_ 1 _ rfl; refine pB ?_; refine blk_put (cs := #[.slice none 0 0, .slice none 0 0]) ?_ 0 _ rfl; exact pB aI.out⟩, ⟨pE HB⟩⟩
 case round =>
  clear H'
  try clear p2
  try clear c4
  try clear p6
  obtain ⟨aT, cE, bC, rfl, HA, cY, aE, aA, aH, aI, HB⟩ := hrel
  cases gk with
  | zero => exact absurd HA.out (by simp [aA2.l0])
  | succ k1 =>
   have H := HA.out
   clear HA
   simp only [aA2.l0] at H
   by_cases c8 : aT < (wrap64 (1 + (Int.tmod (wrap64 (aW)) 4)))
   ·rw [if_pos c8] at H
    have eZ : decide (aT < (wrap64 (1 + (Int.tmod (wrap64 (aW)) 4)))) = true := decide_eq_true c8
    clear c8
    by_cases c9 : cE.length < 17592186044416
    rotate_left
    ·rw [if_neg c9] at H
     exact absurd H (by simp)
    rw [if_pos c9] at H
    have mG := aM c9
    clear c9
    obtain ⟨kB, iP⟩ : ∃ y_ : List Int, y_ = (cE ++ [aT]) := ⟨_, rfl⟩
    replace H : (aA2.l0 k1 (wrap64 (1 + (Int.tmod (wrap64 (aW)) 4))) 0 (wrap64 (aT + 1)) aC aW bJ kB) = some (r1, r2) := yy iP H
    have nN := aM iP
    clear iP
    have H' := aM H
    clear H
    have rO := bL.out
    have rP := bB.out
    have rQ := cD.out
    have rR := cC.out
    obtain ⟨eE, eF, eG, eH⟩ := cf2 aI
    go_wp2_with (first | ((with_reducible refine gate_builtin (b := .append) (xs := #[.tmp 26, .tmp 28]) rfl ?_); at_builtin; refine Kd.R_append (Kd.int .i64) (w0 := w) w.heap.size rfl (.tmp 26) (.tmp 28) 23 3 (.int .i64 0) 8 rfl Tryz.underlying23 info3 rfl (by decide) (by omega) bC cE aT [.int .i64 aT] (fun _ => True) (fun _ => False) rfl rfl ?aP (fun _ hk => hk.elim) ?aF ?aO ?aB ?aS ?aL ?_; (case aP => exact rfl); (case aB => exact (pE HB)); (case aF => exact (fun _ _ => trivial)); (case aO => exact (pR aE.out)); (case aS => exact (below_size (pE HB))); (case aL => have := mG.out; omega); intro uF w13 ho hb hg hat; rw [← nN.out] at ho; replace aA := aM (blk_grown (g := aY) (o := .cells #[.slice bO aC.length bH, .int .u8 aW, .slice dF bJ.length cW] 76 (0, 0)) (pB aA.out) hg (Kd.R_ne aE.out aA.out (by decide))); replace aH := aM (blk_grown (g := bD) (o := .cells #[.slice none 0 0, .slice none 0 0] 25 (0, 0)) (pB aH.out) hg (Kd.R_ne aE.out aH.out (by decide))); replace aI := aM (blk_grown (g := bI) (o := .cells #[.slice none 0 0, bC] 25 (0, 0)) (pB aI.out) hg (Kd.R_ne aE.out aI.out (by decide))); replace HB := aM (hb); have lR := aM (ho); clear aE; clear ho hb hg hat; obtain ⟨gH, gI, iF⟩ := Kd.R_slice lR.out; subst iF; obtain ⟨eI, eJ, eK, eM⟩ := cf2 aI))
    go_roundg k1
    case measure => have := cY.out; omega
    case rel => exact ⟨(wrap64 (aT + 1)), (kB), (.slice gH kB.length gI), (by first | rfl | (simp; done) | (simp [*]; done)), H', ⟨by have := cY.out; omega⟩, ⟨by (with_reducible repeat (first | apply Kd.R_alloc | apply Kd.R_drewN | apply Kd.R_drew)); exact Kd.R_mono (Kd.R_far (p := ⟨bI, 1, none⟩) (Kd.R_types lR.out aI.out (by decide)) (fun _ hk => hk.2) (.slice gH kB.length gI)) (fun _ hk => trivial)⟩, ⟨pF aA⟩, ⟨pF aH⟩, ⟨by refine pB ?_; refine blk_put (cs := #[.slice none 0 0, bC]) ?_ 1 _ rfl; exact pB aI.out⟩, ⟨pE HB⟩⟩
   ·rw [if_neg c8] at H
    have eZ : decide (aT < (wrap64 (1 + (Int.tmod (wrap64 (aW)) 4)))) = false := decide_eq_false c8
    clear c8
    have H' := aM H
    clear H
    go_wp2
    go_loopg [7] k1 (fun kq v7 w' => ∃ (bX : Int) (aG : List Int) (bC : Value), v7 = .int .i64 bX ∧ Aside0 (aA2.l1 kq (wrap64 (1 + (Int.tmod (wrap64 (aW)) 4))) 0 bX aC aW bJ aG = some (r1, r2)) ∧ Aside0 (kq ≤ k1) ∧ Aside0 (Kd.R (Kd.int .i64) 3 w' w.heap.size (fun _ => True) bC aG) ∧ Aside0 (w'.heap[aY]? = some (.cells #[(.slice bO aC.length bH), .int .u8 aW, (.slice dF bJ.length cW)] 76 (0, 0))) ∧ Aside0 (w'.heap[bD]? = some (.cells #[(.slice none 0 0), (.slice none 0 0)] 25 (0, 0))) ∧ Aside0 (w'.heap[bI]? = some (.cells #[(.slice none 0 0), bC] 25 (0, 0))) ∧ Aside0 (Below w.heap.size w w'))
    case atStart => exact ⟨(0), (cE), (bC), (by first | rfl | (simp; done) | (simp [*]; done)), H', ⟨Nat.le_refl _⟩, ⟨pR aE.out⟩, ⟨pB aA.out⟩, ⟨pB aH.out⟩, ⟨pB aI.out⟩, ⟨pE HB⟩⟩
    case round =>
     clear H'
     try clear c1
     try clear p2
     try clear c4
     try clear p6
     try clear c8
     try clear eZ
     try clear c9
     try clear c10
     try clear c11
     try clear eE
     try clear eF
     try clear eI
     try clear eJ
     try clear eG
     try clear eH
     try clear eK
     try clear eM
     try clear p2
     try clear p6
     obtain ⟨bX, aG, bC, rfl, HA, jZ, aE, aA, aH, aI, HB⟩ := hrel
     cases gk with
     | zero => exact absurd HA.out (by simp [aA2.l1])
     | succ k2 =>
      have H := HA.out
      clear HA
      simp only [aA2.l1] at H
      have gJ := aM H
      clear H
      go_upto_region 7 with (fail)
      go_cut [39] (fun uG wc => ∃ (kq : Nat) (fI : Bool), uG = .bool fI ∧ Aside0 (aA2.j2 kq (wrap64 (1 + (Int.tmod (wrap64 (aW)) 4))) 0 bX fI aC aW bJ aG = some (r1, r2)) ∧ Aside0 (kq ≤ k2) ∧ Aside0 (Kd.R (Kd.int .i64) 3 wc w.heap.size (fun _ => True) bC aG) ∧ Aside0 (wc.heap[aY]? = some (.cells #[(.slice bO aC.length bH), .int .u8 aW, (.slice dF bJ.length cW)] 76 (0, 0))) ∧ Aside0 (wc.heap[bD]? = some (.cells #[(.slice none 0 0), (.slice none 0 0)] 25 (0, 0))) ∧ Aside0 (wc.heap[bI]? = some (.cells #[(.slice none 0 0), bC] 25 (0, 0))) ∧ Aside0 (Below w.heap.size w wc))
      case first =>
       have H := gJ.out
       clear gJ
       by_cases c17 : bX < (bJ.length : Int)
       rotate_left
       ·rw [if_neg c17] at H
        have cA : decide (bX < (bJ.length : Int)) = false := decide_eq_false c17
        clear c17
        (first | rw [cA] | (simp only [i64_w, i32_w]; rw [cA]) | skip)
        have H' := aM H
        clear H
        have rS := bG.out
        have rT := bP.out
        have rU := bB.out
        have rV := bL.out
        obtain ⟨fJ, fK, fL, fM, fN, fO⟩ := cf3 aA
        go_wp2
        go_meet
        case rel => exact ⟨_, (false), (by first | rfl | (simp; done) | (simp [*]; done)), H', ⟨by have := cY.out; have := jZ.out; first | omega | exact Nat.le_refl _⟩, ⟨pR aE.out⟩, ⟨pB aA.out⟩, ⟨pB aH.out⟩, ⟨pB aI.out⟩, ⟨pE HB⟩⟩
       rw [if_pos c17] at H
       have cA : decide (bX < (bJ.length : Int)) = true := decide_eq_true c17
       clear c17
       (first | rw [cA] | (simp only [i64_w, i32_w]; rw [cA]) | skip)
       have H' := aM H
       clear H
       have rW := bG.out
       have rX := bP.out
       have rY := bB.out
       have rZ := bL.out
       obtain ⟨fP, fQ, fR, fS, fT, fU⟩ := cf3 aA
       go_wp2
       go_meet
       case rel => exact ⟨_, (decide (bX < 4)), (by first | rfl | (simp; done) | (simp [*]; done)), H', ⟨by have := cY.out; have := jZ.out; first | omega | exact Nat.le_refl _⟩, ⟨pR aE.out⟩, ⟨pB aA.out⟩, ⟨pB aH.out⟩, ⟨pB aI.out⟩, ⟨pE HB⟩⟩
      case rest =>
       clear gJ
       try clear c1
       try clear c2
       try clear p2
       try clear c4
       try clear p6
       try clear c8
       try clear eZ
       try clear c9
       try clear c10
       try clear c11
       try clear c17
       try clear cA
       try clear c18
       try clear c19
       try clear c21
       try clear c22
       try clear eE
       try clear eF
       try clear eI
       try clear eJ
       try clear fP
       try clear fQ
       try clear fR
       try clear fJ
       try clear fK
       try clear fL
       try clear eG
       try clear eH
       try clear eK
       try clear eM
       try clear fS
       try clear fT
       try clear fU
       try clear fM
       try clear fN
       try clear fO
       try clear p2
       try clear p6
       obtain ⟨kq, fI, rfl, HA, cV, aE, aA, aH, aI, HB⟩ := hcut
       cases kq with
       | zero => exact absurd HA.out (by simp [aA2.j2])
       | succ kj15 =>
        have H := HA.out
        clear HA
        simp only [aA2.j2] at H
        by_cases c24 : fI = true
        ·subst c24
         rw [if_pos rfl] at H
         by_cases c25 : (wrap64 (1 + (Int.tmod (wrap64 (aW)) 4))) = 0
         ·rw [if_pos c25] at H
          exact absurd H (by simp)
         rw [if_neg c25] at H
         have lS : ((wrap64 (1 + (Int.tmod (wrap64 (aW)) 4))) == 0) = false := beq_eq_false_iff_ne.mpr c25
         have lT : ((wrap64 (1 + (Int.tmod (wrap64 (aW)) 4))) != 0) = true := bne_iff_ne.mpr c25
         by_cases c26 : 0 ≤ bX
         rotate_left
         ·rw [if_neg c26] at H
          exact absurd H (by simp)
         rw [if_pos c26] at H
         have lU : decide (0 ≤ bX) = true := decide_eq_true c26
         clear c26
         by_cases c27 : bX < (bJ.length : Int)
         rotate_left
         ·rw [if_neg c27] at H
          exact absurd H (by simp)
         rw [if_pos c27] at H
         have lV : decide (bX < (bJ.length : Int)) = true := decide_eq_true c27
         clear c27
         obtain ⟨bY, lW⟩ : ∃ j_ : Int, (Int.tmod bX (wrap64 (1 + (Int.tmod (wrap64 (aW)) 4)))) = j_ := ⟨_, rfl⟩
         replace H : (if 0 ≤ (bY) then (if (bY) < (aG.length : Int) then (if 0 ≤ (Int.tmod (wrap64 (rd bJ bX)) (wrap64 (1 + (Int.tmod (wrap64 (aW)) 4)))) then (if (Int.tmod (wrap64 (rd bJ bX)) (wrap64 (1 + (Int.tmod (wrap64 (aW)) 4)))) < (aG.length : Int) then (aA2.l1 kj15 (wrap64 (1 + (Int.tmod (wrap64 (aW)) 4))) 0 (wrap64 (bX + 1)) aC aW bJ ((aG.set ((bY) : Int).toNat (rd aG (Int.tmod (wrap64 (rd bJ bX)) (wrap64 (1 + (Int.tmod (wrap64 (aW)) 4)))))).set ((Int.tmod (wrap64 (rd bJ bX)) (wrap64 (1 + (Int.tmod (wrap64 (aW)) 4)))) : Int).toNat (rd aG (bY)))) else (none)) else (none)) else (none)) else (none)) = some (r1, r2) := by first | (rw [lW] at H; exact H) | (simp only [lW] at H ⊢; exact H)
         by_cases c29 : 0 ≤ (bY)
         rotate_left
         ·rw [if_neg c29] at H
          exact absurd H (by simp)
         rw [if_pos c29] at H
         have iQ : decide (0 ≤ (bY)) = true := decide_eq_true c29
         clear c29
         by_cases c30 : (bY) < (aG.length : Int)
         rotate_left
         ·rw [if_neg c30] at H
          exact absurd H (by simp)
         rw [if_pos c30] at H
         have iR : decide ((bY) < (aG.length : Int)) = true := decide_eq_true c30
         clear c30
         obtain ⟨bU, lX⟩ : ∃ j_ : Int, (Int.tmod (wrap64 (rd bJ bX)) (wrap64 (1 + (Int.tmod (wrap64 (aW)) 4)))) = j_ := ⟨_, rfl⟩
         replace H : (if 0 ≤ (bU) then (if (bU) < (aG.length : Int) then (aA2.l1 kj15 (wrap64 (1 + (Int.tmod (wrap64 (aW)) 4))) 0 (wrap64 (bX + 1)) aC aW bJ ((aG.set ((bY) : Int).toNat (rd aG (bU))).set ((bU) : Int).toNat (rd aG (bY)))) else (none)) else (none)) = some (r1, r2) := by first | (rw [lX] at H; exact H) | (simp only [lX] at H ⊢; exact H)
         by_cases c32 : 0 ≤ (bU)
         rotate_left
         ·rw [if_neg c32] at H
          exact absurd H (by simp)
         rw [if_pos c32] at H
         have iS : decide (0 ≤ (bU)) = true := decide_eq_true c32
         clear c32
         by_cases c33 : (bU) < (aG.length : Int)
         rotate_left
         ·rw [if_neg c33] at H
          exact absurd H (by simp)
         rw [if_pos c33] at H
         have iT : decide ((bU) < (aG.length : Int)) = true := decide_eq_true c33
         clear c33
         obtain ⟨mH, iU⟩ : ∃ y_ : List Int, y_ = (aG.set ((bY) : Int).toNat (rd aG (bU))) := ⟨_, rfl⟩
         replace H : (aA2.l1 kj15 (wrap64 (1 + (Int.tmod (wrap64 (aW)) 4))) 0 (wrap64 (bX + 1)) aC aW bJ (mH.set ((bU) : Int).toNat (rd aG (bY)))) = some (r1, r2) := yy iU H
         have nO := aM iU
         clear iU
         obtain ⟨mI, iV⟩ : ∃ y_ : List Int, y_ = (mH.set ((bU) : Int).toNat (rd aG (bY))) := ⟨_, rfl⟩
         replace H : (aA2.l1 kj15 (wrap64 (1 + (Int.tmod (wrap64 (aW)) 4))) 0 (wrap64 (bX + 1)) aC aW bJ mI) = some (r1, r2) := yy iV H
         have nP := aM iV
         clear iV
         have H' := aM H
         clear H
         try go_wp2
         replace aE := aM (Kd.R_drew aE.out)
         replace aA := aM (blk_drew aA.out)
         replace aH := aM (blk_drew aH.out)
         replace aI := aM (blk_drew aI.out)
         replace HB := aM (below_drew1 HB.out)
         have fA : 0 ≤ (bX : Int) := dT
         have fB : bX < (bJ.length : Int) := dT
         obtain ⟨gB, mJ, cQ⟩ := Kd.at_int nK.out bX fA fB
         have kC := cQ
         cases mJ
         replace cQ := cut_ HB cQ
         replace fA := eq_true fA
         replace fB := eq_true fB
         refine start_ (n := 13) (S := fun w' => w'.cell? ⟨aY, 0, none⟩ = some (.slice bO aC.length bH) ∧ w'.cell? ⟨aY, 1, none⟩ = some (.int .u8 aW) ∧ w'.cell? ⟨aY, 2, none⟩ = some (.slice (some gB) bJ.length cW) ∧ w'.cell? (gB.add (bX).toNat) = some (.int .u8 (rd bJ bX))) (ds := []) #[false, false, false, false, false, false, false, false, false, false, false, false, false] (by kernel_rfl) rfl rfl ⟨(blk_cell aA.out 0).trans rfl, (blk_cell aA.out 1).trans rfl, (blk_cell aA.out 2).trans rfl, (cB HB kC)⟩ (fun aN => ?_); refine with_tabW aA2.tab9 aA2.bits9 (fun HT_ HW_ => ?_)
         generalize wc.drew = w36 at aE aA aH aI HB cQ aN ⊢
         refine pu 0 42 ?_
         refine pu 1 43 ?_
         refine pu 2 44 ?_
         refine pu 3 45 ?_
         refine pu 5 47 ?_
         refine pu 9 51 ?_
         refine pu 11 8 ?_
         refine tk 4 46 aN ?_
         refine pu 6 48 ?_
         refine tk 7 49 aN ?_
         refine pu 8 50 ?_
         refine pu 10 52 ?_
         refine pu 12 9 ?_
         refine done_ (done_of HT_.out (by kernel_rfl)) ?_
         have sA := bL.out
         have sB := bB.out
         have sC := cD.out
         have sD := cC.out
         obtain ⟨gR, gS, gT, gU⟩ := cf2 aI
         obtain ⟨uH, iG, qR⟩ := Kd.R_slice aE.out
         subst qR
         have dG : 0 ≤ ((bY) : Int) := dT
         have dH : (bY) < (aG.length : Int) := dT
         obtain ⟨gV, iW, bQ⟩ := Kd.at_int (Kd.R_reads' aE.out).2.2 (bY) dG dH
         cases iW
         replace dG := eq_true dG
         replace dH := eq_true dH
         try go_wp2
         replace aE := aM (Kd.R_drew aE.out)
         replace aA := aM (blk_drew aA.out)
         replace aH := aM (blk_drew aH.out)
         replace aI := aM (blk_drew aI.out)
         replace HB := aM (below_drew1 HB.out)
         have fC : 0 ≤ ((bU) : Int) := dT
         have fD : (bU) < (aG.length : Int) := dT
         obtain ⟨dA, mK, bV⟩ := Kd.at_int (Kd.R_reads' aE.out).2.2 (bU) fC fD
         obtain rfl : gV = dA := (by injection mK)
         replace fC := eq_true fC
         replace fD := eq_true fD
         have p34 : 0 ≤ ((bY) : Int) := dT
         have q34 : ((bY) : Int) < ((aG.length : Int) : Int) := dT
         obtain ⟨dD, uI, nQ, nR, gl34, cl34, HG34⟩ := Kd.R_form aE.out (by omega)
         (first | cases nQ | (injection nQ with ea_ en_ ec_; (first | subst ea_ | (injection ea_ with ea_; subst ea_)); subst ec_; clear en_))
         have qS := aM nR
         have qT := aM HG34
         clear nR gl34 HG34
         (first | simp only [add_plain] at bQ | skip)
         (first | simp only [add_plain] at bV | skip)
         obtain ⟨gK, mL⟩ := Kd.R_celln 0 aE.out ((bY) : Int) p34 q34
         replace p34 := eq_true p34
         replace q34 := eq_true q34
         have HP42 := Kd.R_putn aE.out ((bY) : Int) (rd aG (bU))
         rw [← nO.out] at HP42
         have HQ42 := aM HP42
         clear HP42
         refine start_ (n := 10) (S := fun w' => w'.cell? ⟨bI, 0, none⟩ = some (.slice none 0 0) ∧ w'.cell? ⟨bI, 1, none⟩ = some (.slice (some ⟨dD, 0, none⟩) aG.length iG) ∧ w'.cell? ⟨dD, ((bU)).toNat, none⟩ = some (.int .i64 (rd aG (bU)))) (ds := [9]) #[false, false, false, false, false, false, false, false, false, false] (by kernel_rfl) rfl rfl ⟨(blk_cell aI.out 0).trans rfl, (blk_cell aI.out 1).trans rfl, bV⟩ (fun aN => ?_); refine with_tabW aA2.tab11 aA2.bits11 (fun HT_ HW_ => ?_)
         generalize w36.drew = w41 at aE aA aH aI HB qT HQ42 mL bQ bV gK aN ⊢
         refine pu 0 58 ?_
         refine pu 2 60 ?_
         refine pu 3 61 ?_
         refine pu 5 63 ?_
         refine tk 1 59 aN ?_
         refine tk 4 62 aN ?_
         refine pu 6 64 ?_
         refine tk 7 65 aN ?_
         refine pu 8 66 ?_
         refine last_ (i := 9) (N := none) #[true, true, true, true, true, true, true, true, true, true] rfl rfl (one_of HT_.out (by kernel_rfl)) (by decide) (fun K hK => ?_)
         refine skip_ (w1 := ?_) (by rfl) rfl ?_ ?_
         rotate_left
         ·go_simp
          rfl
         refine hK.out _ _ ?_
         clear hK K
         refine done_ (done_of HT_.out (by kernel_rfl)) ?_
         have n0_ : Aside0 (Kd.R (Kd.int .i64) 3 (w41.setCell ⟨dD, ((bY) : Int).toNat, none⟩ (.int .i64 (rd aG (bU)))) w.heap.size (fun _ => True) (.slice (some ⟨dD, 0, none⟩) aG.length iG) mH) := ⟨pR HQ42.out⟩
         have n1_ : Aside0 ((w41.setCell ⟨dD, ((bY) : Int).toNat, none⟩ (.int .i64 (rd aG (bU)))).heap[aY]? = some (.cells #[.slice bO aC.length bH, .int .u8 aW, .slice (some gB) bJ.length cW] 76 (0, 0))) := ⟨by refine pB ?_; refine blk_far ?_ (by have h_ := Kd.R_ne aE.out aA.out (by decide); intro e_; exact h_ (by rw [e_]; rfl)) _; exact pB aA.out⟩
         have n2_ : Aside0 ((w41.setCell ⟨dD, ((bY) : Int).toNat, none⟩ (.int .i64 (rd aG (bU)))).heap[bD]? = some (.cells #[.slice none 0 0, .slice none 0 0] 25 (0, 0))) := ⟨by refine pB ?_; refine blk_far ?_ (by have h_ := Kd.R_ne aE.out aH.out (by decide); intro e_; exact h_ (by rw [e_]; rfl)) _; exact pB aH.out⟩
         have n3_ : Aside0 ((w41.setCell ⟨dD, ((bY) : Int).toNat, none⟩ (.int .i64 (rd aG (bU)))).heap[bI]? = some (.cells #[.slice none 0 0, .slice (some ⟨dD, 0, none⟩) aG.length iG] 25 (0, 0))) := ⟨by refine pB ?_; refine blk_far ?_ (by have h_ := Kd.R_ne aE.out aI.out (by decide); intro e_; exact h_ (by rw [e_]; rfl)) _; exact pB aI.out⟩
         have n4_ : Aside0 (Below w.heap.size w (w41.setCell ⟨dD, ((bY) : Int).toNat, none⟩ (.int .i64 (rd aG (bU))))) := ⟨pE HB⟩
         (try clear aE)
         (try clear aA)
         (try clear aH)
         (try clear aI)
         (try clear HB)
         generalize (w41.setCell ⟨dD, ((bY) : Int).toNat, none⟩ (.int .i64 (rd aG (bU)))) = w43 at n0_ n1_ n2_ n3_ n4_ ⊢
         have aE := n0_
         have aA := n1_
         have aH := n2_
         have aI := n3_
         have HB := n4_
         clear n0_ n1_ n2_ n3_ n4_
         obtain ⟨gW, gX, gY, gZ⟩ := cf2 aI
         have p35 : 0 ≤ ((bU) : Int) := dT
         have q35 : ((bU) : Int) < ((aG.length : Int) : Int) := dT
         obtain ⟨iX, qU⟩ := Kd.R_celln 0 aE.out ((bU) : Int) p35 q35
         replace p35 := eq_true p35
         replace q35 := eq_true q35
         obtain ⟨hy45_, hz45_⟩ := Kd.R_celln 0 aE.out ((bU) : Int) (dT) (dT)
         have HP45 := Kd.R_putg aE.out ((bU) : Int) (rd aG (bY))
         try go_wp2_with (first | ((with_reducible refine gate_store (t := 3) (p := 71) rfl ?_); refine store_event (t := 3) (p := 71) (v := ?vo_w46) (w1 := (w43.setCell ⟨dD, ((bU) : Int).toNat, none⟩ (.int .i64 (rd aG (bY))))) ?hg ?ho ?hn ?hr ?_; (case ho => rfl); (case hg => rfl); (case hn => rfl); (case hr => first | (go_simp; done) | (go_simp; rfl)); intro w46 hw; have hg : w43.grownBy w46 (some dD) := (by rw [hw]; exact HP45.2); have hp_ : Kd.R (Kd.int .i64) 3 w46 w.heap.size (fun _ => True) (.slice (some ⟨dD, 0, none⟩) aG.length iG) mI := (by rw [hw, nP.out]; exact HP45.1); clear HP45; replace aA := aM (blk_grown (g := aY) (o := .cells #[.slice bO aC.length bH, .int .u8 aW, .slice (some gB) bJ.length cW] 76 (0, 0)) (pB aA.out) hg (Kd.R_ne aE.out aA.out (by decide))); replace aH := aM (blk_grown (g := bD) (o := .cells #[.slice none 0 0, .slice none 0 0] 25 (0, 0)) (pB aH.out) hg (Kd.R_ne aE.out aH.out (by decide))); replace aI := aM (blk_grown (g := bI) (o := .cells #[.slice none 0 0, .slice (some ⟨dD, 0, none⟩) aG.length iG] 25 (0, 0)) (pB aI.out) hg (Kd.R_ne aE.out aI.out (by decide))); replace aE := aM (hp_); replace HB := aM ((by rw [hw]; exact below_set (HB.out) qS.out : Below w.heap.size w w46)); clear hg hw hp_))
         go_roundg kj15
         case measure => have := cY.out; have := jZ.out; have := cV.out; omega
         case rel => exact ⟨(wrap64 (bX + 1)), (mI), (.slice (some ⟨dD, 0, none⟩) aG.length iG), (by first | rfl | (simp; done) | (simp [*]; done)), H', ⟨by have := cY.out; have := jZ.out; have := cV.out; omega⟩, ⟨pR aE.out⟩, ⟨pB aA.out⟩, ⟨pB aH.out⟩, ⟨pB aI.out⟩, ⟨pE HB⟩⟩
        ·replace c24 := Bool.eq_false_iff.mpr c24
         subst c24
         rw [if_neg (show ¬ (false = true) by decide)] at H
         have H' := aM H
         clear H
         go_wp2
         go_loopg [5, 11] kj15 (fun kq v5 nS w' => ∃ (cR : Int) (aD : Int) (aX : List (S67)) (bK : Value), v5 = .int .i64 cR ∧ nS = .int .i64 aD ∧ Aside0 (aA2.l2 kq (wrap64 (1 + (Int.tmod (wrap64 (aW)) 4))) cR aD aC aW bJ aX aG = some (r1, r2)) ∧ Aside0 (kq ≤ kj15) ∧ Aside0 (Kd.R k67 67 w' w.heap.size (fun _ => True) bK aX) ∧ Aside0 (Kd.R (Kd.int .i64) 3 w' w.heap.size (fun _ => True) bC aG) ∧ Aside0 (w'.heap[aY]? = some (.cells #[(.slice bO aC.length bH), .int .u8 aW, (.slice dF bJ.length cW)] 76 (0, 0))) ∧ Aside0 (w'.heap[bD]? = some (.cells #[(.slice none 0 0), (.slice none 0 0)] 25 (0, 0))) ∧ Aside0 (w'.heap[bI]? = some (.cells #[bK, bC] 25 (0, 0))) ∧ Aside0 (Below w.heap.size w w'))
         case atStart => exact ⟨(0), (0), (([] : List (S67))), (.slice none 0 0), (by first | rfl | (simp; done) | (simp [*]; done)), (by first | rfl | (simp; done) | (simp [*]; done)), H', ⟨Nat.le_refl _⟩, ⟨by first | exact Kd.R_nil _ _ _ _ _ | exact Kd.N_nil _ _ _ _ _ | exact Kd.V_nil _ _ _ _ _ | exact Kd.Q_nil _ _ _ _ _ | exact Kd.S_nil _ _ _ _ _⟩, ⟨pR aE.out⟩, ⟨pB aA.out⟩, ⟨pB aH.out⟩, ⟨pB aI.out⟩, ⟨pE HB⟩⟩
         case round =>
          clear H'
          try clear c1
          try clear p1
          try clear q1
          try clear hx1
          try clear c2
          try clear p2
          try clear c3
          try clear p3
          try clear q3
          try clear hx3
          try clear hf3
          try clear c4
          try clear p6
          try clear c8
          try clear eZ
          try clear c9
          try clear c10
          try clear p10
          try clear q10
          try clear hx10
          try clear c11
          try clear c17
          try clear cA
          try clear c18
          try clear c19
          try clear c21
          try clear c22
          try clear c24
          try clear c25
          try clear lS
          try clear lT
          try clear c26
          try clear lU
          try clear c27
          try clear lV
          try clear c29
          try clear iQ
          try clear c30
          try clear iR
          try clear c32
          try clear iS
          try clear c33
          try clear iT
          try clear p34
          try clear q34
          try clear hx34
          try clear hf34
          try clear p35
          try clear q35
          try clear hx35
          try clear hf35
          try clear c37
          try clear c38
          try clear eE
          try clear eF
          try clear eI
          try clear eJ
          try clear fP
          try clear fQ
          try clear fR
          try clear fJ
          try clear fK
          try clear fL
          try clear gR
          try clear gS
          try clear gW
          try clear gX
          try clear eG
          try clear eH
          try clear eK
          try clear eM
          try clear fS
          try clear fT
          try clear fU
          try clear fM
          try clear fN
          try clear fO
          try clear gT
          try clear gU
          try clear gY
          try clear gZ
          try clear cQ
          try clear bQ
          try clear bV
          try clear gK
          try clear iX
          try clear fA
          try clear dG
          try clear fC
          try clear p2
          try clear p34
          try clear p35
          try clear p6
          try clear fB
          try clear dH
          try clear fD
          try clear q34
          try clear q35
          obtain ⟨cR, aD, aX, bK, rfl, rfl, HA, nJ, aK, aE, aA, aH, aI, HB⟩ := hrel
          cases gk with
          | zero => exact absurd HA.out (by simp [aA2.l2])
          | succ k4 =>
           have H := HA.out
           clear HA
           simp only [aA2.l2] at H
           have mM := aM H
           clear H
           go_upto_region 14 with (fail)
           go_cut [80] (fun uJ wc => ∃ (kq : Nat) (fV : Bool), uJ = .bool fV ∧ Aside0 (aA2.j4 kq (wrap64 (1 + (Int.tmod (wrap64 (aW)) 4))) cR aD fV aC aW bJ aX aG = some (r1, r2)) ∧ Aside0 (kq ≤ k4) ∧ Aside0 (Kd.R k67 67 wc w.heap.size (fun _ => True) bK aX) ∧ Aside0 (Kd.R (Kd.int .i64) 3 wc w.heap.size (fun _ => True) bC aG) ∧ Aside0 (wc.heap[aY]? = some (.cells #[(.slice bO aC.length bH), .int .u8 aW, (.slice dF bJ.length cW)] 76 (0, 0))) ∧ Aside0 (wc.heap[bD]? = some (.cells #[(.slice none 0 0), (.slice none 0 0)] 25 (0, 0))) ∧ Aside0 (wc.heap[bI]? = some (.cells #[bK, bC] 25 (0, 0))) ∧ Aside0 (Below w.heap.size w wc))
           case first =>
            have H := mM.out
            clear mM
            by_cases c48 : aD < (aC.length : Int)
            rotate_left
            ·rw [if_neg c48] at H
             have fE : decide (aD < (aC.length : Int)) = false := decide_eq_false c48
             clear c48
             (first | rw [fE] | (simp only [i64_w, i32_w]; rw [fE]) | skip)
             have H' := aM H
             clear H
             have sE := bG.out
             have sF := bP.out
             have sG := bB.out
             have sH := bL.out
             obtain ⟨kD, kE, kF, kG, kH, kI⟩ := cf3 aA
             go_wp2
             go_meet
             case rel => exact ⟨_, (false), (by first | rfl | (simp; done) | (simp [*]; done)), H', ⟨by have := cY.out; have := jZ.out; have := cV.out; have := nJ.out; first | omega | exact Nat.le_refl _⟩, ⟨pR aK.out⟩, ⟨pR aE.out⟩, ⟨pB aA.out⟩, ⟨pB aH.out⟩, ⟨pB aI.out⟩, ⟨pE HB⟩⟩
            rw [if_pos c48] at H
            have fE : decide (aD < (aC.length : Int)) = true := decide_eq_true c48
            clear c48
            (first | rw [fE] | (simp only [i64_w, i32_w]; rw [fE]) | skip)
            have H' := aM H
            clear H
            have sI := bG.out
            have sJ := bP.out
            have sK := bB.out
            have sL := bL.out
            obtain ⟨kJ, kK, kL, kM, kN, kO⟩ := cf3 aA
            go_wp2
            go_meet
            case rel => exact ⟨_, (decide (aD < 8)), (by first | rfl | (simp; done) | (simp [*]; done)), H', ⟨by have := cY.out; have := jZ.out; have := cV.out; have := nJ.out; first | omega | exact Nat.le_refl _⟩, ⟨pR aK.out⟩, ⟨pR aE.out⟩, ⟨pB aA.out⟩, ⟨pB aH.out⟩, ⟨pB aI.out⟩, ⟨pE HB⟩⟩
           case rest =>
            clear mM
            try clear c1
            try clear p1
            try clear q1
            try clear hx1
            try clear c2
            try clear p2
            try clear c3
            try clear p3
            try clear q3
            try clear hx3
            try clear hf3
            try clear c4
            try clear c5
            try clear p6
            try clear c8
            try clear eZ
            try clear c9
            try clear c10
            try clear p10
            try clear q10
            try clear hx10
            try clear c11
            try clear c17
            try clear cA
            try clear c18
            try clear c19
            try clear c21
            try clear c22
            try clear c24
            try clear c25
            try clear lS
            try clear lT
            try clear c26
            try clear lU
            try clear c27
            try clear lV
            try clear c29
            try clear iQ
            try clear c30
            try clear iR
            try clear c32
            try clear iS
            try clear c33
            try clear iT
            try clear p34
            try clear q34
            try clear hx34
            try clear hf34
            try clear p35
            try clear q35
            try clear hx35
            try clear hf35
            try clear c37
            try clear c38
            try clear c48
            try clear fE
            try clear c49
            try clear c50
            try clear c52
            try clear c53
            try clear eE
            try clear eF
            try clear eI
            try clear eJ
            try clear fP
            try clear fQ
            try clear fR
            try clear fJ
            try clear fK
            try clear fL
            try clear gR
            try clear gS
            try clear gW
            try clear gX
            try clear kJ
            try clear kK
            try clear kL
            try clear kD
            try clear kE
            try clear kF
            try clear eG
            try clear eH
            try clear eK
            try clear eM
            try clear fS
            try clear fT
            try clear fU
            try clear fM
            try clear fN
            try clear fO
            try clear gT
            try clear gU
            try clear gY
            try clear gZ
            try clear kM
            try clear kN
            try clear kO
            try clear kG
            try clear kH
            try clear kI
            try clear cQ
            try clear bQ
            try clear bV
            try clear gK
            try clear iX
            try clear p1
            try clear p10
            try clear fA
            try clear dG
            try clear fC
            try clear p2
            try clear p3
            try clear p34
            try clear p35
            try clear p6
            try clear q1
            try clear q10
            try clear fB
            try clear dH
            try clear fD
            try clear q3
            try clear q34
            try clear q35
            obtain ⟨kq, fV, rfl, HA, kP, aK, aE, aA, aH, aI, HB⟩ := hcut
            cases kq with
            | zero => exact absurd HA.out (by simp [aA2.j4])
            | succ kj46 =>
             have H := HA.out
             clear HA
             simp only [aA2.j4] at H
             by_cases c55 : fV = true
             rotate_left
             ·replace c55 := Bool.eq_false_iff.mpr c55
              subst c55
              rw [if_neg (show ¬ (false = true) by decide)] at H
              simp only [Option.some.injEq, Prod.mk.injEq] at H
              obtain ⟨rfl, rfl⟩ := H
              have sM := bL.out
              have sN := bB.out
              have sO := cD.out
              have sP := cC.out
              obtain ⟨_, _, _, _⟩ := cf2 aI
              obtain ⟨kQ, kR, qV⟩ := Kd.R_slice aK.out
              subst qV
              have sQ := bP.out
              have sR := bG.out
              obtain ⟨_, _, _, _⟩ := cf2 aH
              obtain ⟨iY, iZ, nT⟩ := Kd.R_slice aE.out
              subst nT
              go_wp2
              refine bodyPost_ret (results_cell_row rfl _ _ bD 25 #[.slice kQ aX.length kR, .slice iY aG.length iZ] (0, 0) _ rfl (by refine pB ?_; refine blk_put (cs := #[.slice kQ aX.length kR, .slice none 0 0]) ?_ 1 _ rfl; refine pB ?_; refine blk_put (cs := #[.slice none 0 0, .slice none 0 0]) ?_ 0 _ rfl; exact pB aH.out) Tryz.underlying25 rfl (by kernel_rfl)) rfl ?_
              exact ⟨_, _, eT, by (with_reducible repeat (first | apply Kd.R_alloc | apply Kd.R_drewN | apply Kd.R_drew)); exact Kd.R_mono (Kd.R_far (p := ⟨bD, 1, none⟩) (Kd.R_far (p := ⟨bD, 0, none⟩) (Kd.R_types aK.out aH.out (by decide)) (fun _ hk => hk.2) (.slice kQ aX.length kR)) (fun _ hk => hk.2) (.slice iY aG.length iZ)) (fun _ hk => trivial), by (with_reducible repeat (first | apply Kd.R_alloc | apply Kd.R_drewN | apply Kd.R_drew)); exact Kd.R_mono (Kd.R_far (p := ⟨bD, 1, none⟩) (Kd.R_far (p := ⟨bD, 0, none⟩) (Kd.R_types aE.out aH.out (by decide)) (fun _ hk => hk.2) (.slice kQ aX.length kR)) (fun _ hk => hk.2) (.slice iY aG.length iZ)) (fun _ hk => trivial), pE HB⟩
             subst c55
             rw [if_pos rfl] at H
             by_cases c56 : 0 ≤ aD
             rotate_left
             ·rw [if_neg c56] at H
              exact absurd H (by simp)
             rw [if_pos c56] at H
             have sS : decide (0 ≤ aD) = true := decide_eq_true c56
             clear c56
             by_cases c57 : aD < (aC.length : Int)
             rotate_left
             ·rw [if_neg c57] at H
              exact absurd H (by simp)
             rw [if_pos c57] at H
             have sT : decide (aD < (aC.length : Int)) = true := decide_eq_true c57
             clear c57
             by_cases c58 : (Int.tmod ((aA9 aC aD).f1) 3) = 0
             rotate_left
             ·rw [if_neg c58] at H
              have nU : ((Int.tmod ((aA9 aC aD).f1) 3) == 0) = false := beq_eq_false_iff_ne.mpr c58
              have nV : ((Int.tmod ((aA9 aC aD).f1) 3) != 0) = true := bne_iff_ne.mpr c58
              by_cases c77 : (wrap64 (1 + (Int.tmod (wrap64 (aW)) 4))) = 0
              ·rw [if_pos c77] at H
               exact absurd H (by simp)
              rw [if_neg c77] at H
              have sU : ((wrap64 (1 + (Int.tmod (wrap64 (aW)) 4))) == 0) = false := beq_eq_false_iff_ne.mpr c77
              have sV : ((wrap64 (1 + (Int.tmod (wrap64 (aW)) 4))) != 0) = true := bne_iff_ne.mpr c77
              obtain ⟨kS, hU⟩ : ∃ j_ : Int, (mn 20 (wrap64 ((wrap64 (1 + (Int.tmod (wrap64 ((aA9 aC aD).f2)) 15))) + (Int.tmod (wrap64 ((aA9 aC aD).f3)) 5)))) = j_ := ⟨_, rfl⟩
              replace H : ((aC5.f (wrap64 (1 + (Int.tmod (wrap64 ((aA9 aC aD).f2)) 15))) (kS)).bind fun bt119 => (if aX.length < 4398046511104 then (aA2.l2 kj46 (wrap64 (1 + (Int.tmod (wrap64 (aW)) 4))) cR (wrap64 (aD + 1)) aC aW bJ (aX ++ [(⟨Int.tmod (wrap64 ((aA9 aC aD).f0)) (wrap64 (1 + (Int.tmod (wrap64 (aW)) 4))), cR, (⟨bt119.1, bt119.2⟩ : S42)⟩ : S67)]) aG) else (none))) = some (r1, r2) := by first | (rw [hU] at H; exact H) | (simp only [hU] at H ⊢; exact H)
              have hji78_ : (if (wrap64 ((wrap64 (1 + (Int.tmod (wrap64 ((aA9 aC aD).f2)) 15))) + (Int.tmod (wrap64 ((aA9 aC aD).f3)) 5))) < 20 then (wrap64 ((wrap64 (1 + (Int.tmod (wrap64 ((aA9 aC aD).f2)) 15))) + (Int.tmod (wrap64 ((aA9 aC aD).f3)) 5))) else 20) = kS := hU
              obtain ⟨⟨jA, jB⟩, uK, H⟩ := bi H
              by_cases c80 : aX.length < 4398046511104
              rotate_left
              ·rw [if_neg c80] at H
               exact absurd H (by simp)
              rw [if_pos c80] at H
              have nW := aM c80
              clear c80
              obtain ⟨jC, jD⟩ : ∃ y_ : List (S67), y_ = (aX ++ [(⟨Int.tmod (wrap64 ((aA9 aC aD).f0)) (wrap64 (1 + (Int.tmod (wrap64 (aW)) 4))), cR, (⟨jA, jB⟩ : S42)⟩ : S67)]) := ⟨_, rfl⟩
              replace H : (aA2.l2 kj46 (wrap64 (1 + (Int.tmod (wrap64 (aW)) 4))) cR (wrap64 (aD + 1)) aC aW bJ jC aG) = some (r1, r2) := yy jD H
              have nX := aM jD
              clear jD
              have H' := aM H
              clear H
              have sW := bG.out
              have sX := bP.out
              have sY := bB.out
              have sZ := bL.out
              obtain ⟨_, _, _, _, _, _⟩ := cf3 aA
              have eP : 0 ≤ (aD : Int) := dT
              have eQ : aD < (aC.length : Int) := dT
              obtain ⟨eR, jE, cF, dI, dJ, dK⟩ := aE0 cZ.out aD eP eQ
              cases jE
              replace cF := cut_ HB cF
              replace dI := cut_ HB dI
              replace dJ := cut_ HB dJ
              replace dK := cut_ HB dK
              replace eP := eq_true eP
              replace eQ := eq_true eQ
              try go_wp2_with (first | ((with_reducible refine gate_dst (N := 12) rfl ?_); refine bx 12 #[.int .u8 0, .int .u8 0, .int .u8 0, .int .u8 0] 126 ?_; intro aJ hg w84 hbox hb; replace aK := rb aK hb; replace aE := rb aE hb; have aV := hbox; have nY := gs HB hg; have nZ := gs HB hg; replace HB := bs HB hb; have dP := nl aA hg; have dQ := nr aA hg; replace aA := bb aA hb; have dR := nl aH hg; have dS := nr aH hg; replace aH := bb aH hb; have cS := nl aI hg; have cT := nr aI hg; replace aI := bb aI hb; clear hb hbox hg; have tA := dQ.out; have tB := dP.out; have tC := dS.out; have tD := dR.out; have tE := cT.out; have tF := cS.out; obtain ⟨_, _, _, _, _, _, _, _⟩ := cf4 aV))
              have n0_ : Aside0 (Kd.R k67 67 ((((w84.setCell ⟨aJ, 0, none⟩ (.int .u8 ((aA9 aC aD).f0))).setCell ⟨aJ, 1, none⟩ (.int .u8 ((aA9 aC aD).f1))).setCell ⟨aJ, 2, none⟩ (.int .u8 ((aA9 aC aD).f2))).setCell ⟨aJ, 3, none⟩ (.int .u8 ((aA9 aC aD).f3))) w.heap.size (fun _ => True) bK aX) := ⟨by (with_reducible repeat (first | apply Kd.R_alloc | apply Kd.R_drewN | apply Kd.R_drew)); exact Kd.R_mono (Kd.R_far (p := ⟨aJ, 3, none⟩) (Kd.R_far (p := ⟨aJ, 2, none⟩) (Kd.R_far (p := ⟨aJ, 1, none⟩) (Kd.R_far (p := ⟨aJ, 0, none⟩) (Kd.R_types aK.out aV.out (by decide)) (fun _ hk => hk.2) (.int .u8 ((aA9 aC aD).f0))) (fun _ hk => hk.2) (.int .u8 ((aA9 aC aD).f1))) (fun _ hk => hk.2) (.int .u8 ((aA9 aC aD).f2))) (fun _ hk => hk.2) (.int .u8 ((aA9 aC aD).f3))) (fun _ hk => trivial)⟩
              have n1_ : Aside0 (Kd.R (Kd.int .i64) 3 ((((w84.setCell ⟨aJ, 0, none⟩ (.int .u8 ((aA9 aC aD).f0))).setCell ⟨aJ, 1, none⟩ (.int .u8 ((aA9 aC aD).f1))).setCell ⟨aJ, 2, none⟩ (.int .u8 ((aA9 aC aD).f2))).setCell ⟨aJ, 3, none⟩ (.int .u8 ((aA9 aC aD).f3))) w.heap.size (fun _ => True) bC aG) := ⟨by (with_reducible repeat (first | apply Kd.R_alloc | apply Kd.R_drewN | apply Kd.R_drew)); exact Kd.R_mono (Kd.R_far (p := ⟨aJ, 3, none⟩) (Kd.R_far (p := ⟨aJ, 2, none⟩) (Kd.R_far (p := ⟨aJ, 1, none⟩) (Kd.R_far (p := ⟨aJ, 0, none⟩) (Kd.R_types aE.out aV.out (by decide)) (fun _ hk => hk.2) (.int .u8 ((aA9 aC aD).f0))) (fun _ hk => hk.2) (.int .u8 ((aA9 aC aD).f1))) (fun _ hk => hk.2) (.int .u8 ((aA9 aC aD).f2))) (fun _ hk => hk.2) (.int .u8 ((aA9 aC aD).f3))) (fun _ hk => trivial)⟩
              have n2_ : Aside0 (((((w84.setCell ⟨aJ, 0, none⟩ (.int .u8 ((aA9 aC aD).f0))).setCell ⟨aJ, 1, none⟩ (.int .u8 ((aA9 aC aD).f1))).setCell ⟨aJ, 2, none⟩ (.int .u8 ((aA9 aC aD).f2))).setCell ⟨aJ, 3, none⟩ (.int .u8 ((aA9 aC aD).f3))).heap[aY]? = some (.cells #[.slice (some eR) aC.length bH, .int .u8 aW, .slice dF bJ.length cW] 76 (0, 0))) := ⟨pF aA⟩
              have n3_ : Aside0 (((((w84.setCell ⟨aJ, 0, none⟩ (.int .u8 ((aA9 aC aD).f0))).setCell ⟨aJ, 1, none⟩ (.int .u8 ((aA9 aC aD).f1))).setCell ⟨aJ, 2, none⟩ (.int .u8 ((aA9 aC aD).f2))).setCell ⟨aJ, 3, none⟩ (.int .u8 ((aA9 aC aD).f3))).heap[bD]? = some (.cells #[.slice none 0 0, .slice none 0 0] 25 (0, 0))) := ⟨pF aH⟩
              have n4_ : Aside0 (((((w84.setCell ⟨aJ, 0, none⟩ (.int .u8 ((aA9 aC aD).f0))).setCell ⟨aJ, 1, none⟩ (.int .u8 ((aA9 aC aD).f1))).setCell ⟨aJ, 2, none⟩ (.int .u8 ((aA9 aC aD).f2))).setCell ⟨aJ, 3, none⟩ (.int .u8 ((aA9 aC aD).f3))).heap[bI]? = some (.cells #[bK, bC] 25 (0, 0))) := ⟨pF aI⟩
              have n5_ : Aside0 (((((w84.setCell ⟨aJ, 0, none⟩ (.int .u8 ((aA9 aC aD).f0))).setCell ⟨aJ, 1, none⟩ (.int .u8 ((aA9 aC aD).f1))).setCell ⟨aJ, 2, none⟩ (.int .u8 ((aA9 aC aD).f2))).setCell ⟨aJ, 3, none⟩ (.int .u8 ((aA9 aC aD).f3))).heap[aJ]? = some (.cells #[.int .u8 ((aA9 aC aD).f0), .int .u8 ((aA9 aC aD).f1), .int .u8 ((aA9 aC aD).f2), .int .u8 ((aA9 aC aD).f3)] 126 (0, 0))) := ⟨by refine pB ?_; refine blk_put (cs := #[.int .u8 ((aA9 aC aD).f0), .int .u8 ((aA9 aC aD).f1), .int .u8 ((aA9 aC aD).f2), .int .u8 0]) ?_ 3 _ rfl; refine pB ?_; refine blk_put (cs := #[.int .u8 ((aA9 aC aD).f0), .int .u8 ((aA9 aC aD).f1), .int .u8 0, .int .u8 0]) ?_ 2 _ rfl; refine pB ?_; refine blk_put (cs := #[.int .u8 ((aA9 aC aD).f0), .int .u8 0, .int .u8 0, .int .u8 0]) ?_ 1 _ rfl; refine pB ?_; refine blk_put (cs := #[.int .u8 0, .int .u8 0, .int .u8 0, .int .u8 0]) ?_ 0 _ rfl; exact pB aV.out⟩
              have n6_ : Aside0 (Below w.heap.size w ((((w84.setCell ⟨aJ, 0, none⟩ (.int .u8 ((aA9 aC aD).f0))).setCell ⟨aJ, 1, none⟩ (.int .u8 ((aA9 aC aD).f1))).setCell ⟨aJ, 2, none⟩ (.int .u8 ((aA9 aC aD).f2))).setCell ⟨aJ, 3, none⟩ (.int .u8 ((aA9 aC aD).f3)))) := ⟨pE HB⟩
              (try clear aK)
              (try clear aE)
              (try clear aA)
              (try clear aH)
              (try clear aI)
              (try clear aV)
              (try clear HB)
              generalize ((((w84.setCell ⟨aJ, 0, none⟩ (.int .u8 ((aA9 aC aD).f0))).setCell ⟨aJ, 1, none⟩ (.int .u8 ((aA9 aC aD).f1))).setCell ⟨aJ, 2, none⟩ (.int .u8 ((aA9 aC aD).f2))).setCell ⟨aJ, 3, none⟩ (.int .u8 ((aA9 aC aD).f3))) = w89 at n0_ n1_ n2_ n3_ n4_ n5_ n6_ ⊢
              have aK := n0_
              have aE := n1_
              have aA := n2_
              have aH := n3_
              have aI := n4_
              have aV := n5_
              have HB := n6_
              clear n0_ n1_ n2_ n3_ n4_ n5_ n6_
              replace aK := aM (Kd.R_drew aK.out)
              replace aE := aM (Kd.R_drew aE.out)
              replace aA := aM (blk_drew aA.out)
              replace aH := aM (blk_drew aH.out)
              replace aI := aM (blk_drew aI.out)
              replace aV := aM (blk_drew aV.out)
              replace HB := aM (below_drew1 HB.out)
              refine start_ (n := 22) (S := fun w' => w'.cell? ⟨bI, 0, none⟩ = some (bK) ∧ w'.cell? ⟨bI, 1, none⟩ = some (bC) ∧ w'.cell? ⟨aJ, 0, none⟩ = some (.int .u8 ((aA9 aC aD).f0)) ∧ w'.cell? ⟨aJ, 1, none⟩ = some (.int .u8 ((aA9 aC aD).f1)) ∧ w'.cell? ⟨aJ, 2, none⟩ = some (.int .u8 ((aA9 aC aD).f2)) ∧ w'.cell? ⟨aJ, 3, none⟩ = some (.int .u8 ((aA9 aC aD).f3))) (ds := [21]) #[false, false, false, false, false, false, false, false, false, false, false, false, false, false, false, false, false, false, false, false, false, false] (by kernel_rfl) rfl rfl ⟨(blk_cell aI.out 0).trans rfl, (blk_cell aI.out 1).trans rfl, (blk_cell aV.out 0).trans rfl, (blk_cell aV.out 1).trans rfl, (blk_cell aV.out 2).trans rfl, (blk_cell aV.out 3).trans rfl⟩ (fun aN => ?_); refine with_tabW aA2.tab20 aA2.bits20 (fun HT_ HW_ => ?_)
              generalize w89.drew = w90 at aK aE aA aH aI aV HB aN ⊢
              refine pu 0 103 ?_
              refine pu 2 105 ?_
              refine pu 5 108 ?_
              refine pu 7 110 ?_
              refine pu 8 111 ?_
              refine pu 9 112 ?_
              refine pu 10 113 ?_
              refine tk 1 104 aN ?_
              refine tk 3 106 aN ?_
              refine pu 4 107 ?_
              refine pu 6 109 ?_
              refine tk 11 114 aN ?_
              refine pu 12 115 ?_
              refine pu 13 116 ?_
              refine pu 14 117 ?_
              refine pu 15 118 ?_
              refine on 16 (fun K hK => ?_)
              refine goes_ Tryz.func55 (by kernel_rfl) rfl #[.int .i64 (wrap64 (1 + (Int.tmod (wrap64 ((aA9 aC aD).f2)) 15))), .int .i64 kS] (by rfl) rfl rfl (by (try simp only [List.map_toArray, List.map_cons, List.map_nil]); first | done | (simp only [hU]; rfl) | rfl | (simp only [List.length_drop, List.length_take]; rfl)) ?_
              with_reducible refine (aC5.calls (wrap64 (1 + (Int.tmod (wrap64 ((aA9 aC aD).f2)) 15))) kS jA jB _ uK.out).mono ?_
              rintro e w91 ⟨rfl, hb⟩
              refine ⟨_, rfl, ?_⟩
              replace aK := rb aK hb
              replace aE := rb aE hb
              replace aA := bb aA hb
              replace aH := bb aH hb
              replace aI := bb aI hb
              replace aV := bb aV hb
              replace HB := bs HB hb
              (try clear hb)
              (try clear hb2)
              (try clear hk)
              (try clear hi)
              refine hK.out _ _ ⟨(blk_cell aI.out 0).trans rfl, (blk_cell aI.out 1).trans rfl, (blk_cell aV.out 0).trans rfl, (blk_cell aV.out 1).trans rfl, (blk_cell aV.out 2).trans rfl, (blk_cell aV.out 3).trans rfl⟩ (fun aN => ?_)
              clear hK K
              refine norm_ (a' := ?_) ?_ ?_
              rotate_left
              ·show Act.put _ (some 119) _ = _
               simp only [Act.put, List.setIfInBounds_toArray, List.set_cons_zero, List.set_cons_succ, i64_w, i32_w]
               rfl
              refine pu 17 120 ?_
              refine on 18 (fun K hK => ?_)
              refine value_ (w1 := ?_) (v := ?_) (by rfl) rfl ?_ ?_
              rotate_left 2
              ·go_simp
               constructor
               ·rfl
               ·rfl
              refine hK.out _ _ ⟨(blk_cell (blk_alloc aI.out _) 0).trans rfl, (blk_cell (blk_alloc aI.out _) 1).trans rfl, (blk_cell (blk_alloc aV.out _) 0).trans rfl, (blk_cell (blk_alloc aV.out _) 1).trans rfl, (blk_cell (blk_alloc aV.out _) 2).trans rfl, (blk_cell (blk_alloc aV.out _) 3).trans rfl⟩ (fun aN => ?_)
              clear hK K
              refine norm_ (a' := ?_) ?_ ?_
              rotate_left
              ·show Act.put _ (some 121) _ = _
               simp only [Act.put, List.setIfInBounds_toArray, List.set_cons_zero, List.set_cons_succ, i64_w, i32_w]
               rfl
              refine on 19 (fun K hK => ?_)
              refine Kd.R_append_step k67 (w0 := w) w.heap.size (by rfl) (.tmp 104) (.tmp 121) 22 67 (.agg #[(.int .i64 0), (.int .i64 0), (.int .i64 0), (.int .i64 0)]) 32 rfl Tryz.underlying22 info67 rfl (by decide) (by omega) bK aX (⟨Int.tmod (wrap64 ((aA9 aC aD).f0)) (wrap64 (1 + (Int.tmod (wrap64 (aW)) 4))), cR, (⟨jA, jB⟩ : S42)⟩ : S67) [.int .i64 (Int.tmod (wrap64 ((aA9 aC aD).f0)) (wrap64 (1 + (Int.tmod (wrap64 (aW)) 4)))), .int .i64 cR, .int .i64 jA, .int .i64 jB] (fun _ => True) (fun _ => False) rfl rfl ?aP (fun _ hk => hk.elim) ?aF ?aO ?aB ?aS ?aL ?_
              (case aP => exact k67_mkM _ _ _ (⟨Int.tmod (wrap64 ((aA9 aC aD).f0)) (wrap64 (1 + (Int.tmod (wrap64 (aW)) 4))), cR, (⟨jA, jB⟩ : S42)⟩ : S67))
              (case aB => exact (pE HB))
              (case aF => exact (fun _ _ => trivial))
              (case aO => exact (pR aK.out))
              (case aS => exact (below_size (pE HB)))
              (case aL => have := nW.out; omega)
              intro uL w92 ho hb hg hat
              rw [← nX.out] at ho
              replace aE := aM (Kd.R_over' (pR aE.out) (Kd.R_typed (pR aK.out)) (by decide) hg)
              replace aA := aM (blk_grown (g := aY) (o := .cells #[.slice (some eR) aC.length bH, .int .u8 aW, .slice dF bJ.length cW] 76 (0, 0)) (pB aA.out) hg (Kd.R_ne aK.out aA.out (by decide)))
              replace aH := aM (blk_grown (g := bD) (o := .cells #[.slice none 0 0, .slice none 0 0] 25 (0, 0)) (pB aH.out) hg (Kd.R_ne aK.out aH.out (by decide)))
              replace aI := aM (blk_grown (g := bI) (o := .cells #[bK, bC] 25 (0, 0)) (pB aI.out) hg (Kd.R_ne aK.out aI.out (by decide)))
              replace aV := aM (blk_grown (g := aJ) (o := .cells #[.int .u8 ((aA9 aC aD).f0), .int .u8 ((aA9 aC aD).f1), .int .u8 ((aA9 aC aD).f2), .int .u8 ((aA9 aC aD).f3)] 126 (0, 0)) (pB aV.out) hg (Kd.R_ne aK.out aV.out (by decide)))
              replace HB := aM (hb)
              have lY := aM (ho)
              clear aK ho hb hg hat
              obtain ⟨mN, mO, oA⟩ := Kd.R_slice lY.out
              (first | subst oA | (injection oA with f1_ f2_ f3_; have f4_ := f1_.symm; have f5_ := f3_.symm; clear f1_ f2_ f3_; subst f4_; subst f5_))
              refine hK.out _ _ ⟨(blk_cell aI.out 0).trans rfl, (blk_cell aI.out 1).trans rfl, (blk_cell aV.out 0).trans rfl, (blk_cell aV.out 1).trans rfl, (blk_cell aV.out 2).trans rfl, (blk_cell aV.out 3).trans rfl⟩ (fun aN => ?_)
              clear hK K
              refine norm_ (a' := ?_) ?_ ?_
              rotate_left
              ·show Act.put _ (some 122) _ = _
               simp only [Act.put, List.setIfInBounds_toArray, List.set_cons_zero, List.set_cons_succ, i64_w, i32_w]
               rfl
              refine pu 20 123 ?_
              refine last_ (i := 21) (N := none) #[true, true, true, true, true, true, true, true, true, true, true, true, true, true, true, true, true, true, true, true, true, true] rfl rfl (one_of HT_.out (by kernel_rfl)) (by decide) (fun K hK => ?_)
              have hs94 : w92.cell? ⟨bI, 0, none⟩ = some (bK) := (blk_cell aI.out 0).trans rfl
              have hfs94 := blk_frozen aI.out 0
              have pQ := bB.out
              have pS := cC.out
              have pT := cT.out
              have pU := bL.out
              have pW := cD.out
              have pX := cS.out
              refine skip_ (w1 := ?_) (by rfl) rfl ?_ ?_
              rotate_left
              ·go_simp
               rfl
              refine hK.out _ _ ?_
              clear hK K
              refine done_ (done_of HT_.out (by kernel_rfl)) ?_
              try go_wp2
              go_roundg kj46
              case measure => have := cY.out; have := jZ.out; have := cV.out; have := nJ.out; have := kP.out; omega
              case rel => exact ⟨(cR), (wrap64 (aD + 1)), (jC), (.slice mN jC.length mO), (by first | rfl | (simp; done) | (simp [*]; done)), (by first | rfl | (simp; done) | (simp [*]; done)), H', ⟨by have := cY.out; have := jZ.out; have := cV.out; have := nJ.out; have := kP.out; omega⟩, ⟨by (with_reducible repeat (first | apply Kd.R_alloc | apply Kd.R_drewN | apply Kd.R_drew)); exact Kd.R_mono (Kd.R_far (p := ⟨bI, 0, none⟩) (Kd.R_types lY.out aI.out (by decide)) (fun _ hk => hk.2) (.slice mN jC.length mO)) (fun _ hk => trivial)⟩, ⟨by (with_reducible repeat (first | apply Kd.R_alloc | apply Kd.R_drewN | apply Kd.R_drew)); exact Kd.R_mono (Kd.R_far (p := ⟨bI, 0, none⟩) (Kd.R_types aE.out aI.out (by decide)) (fun _ hk => hk.2) (.slice mN jC.length mO)) (fun _ hk => trivial)⟩, ⟨pF aA⟩, ⟨pF aH⟩, ⟨by refine pB ?_; refine blk_put (cs := #[bK, bC]) ?_ 0 _ rfl; exact pB aI.out⟩, ⟨pE HB⟩⟩
             rw [if_pos c58] at H
             have nU : ((Int.tmod ((aA9 aC aD).f1) 3) == 0) = true := beq_iff_eq.mpr c58
             have nV : ((Int.tmod ((aA9 aC aD).f1) 3) != 0) = false := bne_eq_false_iff_eq.mpr c58
             clear c58
             by_cases c59 : (wrap64 (1 + (Int.tmod (wrap64 (aW)) 4))) = 0
             ·rw [if_pos c59] at H
              exact absurd H (by simp)
             rw [if_neg c59] at H
             have tG : ((wrap64 (1 + (Int.tmod (wrap64 (aW)) 4))) == 0) = false := beq_eq_false_iff_ne.mpr c59
             have tH : ((wrap64 (1 + (Int.tmod (wrap64 (aW)) 4))) != 0) = true := bne_iff_ne.mpr c59
             obtain ⟨kT, hX⟩ : ∃ j_ : Int, (mn 20 (wrap64 ((wrap64 (1 + (Int.tmod (wrap64 ((aA9 aC aD).f2)) 15))) + (Int.tmod (wrap64 ((aA9 aC aD).f3)) 5)))) = j_ := ⟨_, rfl⟩
             replace H : ((aC5.f (wrap64 (1 + (Int.tmod (wrap64 ((aA9 aC aD).f2)) 15))) (kT)).bind fun bt114 => (if aX.length < 4398046511104 then (aA2.l2 kj46 (wrap64 (1 + (Int.tmod (wrap64 (aW)) 4))) (wrap64 (cR + (Int.tmod (wrap64 ((aA9 aC aD).f1)) 20))) (wrap64 (aD + 1)) aC aW bJ (aX ++ [(⟨Int.tmod (wrap64 ((aA9 aC aD).f0)) (wrap64 (1 + (Int.tmod (wrap64 (aW)) 4))), wrap64 (cR + (Int.tmod (wrap64 ((aA9 aC aD).f1)) 20)), (⟨bt114.1, bt114.2⟩ : S42)⟩ : S67)]) aG) else (none))) = some (r1, r2) := by first | (rw [hX] at H; exact H) | (simp only [hX] at H ⊢; exact H)
             have hji60_ : (if (wrap64 ((wrap64 (1 + (Int.tmod (wrap64 ((aA9 aC aD).f2)) 15))) + (Int.tmod (wrap64 ((aA9 aC aD).f3)) 5))) < 20 then (wrap64 ((wrap64 (1 + (Int.tmod (wrap64 ((aA9 aC aD).f2)) 15))) + (Int.tmod (wrap64 ((aA9 aC aD).f3)) 5))) else 20) = kT := hX
             obtain ⟨⟨jF, jG⟩, uM, H⟩ := bi H
             by_cases c62 : aX.length < 4398046511104
             rotate_left
             ·rw [if_neg c62] at H
              exact absurd H (by simp)
             rw [if_pos c62] at H
             have oB := aM c62
             clear c62
             obtain ⟨jH, jI⟩ : ∃ y_ : List (S67), y_ = (aX ++ [(⟨Int.tmod (wrap64 ((aA9 aC aD).f0)) (wrap64 (1 + (Int.tmod (wrap64 (aW)) 4))), wrap64 (cR + (Int.tmod (wrap64 ((aA9 aC aD).f1)) 20)), (⟨jF, jG⟩ : S42)⟩ : S67)]) := ⟨_, rfl⟩
             replace H : (aA2.l2 kj46 (wrap64 (1 + (Int.tmod (wrap64 (aW)) 4))) (wrap64 (cR + (Int.tmod (wrap64 ((aA9 aC aD).f1)) 20))) (wrap64 (aD + 1)) aC aW bJ jH aG) = some (r1, r2) := yy jI H
             have oC := aM jI
             clear jI
             have H' := aM H
             clear H
             have tI := bG.out
             have tJ := bP.out
             have tK := bB.out
             have tL := bL.out
             obtain ⟨_, _, _, _, _, _⟩ := cf3 aA
             have eP : 0 ≤ (aD : Int) := dT
             have eQ : aD < (aC.length : Int) := dT
             obtain ⟨eR, jE, cF, dI, dJ, dK⟩ := aE0 cZ.out aD eP eQ
             cases jE
             replace cF := cut_ HB cF
             replace dI := cut_ HB dI
             replace dJ := cut_ HB dJ
             replace dK := cut_ HB dK
             replace eP := eq_true eP
             replace eQ := eq_true eQ
             try go_wp2_with (first | ((with_reducible refine gate_dst (N := 12) rfl ?_); refine bx 12 #[.int .u8 0, .int .u8 0, .int .u8 0, .int .u8 0] 126 ?_; intro aJ hg w66 hbox hb; replace aK := rb aK hb; replace aE := rb aE hb; have aV := hbox; have nY := gs HB hg; have nZ := gs HB hg; replace HB := bs HB hb; have dP := nl aA hg; have dQ := nr aA hg; replace aA := bb aA hb; have dR := nl aH hg; have dS := nr aH hg; replace aH := bb aH hb; have cS := nl aI hg; have cT := nr aI hg; replace aI := bb aI hb; clear hb hbox hg; have tM := dQ.out; have tN := dP.out; have tO := dS.out; have tP := dR.out; have tQ := cT.out; have tR := cS.out; obtain ⟨_, _, _, _, _, _, _, _⟩ := cf4 aV))
             have n0_ : Aside0 (Kd.R k67 67 ((((w66.setCell ⟨aJ, 0, none⟩ (.int .u8 ((aA9 aC aD).f0))).setCell ⟨aJ, 1, none⟩ (.int .u8 ((aA9 aC aD).f1))).setCell ⟨aJ, 2, none⟩ (.int .u8 ((aA9 aC aD).f2))).setCell ⟨aJ, 3, none⟩ (.int .u8 ((aA9 aC aD).f3))) w.heap.size (fun _ => True) bK aX) := ⟨by (with_reducible repeat (first | apply Kd.R_alloc | apply Kd.R_drewN | apply Kd.R_drew)); exact Kd.R_mono (Kd.R_far (p := ⟨aJ, 3, none⟩) (Kd.R_far (p := ⟨aJ, 2, none⟩) (Kd.R_far (p := ⟨aJ, 1, none⟩) (Kd.R_far (p := ⟨aJ, 0, none⟩) (Kd.R_types aK.out aV.out (by decide)) (fun _ hk => hk.2) (.int .u8 ((aA9 aC aD).f0))) (fun _ hk => hk.2) (.int .u8 ((aA9 aC aD).f1))) (fun _ hk => hk.2) (.int .u8 ((aA9 aC aD).f2))) (fun _ hk => hk.2) (.int .u8 ((aA9 aC aD).f3))) (fun _ hk => trivial)⟩
             have n1_ : Aside0 (Kd.R (Kd.int .i64) 3 ((((w66.setCell ⟨aJ, 0, none⟩ (.int .u8 ((aA9 aC aD).f0))).setCell ⟨aJ, 1, none⟩ (.int .u8 ((aA9 aC aD).f1))).setCell ⟨aJ, 2, none⟩ (.int .u8 ((aA9 aC aD).f2))).setCell ⟨aJ, 3, none⟩ (.int .u8 ((aA9 aC aD).f3))) w.heap.size (fun _ => True) bC aG) := ⟨by (with_reducible repeat (first | apply Kd.R_alloc | apply Kd.R_drewN | apply Kd.R_drew)); exact Kd.R_mono (Kd.R_far (p := ⟨aJ, 3, none⟩) (Kd.R_far (p := ⟨aJ, 2, none⟩) (Kd.R_far (p := ⟨aJ, 1, none⟩) (Kd.R_far (p := ⟨aJ, 0, none⟩) (Kd.R_types aE.out aV.out (by decide)) (fun _ hk => hk.2) (.int .u8 ((aA9 aC aD).f0))) (fun _ hk => hk.2) (.int .u8 ((aA9 aC aD).f1))) (fun _ hk => hk.2) (.int .u8 ((aA9 aC aD).f2))) (fun _ hk => hk.2) (.int .u8 ((aA9 aC aD).f3))) (fun _ hk => trivial)⟩
             have n2_ : Aside0 (((((w66.setCell ⟨aJ, 0, none⟩ (.int .u8 ((aA9 aC aD).f0))).setCell ⟨aJ, 1, none⟩ (.int .u8 ((aA9 aC aD).f1))).setCell ⟨aJ, 2, none⟩ (.int .u8 ((aA9 aC aD).f2))).setCell ⟨aJ, 3, none⟩ (.int .u8 ((aA9 aC aD).f3))).heap[aY]? = some (.cells #[.slice (some eR) aC.length bH, .int .u8 aW, .slice dF bJ.length cW] 76 (0, 0))) := ⟨pF aA⟩
             have n3_ : Aside0 (((((w66.setCell ⟨aJ, 0, none⟩ (.int .u8 ((aA9 aC aD).f0))).setCell ⟨aJ, 1, none⟩ (.int .u8 ((aA9 aC aD).f1))).setCell ⟨aJ, 2, none⟩ (.int .u8 ((aA9 aC aD).f2))).setCell ⟨aJ, 3, none⟩ (.int .u8 ((aA9 aC aD).f3))).heap[bD]? = some (.cells #[.slice none 0 0, .slice none 0 0] 25 (0, 0))) := ⟨pF aH⟩
             have n4_ : Aside0 (((((w66.setCell ⟨aJ, 0, none⟩ (.int .u8 ((aA9 aC aD).f0))).setCell ⟨aJ, 1, none⟩ (.int .u8 ((aA9 aC aD).f1))).setCell ⟨aJ, 2, none⟩ (.int .u8 ((aA9 aC aD).f2))).setCell ⟨aJ, 3, none⟩ (.int .u8 ((aA9 aC aD).f3))).heap[bI]? = some (.cells #[bK, bC] 25 (0, 0))) := ⟨pF aI⟩
             have n5_ : Aside0 (((((w66.setCell ⟨aJ, 0, none⟩ (.int .u8 ((aA9 aC aD).f0))).setCell ⟨aJ, 1, none⟩ (.int .u8 ((aA9 aC aD).f1))).setCell ⟨aJ, 2, none⟩ (.int .u8 ((aA9 aC aD).f2))).setCell ⟨aJ, 3, none⟩ (.int .u8 ((aA9 aC aD).f3))).heap[aJ]? = some (.cells #[.int .u8 ((aA9 aC aD).f0), .int .u8 ((aA9 aC aD).f1), .int .u8 ((aA9 aC aD).f2), .int .u8 ((aA9 aC aD).f3)] 126 (0, 0))) := ⟨by refine pB ?_; refine blk_put (cs := #[.int .u8 ((aA9 aC aD).f0), .int .u8 ((aA9 aC aD).f1), .int .u8 ((aA9 aC aD).f2), .int .u8 0]) ?_ 3 _ rfl; refine pB ?_; refine blk_put (cs := #[.int .u8 ((aA9 aC aD).f0), .int .u8 ((aA9 aC aD).f1), .int .u8 0, .int .u8 0]) ?_ 2 _ rfl; refine pB ?_; refine blk_put (cs := #[.int .u8 ((aA9 aC aD).f0), .int .u8 0, .int .u8 0, .int .u8 0]) ?_ 1 _ rfl; refine pB ?_; refine blk_put (cs := #[.int .u8 0, .int .u8 0, .int .u8 0, .int .u8 0]) ?_ 0 _ rfl; exact pB aV.out⟩
             have n6_ : Aside0 (Below w.heap.size w ((((w66.setCell ⟨aJ, 0, none⟩ (.int .u8 ((aA9 aC aD).f0))).setCell ⟨aJ, 1, none⟩ (.int .u8 ((aA9 aC aD).f1))).setCell ⟨aJ, 2, none⟩ (.int .u8 ((aA9 aC aD).f2))).setCell ⟨aJ, 3, none⟩ (.int .u8 ((aA9 aC aD).f3)))) := ⟨pE HB⟩
             (try clear aK)
             (try clear aE)
             (try clear aA)
             (try clear aH)
             (try clear aI)
             (try clear aV)
             (try clear HB)
             generalize ((((w66.setCell ⟨aJ, 0, none⟩ (.int .u8 ((aA9 aC aD).f0))).setCell ⟨aJ, 1, none⟩ (.int .u8 ((aA9 aC aD).f1))).setCell ⟨aJ, 2, none⟩ (.int .u8 ((aA9 aC aD).f2))).setCell ⟨aJ, 3, none⟩ (.int .u8 ((aA9 aC aD).f3))) = w71 at n0_ n1_ n2_ n3_ n4_ n5_ n6_ ⊢
             have aK := n0_
             have aE := n1_
             have aA := n2_
             have aH := n3_
             have aI := n4_
             have aV := n5_
             have HB := n6_
             clear n0_ n1_ n2_ n3_ n4_ n5_ n6_
             replace aK := aM (Kd.R_drew aK.out)
             replace aE := aM (Kd.R_drew aE.out)
             replace aA := aM (blk_drew aA.out)
             replace aH := aM (blk_drew aH.out)
             replace aI := aM (blk_drew aI.out)
             replace aV := aM (blk_drew aV.out)
             replace HB := aM (below_drew1 HB.out)
             refine start_ (n := 22) (S := fun w' => w'.cell? ⟨bI, 0, none⟩ = some (bK) ∧ w'.cell? ⟨bI, 1, none⟩ = some (bC) ∧ w'.cell? ⟨aJ, 0, none⟩ = some (.int .u8 ((aA9 aC aD).f0)) ∧ w'.cell? ⟨aJ, 1, none⟩ = some (.int .u8 ((aA9 aC aD).f1)) ∧ w'.cell? ⟨aJ, 2, none⟩ = some (.int .u8 ((aA9 aC aD).f2)) ∧ w'.cell? ⟨aJ, 3, none⟩ = some (.int .u8 ((aA9 aC aD).f3))) (ds := [21]) #[false, false, false, false, false, false, false, false, false, false, false, false, false, false, false, false, false, false, false, false, false, false] (by kernel_rfl) rfl rfl ⟨(blk_cell aI.out 0).trans rfl, (blk_cell aI.out 1).trans rfl, (blk_cell aV.out 0).trans rfl, (blk_cell aV.out 1).trans rfl, (blk_cell aV.out 2).trans rfl, (blk_cell aV.out 3).trans rfl⟩ (fun aN => ?_); refine with_tabW aA2.tab20 aA2.bits20 (fun HT_ HW_ => ?_)
             generalize w71.drew = w72 at aK aE aA aH aI aV HB aN ⊢
             refine pu 0 103 ?_
             refine pu 2 105 ?_
             refine pu 5 108 ?_
             refine pu 7 110 ?_
             refine pu 8 111 ?_
             refine pu 9 112 ?_
             refine pu 10 113 ?_
             refine tk 1 104 aN ?_
             refine tk 3 106 aN ?_
             refine pu 4 107 ?_
             refine pu 6 109 ?_
             refine tk 11 114 aN ?_
             refine pu 12 115 ?_
             refine pu 13 116 ?_
             refine pu 14 117 ?_
             refine pu 15 118 ?_
             refine on 16 (fun K hK => ?_)
             refine goes_ Tryz.func55 (by kernel_rfl) rfl #[.int .i64 (wrap64 (1 + (Int.tmod (wrap64 ((aA9 aC aD).f2)) 15))), .int .i64 kT] (by rfl) rfl rfl (by (try simp only [List.map_toArray, List.map_cons, List.map_nil]); first | done | (simp only [hX]; rfl) | rfl | (simp only [List.length_drop, List.length_take]; rfl)) ?_
             with_reducible refine (aC5.calls (wrap64 (1 + (Int.tmod (wrap64 ((aA9 aC aD).f2)) 15))) kT jF jG _ uM.out).mono ?_
             rintro e w73 ⟨rfl, hb⟩
             refine ⟨_, rfl, ?_⟩
             replace aK := rb aK hb
             replace aE := rb aE hb
             replace aA := bb aA hb
             replace aH := bb aH hb
             replace aI := bb aI hb
             replace aV := bb aV hb
             replace HB := bs HB hb
             (try clear hb)
             (try clear hb2)
             (try clear hk)
             (try clear hi)
             refine hK.out _ _ ⟨(blk_cell aI.out 0).trans rfl, (blk_cell aI.out 1).trans rfl, (blk_cell aV.out 0).trans rfl, (blk_cell aV.out 1).trans rfl, (blk_cell aV.out 2).trans rfl, (blk_cell aV.out 3).trans rfl⟩ (fun aN => ?_)
             clear hK K
             refine norm_ (a' := ?_) ?_ ?_
             rotate_left
             ·show Act.put _ (some 119) _ = _
              simp only [Act.put, List.setIfInBounds_toArray, List.set_cons_zero, List.set_cons_succ, i64_w, i32_w]
              rfl
             refine pu 17 120 ?_
             refine on 18 (fun K hK => ?_)
             refine value_ (w1 := ?_) (v := ?_) (by rfl) rfl ?_ ?_
             rotate_left 2
             ·go_simp
              constructor
              ·rfl
              ·rfl
             refine hK.out _ _ ⟨(blk_cell (blk_alloc aI.out _) 0).trans rfl, (blk_cell (blk_alloc aI.out _) 1).trans rfl, (blk_cell (blk_alloc aV.out _) 0).trans rfl, (blk_cell (blk_alloc aV.out _) 1).trans rfl, (blk_cell (blk_alloc aV.out _) 2).trans rfl, (blk_cell (blk_alloc aV.out _) 3).trans rfl⟩ (fun aN => ?_)
             clear hK K
             refine norm_ (a' := ?_) ?_ ?_
             rotate_left
             ·show Act.put _ (some 121) _ = _
              simp only [Act.put, List.setIfInBounds_toArray, List.set_cons_zero, List.set_cons_succ, i64_w, i32_w]
              rfl
             refine on 19 (fun K hK => ?_)
             refine Kd.R_append_step k67 (w0 := w) w.heap.size (by rfl) (.tmp 104) (.tmp 121) 22 67 (.agg #[(.int .i64 0), (.int .i64 0), (.int .i64 0), (.int .i64 0)]) 32 rfl Tryz.underlying22 info67 rfl (by decide) (by omega) bK aX (⟨Int.tmod (wrap64 ((aA9 aC aD).f0)) (wrap64 (1 + (Int.tmod (wrap64 (aW)) 4))), wrap64 (cR + (Int.tmod (wrap64 ((aA9 aC aD).f1)) 20)), (⟨jF, jG⟩ : S42)⟩ : S67) [.int .i64 (Int.tmod (wrap64 ((aA9 aC aD).f0)) (wrap64 (1 + (Int.tmod (wrap64 (aW)) 4)))), .int .i64 (wrap64 (cR + (Int.tmod (wrap64 ((aA9 aC aD).f1)) 20))), .int .i64 jF, .int .i64 jG] (fun _ => True) (fun _ => False) rfl rfl ?aP (fun _ hk => hk.elim) ?aF ?aO ?aB ?aS ?aL ?_
             (case aP => exact k67_mkM _ _ _ (⟨Int.tmod (wrap64 ((aA9 aC aD).f0)) (wrap64 (1 + (Int.tmod (wrap64 (aW)) 4))), wrap64 (cR + (Int.tmod (wrap64 ((aA9 aC aD).f1)) 20)), (⟨jF, jG⟩ : S42)⟩ : S67))
             (case aB => exact (pE HB))
             (case aF => exact (fun _ _ => trivial))
             (case aO => exact (pR aK.out))
             (case aS => exact (below_size (pE HB)))
             (case aL => have := oB.out; omega)
             intro uN w74 ho hb hg hat
             rw [← oC.out] at ho
             replace aE := aM (Kd.R_over' (pR aE.out) (Kd.R_typed (pR aK.out)) (by decide) hg)
             replace aA := aM (blk_grown (g := aY) (o := .cells #[.slice (some eR) aC.length bH, .int .u8 aW, .slice dF bJ.length cW] 76 (0, 0)) (pB aA.out) hg (Kd.R_ne aK.out aA.out (by decide)))
             replace aH := aM (blk_grown (g := bD) (o := .cells #[.slice none 0 0, .slice none 0 0] 25 (0, 0)) (pB aH.out) hg (Kd.R_ne aK.out aH.out (by decide)))
             replace aI := aM (blk_grown (g := bI) (o := .cells #[bK, bC] 25 (0, 0)) (pB aI.out) hg (Kd.R_ne aK.out aI.out (by decide)))
             replace aV := aM (blk_grown (g := aJ) (o := .cells #[.int .u8 ((aA9 aC aD).f0), .int .u8 ((aA9 aC aD).f1), .int .u8 ((aA9 aC aD).f2), .int .u8 ((aA9 aC aD).f3)] 126 (0, 0)) (pB aV.out) hg (Kd.R_ne aK.out aV.out (by decide)))
             replace HB := aM (hb)
             have lZ := aM (ho)
             clear aK ho hb hg hat
             obtain ⟨mP, mQ, oD⟩ := Kd.R_slice lZ.out
             (first | subst oD | (injection oD with f1_ f2_ f3_; have f4_ := f1_.symm; have f5_ := f3_.symm; clear f1_ f2_ f3_; subst f4_; subst f5_))
             refine hK.out _ _ ⟨(blk_cell aI.out 0).trans rfl, (blk_cell aI.out 1).trans rfl, (blk_cell aV.out 0).trans rfl, (blk_cell aV.out 1).trans rfl, (blk_cell aV.out 2).trans rfl, (blk_cell aV.out 3).trans rfl⟩ (fun aN => ?_)
             clear hK K
             refine norm_ (a' := ?_) ?_ ?_
             rotate_left
             ·show Act.put _ (some 122) _ = _
              simp only [Act.put, List.setIfInBounds_toArray, List.set_cons_zero, List.set_cons_succ, i64_w, i32_w]
              rfl
             refine pu 20 123 ?_
             refine last_ (i := 21) (N := none) #[true, true, true, true, true, true, true, true, true, true, true, true, true, true, true, true, true, true, true, true, true, true] rfl rfl (one_of HT_.out (by kernel_rfl)) (by decide) (fun K hK => ?_)
             have hs76 : w74.cell? ⟨bI, 0, none⟩ = some (bK) := (blk_cell aI.out 0).trans rfl
             have hfs76 := blk_frozen aI.out 0
             have pY := bB.out
             have pZ := cC.out
             have qA := cT.out
             have qB := bL.out
             have qC := cD.out
             have qD := cS.out
             refine skip_ (w1 := ?_) (by rfl) rfl ?_ ?_
             rotate_left
             ·go_simp
              rfl
             refine hK.out _ _ ?_
             clear hK K
             refine done_ (done_of HT_.out (by kernel_rfl)) ?_
             try go_wp2
             go_roundg kj46
             case measure => have := cY.out; have := jZ.out; have := cV.out; have := nJ.out; have := kP.out; omega
             case rel => exact ⟨(wrap64 (cR + (Int.tmod (wrap64 ((aA9 aC aD).f1)) 20))), (wrap64 (aD + 1)), (jH), (.slice mP jH.length mQ), (by first | rfl | (simp; done) | (simp [*]; done)), (by first | rfl | (simp; done) | (simp [*]; done)), H', ⟨by have := cY.out; have := jZ.out; have := cV.out; have := nJ.out; have := kP.out; omega⟩, ⟨by (with_reducible repeat (first | apply Kd.R_alloc | apply Kd.R_drewN | apply Kd.R_drew)); exact Kd.R_mono (Kd.R_far (p := ⟨bI, 0, none⟩) (Kd.R_types lZ.out aI.out (by decide)) (fun _ hk => hk.2) (.slice mP jH.length mQ)) (fun _ hk => trivial)⟩, ⟨by (with_reducible repeat (first | apply Kd.R_alloc | apply Kd.R_drewN | apply Kd.R_drew)); exact Kd.R_mono (Kd.R_far (p := ⟨bI, 0, none⟩) (Kd.R_types aE.out aI.out (by decide)) (fun _ hk => hk.2) (.slice mP jH.length mQ)) (fun _ hk => trivial)⟩, ⟨pF aA⟩, ⟨pF aH⟩, ⟨by refine pB ?_; refine blk_put (cs := #[bK, bC]) ?_ 0 _ rfl; exact pB aI.out⟩, ⟨pE HB⟩⟩
def aB4.f (aC : List (S67)) (bA : List Int) : Option ((List (S67)) × List Int) := (some (([] : List (S67)) : List (S67))).bind fun dU => (if dU.length + aC.length < 4398046511104 then ((some (([] : List Int) : List Int)).bind fun cN => (if cN.length + bA.length < 17592186044416 then (some ((dU ++ aC), (cN ++ bA))) else (none))) else (none))
def aB4.T1 : Bool × List (List Nat × List Nat) := (true, [([], []), ([], []), ([1], [1]), ([0, 2], [0, 2]), ([], []), ([], []), ([5], [5]), ([4, 6, 3], [4, 6]), ([3, 7], [3, 7]), ([8, 7, 0, 1, 2, 3, 4, 5, 6, 7, 8], [8])])
def aB4.B1 : List Nat := [0, 0, 2, 7, 0, 0, 32, 127, 255, 511]
theorem aB4.tab1 : rtab .any (opsOf Tryz.f49 1) = aB4.T1 := by kernel_rfl
theorem aB4.bits1 : waitsOk aB4.T1.2 aB4.B1 = true := by kernel_rfl
set_option maxHeartbeats 8000000 in
set_option maxRecDepth 100000 in
theorem aB4.calls (bO : Option Addr) (bH : Nat) (aC : List (S67)) (bS : Option Addr) (bT : Nat) (bA : List Int) (r1 : List (S67)) (r2 : List Int) (w : World) (hr0_0 : Kd.C k67 w bO aC.length aC) (cX : aC.length ≤ bH) (hr0_1 : Kd.C (Kd.int .i64) w bS bA.length bA) (dW : bA.length ≤ bT) (h : aB4.f aC bA = some (r1, r2)) :
  Calls Tryz.prog 49 #[.agg #[.slice bO aC.length bH, .slice bS bA.length bT]] w fun e w' => ∃ v0_ v1_ : Value, e = .returned (.agg #[v0_, v1_]) ∧ Kd.R k67 67 w' w.heap.size (fun _ => True) v0_ r1 ∧ Kd.R (Kd.int .i64) 3 w' w.heap.size (fun _ => True) v1_ r2 ∧ Below w.heap.size w w' := by
 have hu25 := Tryz.underlying25
 have cZ := aM hr0_0
 have iM := aM cX
 clear hr0_0 cX
 have jJ := aM hr0_1
 have mA := aM dW
 clear hr0_1 dW
 have HB := aM (Below.refl w.heap.size w)
 have H : ((some (([] : List (S67)) : List (S67))).bind fun dU => (if dU.length + aC.length < 4398046511104 then ((some (([] : List Int) : List Int)).bind fun cN => (if cN.length + bA.length < 17592186044416 then (some ((dU ++ aC), (cN ++ bA))) else (none))) else (none))) = some (r1, r2) := h
 clear h
 obtain ⟨dU, jK⟩ : ∃ y_ : List (S67), y_ = (([] : List (S67))) := ⟨_, rfl⟩
 replace H : (if dU.length + aC.length < 4398046511104 then ((some (([] : List Int) : List Int)).bind fun cN => (if cN.length + bA.length < 17592186044416 then (some ((dU ++ aC), (cN ++ bA))) else (none))) else (none)) = some (r1, r2) := yy jK H
 have hZ := aM jK
 clear jK
 by_cases c2 : dU.length + aC.length < 4398046511104
 rotate_left
 ·rw [if_neg c2] at H
  exact absurd H (by simp)
 rw [if_pos c2] at H
 have mR := aM c2
 clear c2
 obtain ⟨fW, jL⟩ : ∃ y_ : List (S67), y_ = (dU ++ aC) := ⟨_, rfl⟩
 replace H : ((some (([] : List Int) : List Int)).bind fun cN => (if cN.length + bA.length < 17592186044416 then (some (fW, (cN ++ bA))) else (none))) = some (r1, r2) := yy jL H
 have jM := aM jL
 clear jL
 obtain ⟨cN, eS⟩ : ∃ y_ : List Int, y_ = (([] : List Int)) := ⟨_, rfl⟩
 replace H : (if cN.length + bA.length < 17592186044416 then (some (fW, (cN ++ bA))) else (none)) = some (r1, r2) := yy eS H
 have dX := aM eS
 clear eS
 by_cases c3 : cN.length + bA.length < 17592186044416
 rotate_left
 ·rw [if_neg c3] at H
  exact absurd H (by simp)
 rw [if_pos c3] at H
 have qW := aM c3
 clear c3
 obtain ⟨kU, jN⟩ : ∃ y_ : List Int, y_ = (cN ++ bA) := ⟨_, rfl⟩
 replace H : (some (fW, kU)) = some (r1, r2) := yy jN H
 have oE := aM jN
 clear jN
 simp only [Option.some.injEq, Prod.mk.injEq] at H
 obtain ⟨rfl, rfl⟩ := H
 go_enter Tryz.func49, Tryz.ntmps49
 try go_wp2_with (first | ((with_reducible refine gate_dst (N := 1) rfl ?_); refine bx 1 #[.slice bO aC.length bH, .slice bS bA.length bT] 25 ?_; intro aY hg w4 hbox hb; have aA := hbox; have iN := gs HB hg; have iO := gs HB hg; replace HB := bs HB hb; clear hb hbox hg) | ((with_reducible refine gate_dst (N := 2) rfl ?_); refine bx 2 #[.slice none 0 0, .slice none 0 0] 25 ?_; intro bD hg w5 hbox hb; have aH := hbox; have nL := gs HB hg; have nM := gs HB hg; replace HB := bs HB hb; have bG := nl aA hg; have bP := nr aA hg; replace aA := bb aA hb; clear hb hbox hg))
 replace aA := aM (blk_drew aA.out)
 replace aH := aM (blk_drew aH.out)
 replace HB := aM (below_drew1 HB.out)
 refine start_ (n := 10) (S := fun w' => w'.cell? ⟨aY, 0, none⟩ = some (.slice bO aC.length bH) ∧ w'.cell? ⟨aY, 1, none⟩ = some (.slice bS bA.length bT)) (ds := []) #[false, false, false, false, false, false, false, false, false, false] (by kernel_rfl) rfl rfl ⟨(blk_cell aA.out 0).trans rfl, (blk_cell aA.out 1).trans rfl⟩ (fun aN => ?_); refine with_tabW aB4.tab1 aB4.bits1 (fun HT_ HW_ => ?_)
 generalize w5.drew = w6 at aA aH HB aN ⊢
 refine pu 1 4 ?_
 refine pu 5 8 ?_
 refine tk 2 5 aN ?_
 refine tk 6 9 aN ?_
 refine join_ (σ := Value × Value × Value) 3 #[true, true, true, true, true, true, true, false, false, false] (fun s_ => [(3, s_.1), (6, s_.2.1), (7, s_.2.2)]) (fun s_ w' => (w'.cell? ⟨aY, 0, none⟩ = some (.slice bO aC.length bH) ∧ w'.cell? ⟨aY, 1, none⟩ = some (.slice bS bA.length bT)) ∧ (Kd.R k67 67 w' w.heap.size (fun _ => True) s_.2.1 fW) ∧ (Kd.R (Kd.int .i64) 3 w' w.heap.size (fun _ => True) s_.2.2 cN) ∧ (w'.heap[aY]? = some (.cells #[.slice bO aC.length bH, .slice bS bA.length bT] 25 (0, 0))) ∧ (w'.heap[bD]? = some (.cells #[.slice none 0 0, .slice none 0 0] 25 (0, 0))) ∧ (Below w.heap.size w w')) ?_ ?_
 rotate_left
 ·intro hCont
  refine two_ (i := 0) (j := 4) (Ni := some 3) (Nj := some 7) #[true, true, true, false, false, true, true, false, false, false] #[false, true, true, false, true, true, true, false, false, false] rfl rfl rfl rfl (two_of HT_.out (by kernel_rfl)) (by decide) (by decide) (fun K hK => ?_) (fun K hK => ?_)
  ·skip
   refine Kd.R_lit_step k67 _ 67 ?hg (N := 3) ?hd (xs := ([] : List (S67))) (inner := []) (ok := fun _ => True) (okp := fun _ => True) ?hr ?hp (fun _ hk => hk) trivial (Below.refl _ _) (Nat.le_refl _) (by simp) ?_; (case hd => rfl); (case hg => rfl); (case hr => first | (go_simp; done) | (go_simp; rfl)); (case hp => exact (Reps.none _ _))
   intro gC w7 jO hb hg_ hnew_
   clear hg_ hnew_
   (first | rw [← hZ.out] at jO | (simp only [Int.reduceToNat] at jO; rw [← hZ.out] at jO))
   have cG := rl jO HB
   replace aA := bb aA hb
   replace aH := bb aH hb
   replace HB := bs HB hb
   clear hb jO
   refine hK.out _ _ ⟨(blk_cell aA.out 0).trans rfl, (blk_cell aA.out 1).trans rfl⟩ (fun aN => ?_)
   clear hK K
   refine norm_ (a' := ?_) ?_ ?_
   rotate_left
   ·show Act.put _ (some 3) _ = _
    simp only [Act.put, List.setIfInBounds_toArray, List.set_cons_zero, List.set_cons_succ, i64_w, i32_w]
    rfl
   refine two_ (i := 3) (j := 4) (Ni := some 6) (Nj := some 7) #[true, true, true, true, false, true, true, false, false, false] #[true, true, true, false, true, true, true, false, false, false] rfl rfl rfl rfl (two_of HT_.out (by kernel_rfl)) (by decide) (by decide) (fun K hK => ?_) (fun K hK => ?_)
   ·skip
    refine Kd.R_append_rows_step k67 (w0 := w) w.heap.size (by rfl) (.tmp 3) (.tmp 5) 22 67 (.agg #[(.int .i64 0), (.int .i64 0), (.int .i64 0), (.int .i64 0)]) 32 rfl Tryz.underlying22 info67 rfl (by decide) (by omega) gC dU aC _ _ _ (fun _ => True) (fun _ => False) rfl rfl ?aO ?aR (fun _ _ h => h) (fun _ h => h.elim) ?aF ?aB ?aS ?aL ?_
    (case aR => exact pC (Kd.C_below cZ.out HB.out))
    (case aB => exact (pE HB))
    (case aF => exact (fun _ _ => trivial))
    (case aO => exact (pR cG.out))
    (case aS => exact (below_size (pE HB)))
    (case aL => have := mR.out; omega)
    intro gM w9 ho hb hg hat
    rw [← jM.out] at ho
    replace aA := aM (blk_grown (g := aY) (o := .cells #[.slice bO aC.length bH, .slice bS bA.length bT] 25 (0, 0)) (pB aA.out) hg (Kd.R_ne cG.out aA.out (by decide)))
    replace aH := aM (blk_grown (g := bD) (o := .cells #[.slice none 0 0, .slice none 0 0] 25 (0, 0)) (pB aH.out) hg (Kd.R_ne cG.out aH.out (by decide)))
    replace HB := aM (hb)
    have cU := aM (ho)
    clear cG ho hb hg hat
    refine hK.out _ _ ⟨(blk_cell aA.out 0).trans rfl, (blk_cell aA.out 1).trans rfl⟩ (fun aN => ?_)
    clear hK K
    refine norm_ (a' := ?_) ?_ ?_
    rotate_left
    ·show Act.put _ (some 6) _ = _
     simp only [Act.put, List.setIfInBounds_toArray, List.set_cons_zero, List.set_cons_succ, i64_w, i32_w]
     rfl
    refine on 4 (fun K hK => ?_)
    refine Kd.R_lit_step (Kd.int .i64) _ 3 ?hg (N := 7) ?hd (xs := ([] : List Int)) (inner := []) (ok := fun _ => True) (okp := fun _ => True) ?hr ?hp (fun _ hk => hk) trivial (Below.refl _ _) (Nat.le_refl _) (by simp) ?_; (case hd => rfl); (case hg => rfl); (case hr => first | (go_simp; done) | (go_simp; rfl)); (case hp => exact (Reps.none _ _))
    intro gD w10 jP hb hg_ hnew_
    clear hg_ hnew_
    (first | rw [← dX.out] at jP | (simp only [Int.reduceToNat] at jP; rw [← dX.out] at jP))
    replace cU := rb cU hb
    have cH := rl jP HB
    replace aA := bb aA hb
    replace aH := bb aH hb
    replace HB := bs HB hb
    clear hb jP
    refine hK.out _ _ ⟨(blk_cell aA.out 0).trans rfl, (blk_cell aA.out 1).trans rfl⟩ (fun aN => ?_)
    clear hK K
    refine norm_ (a' := ?_) ?_ ?_
    rotate_left
    ·show Act.put _ (some 7) _ = _
     simp only [Act.put, List.setIfInBounds_toArray, List.set_cons_zero, List.set_cons_succ, i64_w, i32_w]
     rfl
    exact norm_ (by simp only [putAll, Act.put, List.setIfInBounds_toArray, List.set_cons_zero, List.set_cons_succ]) (hCont (gC, gM, gD) _ ⟨aN, (pR cU.out), (pR cH.out), (pB aA.out), (pB aH.out), (pE HB)⟩)
   ·skip
    refine Kd.R_lit_step (Kd.int .i64) _ 3 ?hg (N := 7) ?hd (xs := ([] : List Int)) (inner := []) (ok := fun _ => True) (okp := fun _ => True) ?hr ?hp (fun _ hk => hk) trivial (Below.refl _ _) (Nat.le_refl _) (by simp) ?_; (case hd => rfl); (case hg => rfl); (case hr => first | (go_simp; done) | (go_simp; rfl)); (case hp => exact (Reps.none _ _))
    intro gD w9 eU hb hg_ hnew_
    clear hg_ hnew_
    (first | rw [← dX.out] at eU | (simp only [Int.reduceToNat] at eU; rw [← dX.out] at eU))
    replace cG := rb cG hb
    have cH := rl eU HB
    replace aA := bb aA hb
    replace aH := bb aH hb
    replace HB := bs HB hb
    clear hb eU
    refine hK.out _ _ ⟨(blk_cell aA.out 0).trans rfl, (blk_cell aA.out 1).trans rfl⟩ (fun aN => ?_)
    clear hK K
    refine norm_ (a' := ?_) ?_ ?_
    rotate_left
    ·show Act.put _ (some 7) _ = _
     simp only [Act.put, List.setIfInBounds_toArray, List.set_cons_zero, List.set_cons_succ, i64_w, i32_w]
     rfl
    refine on 3 (fun K hK => ?_)
    refine Kd.R_append_rows_step k67 (w0 := w) w.heap.size (by rfl) (.tmp 3) (.tmp 5) 22 67 (.agg #[(.int .i64 0), (.int .i64 0), (.int .i64 0), (.int .i64 0)]) 32 rfl Tryz.underlying22 info67 rfl (by decide) (by omega) gC dU aC _ _ _ (fun _ => True) (fun _ => False) rfl rfl ?aO ?aR (fun _ _ h => h) (fun _ h => h.elim) ?aF ?aB ?aS ?aL ?_
    (case aR => exact pC (Kd.C_below cZ.out HB.out))
    (case aB => exact (pE HB))
    (case aF => exact (fun _ _ => trivial))
    (case aO => exact (pR cG.out))
    (case aS => exact (below_size (pE HB)))
    (case aL => have := mR.out; omega)
    intro gM w11 ho hb hg hat
    rw [← jM.out] at ho
    replace aA := aM (blk_grown (g := aY) (o := .cells #[.slice bO aC.length bH, .slice bS bA.length bT] 25 (0, 0)) (pB aA.out) hg (Kd.R_ne cG.out aA.out (by decide)))
    replace aH := aM (blk_grown (g := bD) (o := .cells #[.slice none 0 0, .slice none 0 0] 25 (0, 0)) (pB aH.out) hg (Kd.R_ne cG.out aH.out (by decide)))
    replace cH := aM (Kd.R_over' (pR cH.out) (Kd.R_typed (pR cG.out)) (by decide) hg)
    replace HB := aM (hb)
    have cU := aM (ho)
    clear cG ho hb hg hat
    refine hK.out _ _ ⟨(blk_cell aA.out 0).trans rfl, (blk_cell aA.out 1).trans rfl⟩ (fun aN => ?_)
    clear hK K
    refine norm_ (a' := ?_) ?_ ?_
    rotate_left
    ·show Act.put _ (some 6) _ = _
     simp only [Act.put, List.setIfInBounds_toArray, List.set_cons_zero, List.set_cons_succ, i64_w, i32_w]
     rfl
    exact norm_ (by simp only [putAll, Act.put, List.setIfInBounds_toArray, List.set_cons_zero, List.set_cons_succ]) (hCont (gC, gM, gD) _ ⟨aN, (pR cU.out), (pR cH.out), (pB aA.out), (pB aH.out), (pE HB)⟩)
  ·skip
   refine Kd.R_lit_step (Kd.int .i64) _ 3 ?hg (N := 7) ?hd (xs := ([] : List Int)) (inner := []) (ok := fun _ => True) (okp := fun _ => True) ?hr ?hp (fun _ hk => hk) trivial (Below.refl _ _) (Nat.le_refl _) (by simp) ?_; (case hd => rfl); (case hg => rfl); (case hr => first | (go_simp; done) | (go_simp; rfl)); (case hp => exact (Reps.none _ _))
   intro gD w7 jO hb hg_ hnew_
   clear hg_ hnew_
   (first | rw [← dX.out] at jO | (simp only [Int.reduceToNat] at jO; rw [← dX.out] at jO))
   have cH := rl jO HB
   replace aA := bb aA hb
   replace aH := bb aH hb
   replace HB := bs HB hb
   clear hb jO
   refine hK.out _ _ ⟨(blk_cell aA.out 0).trans rfl, (blk_cell aA.out 1).trans rfl⟩ (fun aN => ?_)
   clear hK K
   refine norm_ (a' := ?_) ?_ ?_
   rotate_left
   ·show Act.put _ (some 7) _ = _
    simp only [Act.put, List.setIfInBounds_toArray, List.set_cons_zero, List.set_cons_succ, i64_w, i32_w]
    rfl
   refine on 0 (fun K hK => ?_)
   refine Kd.R_lit_step k67 _ 67 ?hg (N := 3) ?hd (xs := ([] : List (S67))) (inner := []) (ok := fun _ => True) (okp := fun _ => True) ?hr ?hp (fun _ hk => hk) trivial (Below.refl _ _) (Nat.le_refl _) (by simp) ?_; (case hd => rfl); (case hg => rfl); (case hr => first | (go_simp; done) | (go_simp; rfl)); (case hp => exact (Reps.none _ _))
   intro gC w9 eU hb hg_ hnew_
   clear hg_ hnew_
   (first | rw [← hZ.out] at eU | (simp only [Int.reduceToNat] at eU; rw [← hZ.out] at eU))
   replace cH := rb cH hb
   have cG := rl eU HB
   replace aA := bb aA hb
   replace aH := bb aH hb
   replace HB := bs HB hb
   clear hb eU
   refine hK.out _ _ ⟨(blk_cell aA.out 0).trans rfl, (blk_cell aA.out 1).trans rfl⟩ (fun aN => ?_)
   clear hK K
   refine norm_ (a' := ?_) ?_ ?_
   rotate_left
   ·show Act.put _ (some 3) _ = _
    simp only [Act.put, List.setIfInBounds_toArray, List.set_cons_zero, List.set_cons_succ, i64_w, i32_w]
    rfl
   refine on 3 (fun K hK => ?_)
   refine Kd.R_append_rows_step k67 (w0 := w) w.heap.size (by rfl) (.tmp 3) (.tmp 5) 22 67 (.agg #[(.int .i64 0), (.int .i64 0), (.int .i64 0), (.int .i64 0)]) 32 rfl Tryz.underlying22 info67 rfl (by decide) (by omega) gC dU aC _ _ _ (fun _ => True) (fun _ => False) rfl rfl ?aO ?aR (fun _ _ h => h) (fun _ h => h.elim) ?aF ?aB ?aS ?aL ?_
   (case aR => exact pC (Kd.C_below cZ.out HB.out))
   (case aB => exact (pE HB))
   (case aF => exact (fun _ _ => trivial))
   (case aO => exact (pR cG.out))
   (case aS => exact (below_size (pE HB)))
   (case aL => have := mR.out; omega)
   intro gM w11 ho hb hg hat
   rw [← jM.out] at ho
   replace aA := aM (blk_grown (g := aY) (o := .cells #[.slice bO aC.length bH, .slice bS bA.length bT] 25 (0, 0)) (pB aA.out) hg (Kd.R_ne cG.out aA.out (by decide)))
   replace aH := aM (blk_grown (g := bD) (o := .cells #[.slice none 0 0, .slice none 0 0] 25 (0, 0)) (pB aH.out) hg (Kd.R_ne cG.out aH.out (by decide)))
   replace cH := aM (Kd.R_over' (pR cH.out) (Kd.R_typed (pR cG.out)) (by decide) hg)
   replace HB := aM (hb)
   have cU := aM (ho)
   clear cG ho hb hg hat
   refine hK.out _ _ ⟨(blk_cell aA.out 0).trans rfl, (blk_cell aA.out 1).trans rfl⟩ (fun aN => ?_)
   clear hK K
   refine norm_ (a' := ?_) ?_ ?_
   rotate_left
   ·show Act.put _ (some 6) _ = _
    simp only [Act.put, List.setIfInBounds_toArray, List.set_cons_zero, List.set_cons_succ, i64_w, i32_w]
    rfl
   exact norm_ (by simp only [putAll, Act.put, List.setIfInBounds_toArray, List.set_cons_zero, List.set_cons_succ]) (hCont (gC, gM, gD) _ ⟨aN, (pR cU.out), (pR cH.out), (pB aA.out), (pB aH.out), (pE HB)⟩)
 rintro ⟨gC, gM, gD⟩ w12 ⟨hS_, h0_, h1_, h2_, h3_, h4_⟩
 have n0_ : Aside0 (Kd.R k67 67 w12 w.heap.size (fun _ => True) gM fW) := ⟨h0_⟩
 have n1_ : Aside0 (Kd.R (Kd.int .i64) 3 w12 w.heap.size (fun _ => True) gD cN) := ⟨h1_⟩
 have n2_ : Aside0 (w12.heap[aY]? = some (.cells #[.slice bO aC.length bH, .slice bS bA.length bT] 25 (0, 0))) := ⟨h2_⟩
 have n3_ : Aside0 (w12.heap[bD]? = some (.cells #[.slice none 0 0, .slice none 0 0] 25 (0, 0))) := ⟨h3_⟩
 have n4_ : Aside0 (Below w.heap.size w w12) := ⟨h4_⟩
 clear aA aH HB h0_ h1_ h2_ h3_ h4_
 have cU := n0_
 have cH := n1_
 have aA := n2_
 have aH := n3_
 have HB := n4_
 clear n0_ n1_ n2_ n3_ n4_
 have aN : w12.cell? ⟨aY, 0, none⟩ = some (.slice bO aC.length bH) ∧ w12.cell? ⟨aY, 1, none⟩ = some (.slice bS bA.length bT) := hS_
 refine norm_ (a' := ?_) ?_ ?_
 rotate_left
 ·simp only [putAll, Act.put, List.setIfInBounds_toArray, List.set_cons_zero, List.set_cons_succ]
  rfl
 refine on 7 (fun K hK => ?_)
 refine Kd.R_append_rows_step (Kd.int .i64) (w0 := w) w.heap.size (by rfl) (.tmp 7) (.tmp 9) 23 3 (.int .i64 0) 8 rfl Tryz.underlying23 info3 rfl (by decide) (by omega) gD cN bA _ _ _ (fun _ => True) (fun _ => False) rfl rfl ?aO ?aR (fun _ _ h => h) (fun _ h => h.elim) ?aF ?aB ?aS ?aL ?_
 (case aR => exact pC (Kd.C_below jJ.out HB.out))
 (case aB => exact (pE HB))
 (case aF => exact (fun _ _ => trivial))
 (case aO => exact (pR cH.out))
 (case aS => exact (below_size (pE HB)))
 (case aL => have := qW.out; omega)
 intro uO w13 ho hb hg hat
 rw [← oE.out] at ho
 replace aA := aM (blk_grown (g := aY) (o := .cells #[.slice bO aC.length bH, .slice bS bA.length bT] 25 (0, 0)) (pB aA.out) hg (Kd.R_ne cH.out aA.out (by decide)))
 replace aH := aM (blk_grown (g := bD) (o := .cells #[.slice none 0 0, .slice none 0 0] 25 (0, 0)) (pB aH.out) hg (Kd.R_ne cH.out aH.out (by decide)))
 replace cU := aM (Kd.R_over' (pR cU.out) (Kd.R_typed (pR cH.out)) (by decide) hg)
 replace HB := aM (hb)
 have mB := aM (ho)
 clear cH ho hb hg hat
 obtain ⟨gH, gI, iF⟩ := Kd.R_slice mB.out
 (first | subst iF | (injection iF with f1_ f2_ f3_; have f4_ := f1_.symm; have f5_ := f3_.symm; clear f1_ f2_ f3_; subst f4_; subst f5_))
 obtain ⟨kV, kW, oF⟩ := Kd.R_slice cU.out
 (first | subst oF | (injection oF with f1_ f2_ f3_; have f4_ := f1_.symm; have f5_ := f3_.symm; clear f1_ f2_ f3_; subst f4_; subst f5_))
 refine hK.out _ _ ⟨(blk_cell aA.out 0).trans rfl, (blk_cell aA.out 1).trans rfl⟩ (fun aN => ?_)
 clear hK K
 refine norm_ (a' := ?_) ?_ ?_
 rotate_left
 ·show Act.put _ (some 10) _ = _
  simp only [Act.put, List.setIfInBounds_toArray, List.set_cons_zero, List.set_cons_succ, i64_w, i32_w]
  rfl
 refine pu 8 11 ?_
 refine on 9 (fun K hK => ?_)
 have hs16 : w13.cell? ⟨bD, 0, none⟩ = some (.slice none 0 0) := (blk_cell aH.out 0).trans rfl
 have hfs16 := blk_frozen aH.out 0
 have qE := bG.out
 have qF := bP.out
 have hs17 : w13.cell? ⟨bD, 1, none⟩ = some (.slice none 0 0) := (blk_cell aH.out 1).trans rfl
 have hfs17 := blk_frozen aH.out 1
 have qG := bG.out
 have qH := bP.out
 refine skip_ (w1 := ?_) (by rfl) rfl ?_ ?_
 rotate_left
 ·go_simp
  rfl
 refine hK.out _ _ ⟨((cell_far (p := ⟨bD, _, none⟩) bG.out _).trans (((cell_far (p := ⟨bD, _, none⟩) bG.out _).trans (aN.1)))), ((cell_far (p := ⟨bD, _, none⟩) bG.out _).trans (((cell_far (p := ⟨bD, _, none⟩) bG.out _).trans (aN.2))))⟩ (fun aN => ?_)
 clear hK K
 refine done_ (done_of HT_.out (by kernel_rfl)) ?_
 try go_wp2
 refine bodyPost_ret (results_cell_row rfl _ _ bD 25 #[.slice kV fW.length kW, .slice gH kU.length gI] (0, 0) _ rfl (by refine pB ?_; refine blk_put (cs := #[.slice kV fW.length kW, .slice none 0 0]) ?_ 1 _ rfl; refine pB ?_; refine blk_put (cs := #[.slice none 0 0, .slice none 0 0]) ?_ 0 _ rfl; exact pB aH.out) Tryz.underlying25 rfl (by kernel_rfl)) rfl ?_
 exact ⟨_, _, eT, by (with_reducible repeat (first | apply Kd.R_alloc | apply Kd.R_drewN | apply Kd.R_drew)); exact Kd.R_mono (Kd.R_far (p := ⟨bD, 1, none⟩) (Kd.R_far (p := ⟨bD, 0, none⟩) (Kd.R_types cU.out aH.out (by decide)) (fun _ hk => hk.2) (.slice kV fW.length kW)) (fun _ hk => hk.2) (.slice gH kU.length gI)) (fun _ hk => trivial), by (with_reducible repeat (first | apply Kd.R_alloc | apply Kd.R_drewN | apply Kd.R_drew)); exact Kd.R_mono (Kd.R_far (p := ⟨bD, 1, none⟩) (Kd.R_far (p := ⟨bD, 0, none⟩) (Kd.R_types mB.out aH.out (by decide)) (fun _ hk => hk.2) (.slice kV fW.length kW)) (fun _ hk => hk.2) (.slice gH kU.length gI)) (fun _ hk => trivial), pE HB⟩
mutual
def aA7.l0 : Nat → List Int → Int → List Bool → Int → Option (Bool)
 | 0, _, _, _, _ => none
 | k + 1, x0, x1, x5, x6 => if x6 < (x0.length : Int) then (if 0 ≤ x6 then (if (rd x0 x6) < 0 then (aA7.j1 k x0 x1 x5 x6 true) else (if (rd x0 x6) ≥ x1 then (aA7.j1 k x0 x1 x5 x6 true) else (if 0 ≤ (rd x0 x6) then (if (rd x0 x6) < (x5.length : Int) then (aA7.j1 k x0 x1 x5 x6 (rdOf false x5 (rd x0 x6))) else (none)) else (none)))) else (none)) else (some ((x0.length : Int) == x1))
def aA7.j1 : Nat → List Int → Int → List Bool → Int → Bool → Option (Bool)
 | 0, _, _, _, _, _ => none
 | k + 1, x0, x1, x5, x6, x36 => if x36 = true then (some false) else (if 0 ≤ x6 then (if x6 < (x0.length : Int) then (if 0 ≤ (rd x0 x6) then (if (rd x0 x6) < (x5.length : Int) then (aA7.l0 k x0 x1 (x5.set ((rd x0 x6) : Int).toNat true) (wrap64 (x6 + 1))) else (none)) else (none)) else (none)) else (none))
end
def aA7.f (k : Nat) (l0 : List Int) (a1 : Int) : Option (Bool) := if 0 ≤ a1 then (if (a1 : Int).toNat ≤ 281474976710656 then (aA7.l0 k l0 a1 (List.replicate (a1 : Int).toNat false) 0) else (none)) else (none)
theorem aA7.mono_l : ∀ k, (∀ y0 y1 y2 y3, LeO (aA7.l0 k y0 y1 y2 y3) (aA7.l0 (k + 1) y0 y1 y2 y3)) ∧ (∀ y0 y1 y2 y3 y4, LeO (aA7.j1 k y0 y1 y2 y3 y4) (aA7.j1 (k + 1) y0 y1 y2 y3 y4))
 | 0 => ⟨fun _ _ _ _ r h => by simp [aA7.l0] at h, fun _ _ _ _ _ r h => by simp [aA7.j1] at h⟩
 | k + 1 => by
  obtain ⟨ih0, ih1⟩ := aA7.mono_l k
  refine ⟨?_, ?_⟩
  ·intro y0 y1 y2 y3
   unfold aA7.l0
   repeat' first
   | (with_reducible exact ih0 _ _ _ _)
   | (with_reducible exact ih1 _ _ _ _ _)
   | (with_reducible exact LeO.refl _)
   | (with_reducible exact LeO.none _)
   | (with_reducible refine LeO.ite ?_ ?_)
   | (with_reducible refine LeO.bind ?_ (fun _ => ?_))
   | exact ih0 _ _ _ _
   | exact ih1 _ _ _ _ _
   | exact LeO.none _
   | refine LeO.ite ?_ ?_
   | refine LeO.bind ?_ (fun _ => ?_)
  ·intro y0 y1 y2 y3 y4
   unfold aA7.j1
   repeat' first
   | (with_reducible exact ih0 _ _ _ _)
   | (with_reducible exact ih1 _ _ _ _ _)
   | (with_reducible exact LeO.refl _)
   | (with_reducible exact LeO.none _)
   | (with_reducible refine LeO.ite ?_ ?_)
   | (with_reducible refine LeO.bind ?_ (fun _ => ?_))
   | exact ih0 _ _ _ _
   | exact ih1 _ _ _ _ _
   | exact LeO.none _
   | refine LeO.ite ?_ ?_
   | refine LeO.bind ?_ (fun _ => ?_)
theorem aA7.mono : ∀ a0 a1 k, LeO (aA7.f k a0 a1) (aA7.f (k + 1) a0 a1) := by
 intro a0 a1 k
 obtain ⟨ih0, ih1⟩ := aA7.mono_l k
 unfold aA7.f
 repeat' first
   | (with_reducible exact ih0 _ _ _ _)
   | (with_reducible exact ih1 _ _ _ _ _)
   | (with_reducible exact LeO.refl _)
   | (with_reducible exact LeO.none _)
   | (with_reducible refine LeO.ite ?_ ?_)
   | (with_reducible refine LeO.bind ?_ (fun _ => ?_))
   | exact ih0 _ _ _ _
   | exact ih1 _ _ _ _ _
   | exact LeO.none _
   | refine LeO.ite ?_ ?_
   | refine LeO.bind ?_ (fun _ => ?_)
set_option maxHeartbeats 8000000 in
set_option maxRecDepth 100000 in
theorem aA7.calls (k : Nat) (A0 : Option Addr) (c0 : Nat) (l0 : List Int) (a1 : Int) (r : Bool) (w : World) (hr0 : Kd.C (Kd.int .i64) w A0 l0.length l0) (hc0 : l0.length ≤ c0) (h : aA7.f k l0 a1 = some r) :
  Calls Tryz.prog 50 #[.slice A0 l0.length c0, .int .i64 a1] w fun e w' => e = .returned (.bool r) ∧ Below w.heap.size w w' := by
 have HR0 := aM hr0
 have uP := aM hc0
 clear hr0 hc0
 have HB := aM (Below.refl w.heap.size w)
 have H : (if 0 ≤ a1 then (if (a1 : Int).toNat ≤ 281474976710656 then (aA7.l0 k l0 a1 (List.replicate (a1 : Int).toNat false) 0) else (none)) else (none)) = some r := h
 clear h
 by_cases c3 : 0 ≤ a1
 rotate_left
 ·rw [if_neg c3] at H
  exact absurd H (by simp)
 rw [if_pos c3] at H
 have kX := eq_true c3
 have kY : decide (0 ≤ a1) = true := decide_eq_true c3
 clear c3
 by_cases c4 : (a1 : Int).toNat ≤ 281474976710656
 rotate_left
 ·rw [if_neg c4] at H
  exact absurd H (by simp)
 rw [if_pos c4] at H
 have oG := eq_true c4
 have oH : decide ((a1 : Int).toNat ≤ 281474976710656) = true := decide_eq_true c4
 clear c4
 obtain ⟨oI, jQ⟩ : ∃ y_ : List Bool, y_ = (List.replicate (a1 : Int).toNat false) := ⟨_, rfl⟩
 replace H : (aA7.l0 k l0 a1 oI 0) = some r := yy jQ H
 have mC := aM jQ
 clear jQ
 have H' := aM H
 clear H
 go_enter Tryz.func50, Tryz.ntmps50
 go_wp2_with (first | ((with_reducible refine gate_dst (N := 8) rfl ?_); refine Kd.R_make Kd.bool _ 4 rfl (N := 8) rfl 93 _ _ rfl a1 rfl rfl Tryz.underlying93 (.bool false) 1 info4 rfl (by decide) (by omega) false (ok := fun _ => True) (okp := fun _ => True) rfl (fun _ hk => hk) trivial (dT) (Nat.le_trans (Nat.mul_le_mul_right _ (dT : a1.toNat ≤ 281474976710656)) (by omega)) (Below.refl _ _) (Nat.le_refl _) ?_; intro oJ w5 oK hb hg_ hnew_; clear hg_ hnew_; (first | rw [← mC.out] at oK | (simp only [Int.reduceToNat] at oK; rw [← mC.out] at oK)); have oL := rl oK HB; replace HB := bs HB hb; clear hb oK))
 go_loopg [6] k (fun kq v6 w' => ∃ (cO : List Bool) (aT : Int), v6 = .int .i64 aT ∧ Aside0 (aA7.l0 kq l0 a1 cO aT = some r) ∧ Aside0 (kq ≤ k) ∧ Aside0 (Kd.R Kd.bool 4 w' w.heap.size (fun _ => True) oJ cO) ∧ Aside0 (Below w.heap.size w w'))
 case atStart => exact ⟨(oI), (0), (by first | rfl | (simp; done) | (simp [*]; done)), H', ⟨Nat.le_refl _⟩, ⟨pR oL.out⟩, ⟨pE HB⟩⟩
 case round =>
  clear H'
  try clear p2
  try clear c3
  try clear kX
  try clear kY
  try clear c4
  try clear oG
  try clear oH
  try clear c5
  obtain ⟨cO, aT, rfl, HA, cY, cJ, HB⟩ := hrel
  cases gk with
  | zero => exact absurd HA.out (by simp [aA7.l0])
  | succ k1 =>
   have H := HA.out
   clear HA
   simp only [aA7.l0] at H
   by_cases c7 : aT < (l0.length : Int)
   rotate_left
   ·rw [if_neg c7] at H
    have gE : decide (aT < (l0.length : Int)) = false := decide_eq_false c7
    clear c7
    obtain rfl := Option.some.inj H
    go_wp2
    go_ret
    exact ⟨eT, pE HB⟩
   rw [if_pos c7] at H
   have gE : decide (aT < (l0.length : Int)) = true := decide_eq_true c7
   clear c7
   have qX := aM H
   clear H
   go_upto_region 5 with (fail)
   go_cut [36] (fun v36 wc => ∃ (kq : Nat) (iA : Bool), v36 = .bool iA ∧ Aside0 (aA7.j1 kq l0 a1 cO aT iA = some r) ∧ Aside0 (kq ≤ k1) ∧ Aside0 (Kd.R Kd.bool 4 wc w.heap.size (fun _ => True) oJ cO) ∧ Aside0 (Below w.heap.size w wc))
   case first =>
    have H := qX.out
    clear qX
    by_cases c9 : 0 ≤ aT
    rotate_left
    ·rw [if_neg c9] at H
     exact absurd H (by simp)
    rw [if_pos c9] at H
    have mS : decide (0 ≤ aT) = true := decide_eq_true c9
    clear c9
    (first | rw [mS] | (simp only [i64_w, i32_w]; rw [mS]) | skip)
    by_cases c10 : (rd l0 aT) < 0
    ·rw [if_pos c10] at H
     have mD : decide ((rd l0 aT) < 0) = true := decide_eq_true c10
     clear c10
     have H' := aM H
     clear H
     have eA : 0 ≤ (aT : Int) := dT
     have eB : aT < (l0.length : Int) := dT
     obtain ⟨gF, jR, cL⟩ := Kd.at_int HR0.out aT eA eB
     cases jR
     replace cL := cut_ HB cL
     replace eA := eq_true eA
     replace eB := eq_true eB
     go_wp2
     go_meet
     case rel => exact ⟨_, (true), (by first | rfl | (simp; done) | (simp [*]; done)), H', ⟨by have := cY.out; first | omega | exact Nat.le_refl _⟩, ⟨pR cJ.out⟩, ⟨pE HB⟩⟩
    rw [if_neg c10] at H
    have mD : decide ((rd l0 aT) < 0) = false := decide_eq_false c10
    clear c10
    by_cases c11 : (rd l0 aT) ≥ a1
    ·rw [if_pos c11] at H
     have mE : decide (a1 ≤ (rd l0 aT)) = true := decide_eq_true c11
     clear c11
     have H' := aM H
     clear H
     have eA : 0 ≤ (aT : Int) := dT
     have eB : aT < (l0.length : Int) := dT
     obtain ⟨gF, jR, cL⟩ := Kd.at_int HR0.out aT eA eB
     cases jR
     replace cL := cut_ HB cL
     replace eA := eq_true eA
     replace eB := eq_true eB
     have eC : 0 ≤ (aT : Int) := dT
     have eD : aT < (l0.length : Int) := dT
     obtain ⟨fF, jS, cM⟩ := Kd.at_int HR0.out aT eC eD
     obtain rfl : gF = fF := (by injection jS)
     replace cM := cut_ HB cM
     replace eC := eq_true eC
     replace eD := eq_true eD
     go_wp2
     go_meet
     case rel => exact ⟨_, (true), (by first | rfl | (simp; done) | (simp [*]; done)), H', ⟨by have := cY.out; first | omega | exact Nat.le_refl _⟩, ⟨pR cJ.out⟩, ⟨pE HB⟩⟩
    rw [if_neg c11] at H
    have mE : decide (a1 ≤ (rd l0 aT)) = false := decide_eq_false c11
    clear c11
    by_cases c12 : 0 ≤ (rd l0 aT)
    rotate_left
    ·rw [if_neg c12] at H
     exact absurd H (by simp)
    rw [if_pos c12] at H
    have oM : decide (0 ≤ (rd l0 aT)) = true := decide_eq_true c12
    clear c12
    by_cases c13 : (rd l0 aT) < (cO.length : Int)
    rotate_left
    ·rw [if_neg c13] at H
     exact absurd H (by simp)
    rw [if_pos c13] at H
    have oN : decide ((rd l0 aT) < (cO.length : Int)) = true := decide_eq_true c13
    clear c13
    have H' := aM H
    clear H
    have eA : 0 ≤ (aT : Int) := dT
    have eB : aT < (l0.length : Int) := dT
    obtain ⟨gF, jR, cL⟩ := Kd.at_int HR0.out aT eA eB
    cases jR
    replace cL := cut_ HB cL
    replace eA := eq_true eA
    replace eB := eq_true eB
    have eC : 0 ≤ (aT : Int) := dT
    have eD : aT < (l0.length : Int) := dT
    obtain ⟨fF, jS, cM⟩ := Kd.at_int HR0.out aT eC eD
    obtain rfl : gF = fF := (by injection jS)
    replace cM := cut_ HB cM
    replace eC := eq_true eC
    replace eD := eq_true eD
    have kZ : 0 ≤ (aT : Int) := dT
    have lA : aT < (l0.length : Int) := dT
    obtain ⟨oO, qY, fX⟩ := Kd.at_int HR0.out aT kZ lA
    obtain rfl : gF = oO := (by injection qY)
    replace fX := cut_ HB fX
    replace kZ := eq_true kZ
    replace lA := eq_true lA
    obtain ⟨gH, gI, iF⟩ := Kd.R_slice cJ.out
    subst iF
    have fA : 0 ≤ ((rd l0 aT) : Int) := dT
    have fB : (rd l0 aT) < (cO.length : Int) := dT
    obtain ⟨gB, mJ, cQ⟩ := Kd.at_bool (Kd.R_reads' cJ.out).2.2 (rd l0 aT) fA fB
    cases mJ
    replace fA := eq_true fA
    replace fB := eq_true fB
    go_wp2
    go_meet
    case rel => exact ⟨_, (rdOf false cO (rd l0 aT)), (by first | rfl | (simp; done) | (simp [*]; done)), H', ⟨by have := cY.out; first | omega | exact Nat.le_refl _⟩, ⟨pR cJ.out⟩, ⟨pE HB⟩⟩
   case rest =>
    clear qX
    try clear c1
    try clear p1
    try clear q1
    try clear hx1
    try clear p2
    try clear c3
    try clear kX
    try clear kY
    try clear c4
    try clear oG
    try clear oH
    try clear c5
    try clear c7
    try clear gE
    try clear c9
    try clear mS
    try clear c10
    try clear mD
    try clear p10
    try clear q10
    try clear hx10
    try clear c11
    try clear mE
    try clear c12
    try clear oM
    try clear c13
    try clear oN
    try clear cL
    try clear cM
    try clear fX
    try clear cQ
    try clear eA
    try clear eC
    try clear kZ
    try clear fA
    try clear p2
    try clear eB
    try clear eD
    try clear lA
    try clear fB
    obtain ⟨kq, iA, rfl, HA, tS, cJ, HB⟩ := hcut
    cases kq with
    | zero => exact absurd HA.out (by simp [aA7.j1])
    | succ kj7 =>
     have H := HA.out
     clear HA
     simp only [aA7.j1] at H
     by_cases c15 : iA = true
     ·subst c15
      rw [if_pos rfl] at H
      obtain rfl := Option.some.inj H
      go_wp2
      go_ret
      exact ⟨eT, pE HB⟩
     replace c15 := Bool.eq_false_iff.mpr c15
     subst c15
     rw [if_neg (show ¬ (false = true) by decide)] at H
     by_cases c16 : 0 ≤ aT
     rotate_left
     ·rw [if_neg c16] at H
      exact absurd H (by simp)
     rw [if_pos c16] at H
     have tT : decide (0 ≤ aT) = true := decide_eq_true c16
     clear c16
     by_cases c17 : aT < (l0.length : Int)
     rotate_left
     ·rw [if_neg c17] at H
      exact absurd H (by simp)
     rw [if_pos c17] at H
     have cA : decide (aT < (l0.length : Int)) = true := decide_eq_true c17
     clear c17
     by_cases c18 : 0 ≤ (rd l0 aT)
     rotate_left
     ·rw [if_neg c18] at H
      exact absurd H (by simp)
     rw [if_pos c18] at H
     have tU : decide (0 ≤ (rd l0 aT)) = true := decide_eq_true c18
     clear c18
     by_cases c19 : (rd l0 aT) < (cO.length : Int)
     rotate_left
     ·rw [if_neg c19] at H
      exact absurd H (by simp)
     rw [if_pos c19] at H
     have tV : decide ((rd l0 aT) < (cO.length : Int)) = true := decide_eq_true c19
     clear c19
     obtain ⟨cN, eS⟩ : ∃ y_ : List Bool, y_ = (cO.set ((rd l0 aT) : Int).toNat true) := ⟨_, rfl⟩
     replace H : (aA7.l0 kj7 l0 a1 cN (wrap64 (aT + 1))) = some r := yy eS H
     have dX := aM eS
     clear eS
     have H' := aM H
     clear H
     have dG : 0 ≤ (aT : Int) := dT
     have dH : aT < (l0.length : Int) := dT
     obtain ⟨gV, iW, bQ⟩ := Kd.at_int HR0.out aT dG dH
     cases iW
     replace bQ := cut_ HB bQ
     replace dG := eq_true dG
     replace dH := eq_true dH
     have p20 : 0 ≤ ((rd l0 aT) : Int) := dT
     have q20 : ((rd l0 aT) : Int) < ((cO.length : Int) : Int) := dT
     obtain ⟨mT, qZ, oP, oQ, gl20, cl20, HG20⟩ := Kd.R_form cJ.out (by omega)
     (first | cases oP | (injection oP with ea_ en_ ec_; (first | subst ea_ | (injection ea_ with ea_; subst ea_)); subst ec_; clear en_))
     have rA := aM oQ
     have uQ := aM HG20
     clear oQ gl20 HG20
     obtain ⟨rB, rC⟩ := Kd.R_celln false cJ.out ((rd l0 aT) : Int) p20 q20
     replace p20 := eq_true p20
     replace q20 := eq_true q20
     have HP21 := Kd.R_putg cJ.out ((rd l0 aT) : Int) true
     go_wp2_with (first | ((with_reducible refine gate_store (t := 4) (p := 42) rfl ?_); refine store_event (t := 4) (p := 42) (v := ?vo_w22) (w1 := (wc.setCell ⟨mT, ((rd l0 aT) : Int).toNat, none⟩ (.bool true))) ?hg ?ho ?hn ?hr ?_; (case ho => rfl); (case hg => rfl); (case hn => rfl); (case hr => first | (go_simp; done) | (go_simp; rfl)); intro w22 hw; have hg : wc.grownBy w22 (some mT) := (by rw [hw]; exact HP21.2); have hp_ : Kd.R Kd.bool 4 w22 w.heap.size (fun _ => True) (.slice (some ⟨mT, 0, none⟩) cO.length qZ) cN := (by rw [hw, dX.out]; exact HP21.1); clear HP21; replace cJ := aM (hp_); replace HB := aM ((by rw [hw]; exact below_set (HB.out) rA.out : Below w.heap.size w w22)); clear hg hw hp_))
     go_roundg kj7
     case measure => have := cY.out; have := tS.out; omega
     case rel => exact ⟨(cN), (wrap64 (aT + 1)), (by first | rfl | (simp; done) | (simp [*]; done)), H', ⟨by have := cY.out; have := tS.out; omega⟩, ⟨pR cJ.out⟩, ⟨pE HB⟩⟩
def aC8.f (l0 : List Int) (a1 : Int) : Option (Int) := if (l0.length : Int) = 0 then (some 0) else (if 0 ≤ (Int.tmod a1 (l0.length : Int)) then (if (Int.tmod a1 (l0.length : Int)) < (l0.length : Int) then (some (wrap64 (rd l0 (Int.tmod a1 (l0.length : Int))))) else (none)) else (none))
set_option maxHeartbeats 8000000 in
set_option maxRecDepth 100000 in
theorem aC8.calls (A0 : Option Addr) (c0 : Nat) (l0 : List Int) (a1 : Int) (r : Int) (w : World) (hr0 : Kd.C (Kd.int .u8) w A0 l0.length l0) (hc0 : l0.length ≤ c0) (h : aC8.f l0 a1 = some r) :
  Calls Tryz.prog 91 #[.slice A0 l0.length c0, .int .i64 a1] w fun e w' => e = .returned (.int .i64 r) ∧ Drawn0 w w' := by
 have HR0 := aM hr0
 have uP := aM hc0
 clear hr0 hc0
 have H : (if (l0.length : Int) = 0 then (some 0) else (if 0 ≤ (Int.tmod a1 (l0.length : Int)) then (if (Int.tmod a1 (l0.length : Int)) < (l0.length : Int) then (some (wrap64 (rd l0 (Int.tmod a1 (l0.length : Int))))) else (none)) else (none))) = some r := h
 clear h
 by_cases c3 : (l0.length : Int) = 0
 ·rw [if_pos c3] at H
  have kX : ((l0.length : Int) == 0) = true := beq_iff_eq.mpr c3
  have kY : ((l0.length : Int) != 0) = false := bne_eq_false_iff_eq.mpr c3
  clear c3
  obtain rfl := Option.some.inj H
  go_enter Tryz.func91, Tryz.ntmps91
  go_wp2
  go_ret
  exact ⟨by first | rfl | (simp; done) | (simp [*]; done), by repeat (first | exact Drawn0.refl _ | apply Drawn0.step)⟩
 ·rw [if_neg c3] at H
  have kX : ((l0.length : Int) == 0) = false := beq_eq_false_iff_ne.mpr c3
  have kY : ((l0.length : Int) != 0) = true := bne_iff_ne.mpr c3
  have uR : ¬ (l0 = []) := fun h_ => c3 (by rw [h_]; rfl)
  obtain ⟨kA, mU⟩ : ∃ j_ : Int, (Int.tmod a1 (l0.length : Int)) = j_ := ⟨_, rfl⟩
  replace H : (if 0 ≤ (kA) then (if (kA) < (l0.length : Int) then (some (wrap64 (rd l0 (kA)))) else (none)) else (none)) = some r := by first | (rw [mU] at H; exact H) | (simp only [mU] at H ⊢; exact H)
  by_cases c5 : 0 ≤ (kA)
  rotate_left
  ·rw [if_neg c5] at H
   exact absurd H (by simp)
  rw [if_pos c5] at H
  have jT : decide (0 ≤ (kA)) = true := decide_eq_true c5
  clear c5
  by_cases c6 : (kA) < (l0.length : Int)
  rotate_left
  ·rw [if_neg c6] at H
   exact absurd H (by simp)
  rw [if_pos c6] at H
  have gN : decide ((kA) < (l0.length : Int)) = true := decide_eq_true c6
  clear c6
  obtain rfl := Option.some.inj H
  have mV : 0 ≤ ((kA) : Int) := dT
  have mW : (kA) < (l0.length : Int) := dT
  obtain ⟨tW, rD, qI⟩ := Kd.at_int HR0.out (kA) mV mW
  cases rD
  replace mV := eq_true mV
  replace mW := eq_true mW
  go_enter Tryz.func91, Tryz.ntmps91
  go_wp2
  go_ret
  exact ⟨by first | rfl | (simp; done) | (simp only [← mU] <;> (first | rfl | simp)) | (simp [*]; done), by repeat (first | exact Drawn0.refl _ | apply Drawn0.step)⟩
def aA6.l0 : Nat → List Int → List Int → Int → List (S67) → List Int → Option (List Int)
 | 0, _, _, _, _, _ => none
 | k + 1, x1, x5, x6, aQ, aZ => if x6 < (aQ.length : Int) then (if 0 ≤ x6 then ((aC8.f x1 x6).bind fun iH => (if x5.length < 17592186044416 then (aA6.l0 k x1 (x5 ++ [wrap64 (((aA4 aQ x6).f2.f0) + (wrap64 (Int.tdiv (wrap64 (iH * (wrap64 (((aA4 aQ x6).f2.f1) - ((aA4 aQ x6).f2.f0))))) 255)))]) (wrap64 (x6 + 1)) aQ aZ) else (none))) else (none)) else (some x5)
def aA6.f (k : Nat) (aC : List (S67)) (bA : List Int) (l1 : List Int) : Option (List Int) := aA6.l0 k l1 (([] : List Int)) 0 aC bA
theorem aA6.mono_l : ∀ k, (∀ y0 y1 y2 y3 y4, LeO (aA6.l0 k y0 y1 y2 y3 y4) (aA6.l0 (k + 1) y0 y1 y2 y3 y4))
 | 0 => fun _ _ _ _ _ r h => by simp [aA6.l0] at h
 | k + 1 => by
  have ih0 := aA6.mono_l k
  ·intro y0 y1 y2 y3 y4
   unfold aA6.l0
   repeat' first
   | (with_reducible exact ih0 _ _ _ _ _)
   | (with_reducible exact LeO.refl _)
   | (with_reducible exact LeO.none _)
   | (with_reducible refine LeO.ite ?_ ?_)
   | (with_reducible refine LeO.bind ?_ (fun _ => ?_))
   | exact ih0 _ _ _ _ _
   | exact LeO.none _
   | refine LeO.ite ?_ ?_
   | refine LeO.bind ?_ (fun _ => ?_)
theorem aA6.mono : ∀ a0 a1 a2 k, LeO (aA6.f k a0 a1 a2) (aA6.f (k + 1) a0 a1 a2) := by
 intro a0 a1 a2 k
 have ih0 := aA6.mono_l k
 unfold aA6.f
 repeat' first
   | (with_reducible exact ih0 _ _ _ _ _)
   | (with_reducible exact LeO.refl _)
   | (with_reducible exact LeO.none _)
   | (with_reducible refine LeO.ite ?_ ?_)
   | (with_reducible refine LeO.bind ?_ (fun _ => ?_))
   | exact ih0 _ _ _ _ _
   | exact LeO.none _
   | refine LeO.ite ?_ ?_
   | refine LeO.bind ?_ (fun _ => ?_)
def aA6.T6 : Bool × List (List Nat × List Nat) := (true, [([], []), ([], []), ([1], [1]), ([], []), ([], []), ([3, 4], [3, 4]), ([], []), ([6], [6]), ([], []), ([8], [8]), ([7, 9], [7, 9]), ([5, 10], [5, 10]), ([11], [11]), ([2, 12], [2, 12]), ([13], [13]), ([0, 14, 5], [0, 14]), ([15, 15, 0, 1, 2, 3, 4, 5, 6, 7, 8, 9, 10, 11, 12, 13, 14, 15], [0, 15])])
def aA6.B6 : List Nat := [0, 0, 2, 0, 0, 24, 0, 64, 0, 256, 960, 2040, 4088, 8190, 16382, 32767, 65535]
theorem aA6.tab6 : rtab .any (opsOf Tryz.f51 6) = aA6.T6 := by kernel_rfl
theorem aA6.bits6 : waitsOk aA6.T6.2 aA6.B6 = true := by kernel_rfl
set_option maxHeartbeats 8000000 in
set_option maxRecDepth 100000 in
theorem aA6.calls (k : Nat) (bO : Option Addr) (bH : Nat) (aC : List (S67)) (bS : Option Addr) (bT : Nat) (bA : List Int) (A1 : Option Addr) (c1 : Nat) (l1 : List Int) (r : List Int) (w : World) (hr0_0 : Kd.C k67 w bO aC.length aC) (cX : aC.length ≤ bH) (hr0_1 : Kd.C (Kd.int .i64) w bS bA.length bA) (dW : bA.length ≤ bT) (hr1 : Kd.C (Kd.int .u8) w A1 l1.length l1) (hc1 : l1.length ≤ c1) (h : aA6.f k aC bA l1 = some r) :
  Calls Tryz.prog 51 #[.agg #[.slice bO aC.length bH, .slice bS bA.length bT], .slice A1 l1.length c1] w fun e w' => ∃ v0_ : Value, e = .returned (v0_) ∧ Kd.R (Kd.int .i64) 3 w' w.heap.size (fun _ => True) v0_ r ∧ Below w.heap.size w w' := by
 have hu25 := Tryz.underlying25
 have hu42 := Tryz.underlying42
 have cZ := aM hr0_0
 have iM := aM cX
 clear hr0_0 cX
 have jJ := aM hr0_1
 have mA := aM dW
 clear hr0_1 dW
 have HR1 := aM hr1
 have tX := aM hc1
 clear hr1 hc1
 have HB := aM (Below.refl w.heap.size w)
 have H : (aA6.l0 k l1 (([] : List Int)) 0 aC bA) = some r := h
 clear h
 obtain ⟨gG, eV⟩ : ∃ y_ : List Int, y_ = (([] : List Int)) := ⟨_, rfl⟩
 replace H : (aA6.l0 k l1 gG 0 aC bA) = some r := yy eV H
 have eW := aM eV
 clear eV
 have H' := aM H
 clear H
 go_enter Tryz.func51, Tryz.ntmps51
 go_wp2_with (first | ((with_reducible refine gate_dst (N := 2) rfl ?_); refine bx 2 #[.slice bO aC.length bH, .slice bS bA.length bT] 25 ?_; intro aY hg w3 hbox hb; have aA := hbox; have iN := gs HB hg; have iO := gs HB hg; replace HB := bs HB hb; clear hb hbox hg) | ((with_reducible refine gate_dst (N := 8) rfl ?_); refine Kd.R_lit (Kd.int .i64) _ 3 ?hg (N := 8) ?hd (xs := ([] : List Int)) (inner := []) (ok := fun _ => True) (okp := fun _ => True) ?hr ?hp (fun _ hk => hk) trivial (Below.refl _ _) (Nat.le_refl _) (by simp) ?_; (case hd => rfl); (case hg => rfl); (case hr => first | (go_simp; done) | (go_simp; rfl)); (case hp => exact (Reps.none _ _)); intro dE w4 oR hb hg_ hnew_; clear hg_ hnew_; (first | rw [← eW.out] at oR | (simp only [Int.reduceToNat] at oR; rw [← eW.out] at oR)); have dB := rl oR HB; replace aA := bb aA hb; replace HB := bs HB hb; clear hb oR))
 go_loopg [5, 6] k (fun kq v5 v6 w' => ∃ (cO : List Int) (aT : Int), v6 = .int .i64 aT ∧ Aside0 (aA6.l0 kq l1 cO aT aC bA = some r) ∧ Aside0 (kq ≤ k) ∧ Aside0 (Kd.R (Kd.int .i64) 3 w' w.heap.size (fun _ => True) v5 cO) ∧ Aside0 (w'.heap[aY]? = some (.cells #[(.slice bO aC.length bH), (.slice bS bA.length bT)] 25 (0, 0))) ∧ Aside0 (Below w.heap.size w w'))
 case atStart => exact ⟨(gG), (0), (by first | rfl | (simp; done) | (simp [*]; done)), H', ⟨Nat.le_refl _⟩, ⟨pR dB.out⟩, ⟨pB aA.out⟩, ⟨pE HB⟩⟩
 case round =>
  clear H'
  try clear c1
  try clear p2
  try clear c5
  obtain ⟨cO, aT, rfl, HA, cY, cJ, aA, HB⟩ := hrel
  cases gk with
  | zero => exact absurd HA.out (by simp [aA6.l0])
  | succ k1 =>
   have H := HA.out
   clear HA
   simp only [aA6.l0] at H
   by_cases c6 : aT < (aC.length : Int)
   rotate_left
   ·rw [if_neg c6] at H
    have gN : decide (aT < (aC.length : Int)) = false := decide_eq_false c6
    clear c6
    obtain rfl := Option.some.inj H
    obtain ⟨_, _, _, _⟩ := cf2 aA
    go_wp2
    go_ret
    exact ⟨_, eT, pR cJ.out, pE HB⟩
   rw [if_pos c6] at H
   have gN : decide (aT < (aC.length : Int)) = true := decide_eq_true c6
   clear c6
   by_cases c7 : 0 ≤ aT
   rotate_left
   ·rw [if_neg c7] at H
    exact absurd H (by simp)
   rw [if_pos c7] at H
   have gE : decide (0 ≤ aT) = true := decide_eq_true c7
   clear c7
   obtain ⟨iH, A8, H⟩ := bi H
   by_cases c9 : cO.length < 17592186044416
   rotate_left
   ·rw [if_neg c9] at H
    exact absurd H (by simp)
   rw [if_pos c9] at H
   have mG := aM c9
   clear c9
   obtain ⟨oS, jU⟩ : ∃ y_ : List Int, y_ = (cO ++ [wrap64 (((aA4 aC aT).f2.f0) + (wrap64 (Int.tdiv (wrap64 (iH * (wrap64 (((aA4 aC aT).f2.f1) - ((aA4 aC aT).f2.f0))))) 255)))]) := ⟨_, rfl⟩
   replace H : (aA6.l0 k1 l1 oS (wrap64 (aT + 1)) aC bA) = some r := yy jU H
   have oT := aM jU
   clear jU
   have H' := aM H
   clear H
   obtain ⟨_, _, _, _⟩ := cf2 aA
   have eC : 0 ≤ (aT : Int) := dT
   have eD : aT < (aC.length : Int) := dT
   obtain ⟨fF, jS, cM, iB, iC, iD⟩ := aD4 cZ.out aT eC eD
   cases jS
   replace cM := cut_ HB cM
   replace iB := cut_ HB iB
   replace iC := cut_ HB iC
   replace iD := cut_ HB iD
   replace eC := eq_true eC
   replace eD := eq_true eD
   try go_wp2_with (first | ((with_reducible refine gate_dst (N := 7) rfl ?_); refine bx 7 #[.int .i64 0, .int .i64 0] 42 ?_; intro cK hg w11 hbox hb; replace cJ := rb cJ hb; have bW := hbox; have tY := gs HB hg; have tZ := gs HB hg; replace HB := bs HB hb; have iI := nl aA hg; have iJ := nr aA hg; replace aA := bb aA hb; clear hb hbox hg; have uA := iJ.out; have uB := iI.out; obtain ⟨_, _, _, _⟩ := cf2 bW))
   have n0_ : Aside0 (Kd.R (Kd.int .i64) 3 ((w11.setCell ⟨cK, 0, none⟩ (.int .i64 ((aA4 aC aT).f2.f0))).setCell ⟨cK, 1, none⟩ (.int .i64 ((aA4 aC aT).f2.f1))) w.heap.size (fun _ => True) u5 cO) := ⟨by (with_reducible repeat (first | apply Kd.R_alloc | apply Kd.R_drewN | apply Kd.R_drew)); exact Kd.R_mono (Kd.R_far (p := ⟨cK, 1, none⟩) (Kd.R_far (p := ⟨cK, 0, none⟩) (Kd.R_types cJ.out bW.out (by decide)) (fun _ hk => hk.2) (.int .i64 ((aA4 aC aT).f2.f0))) (fun _ hk => hk.2) (.int .i64 ((aA4 aC aT).f2.f1))) (fun _ hk => trivial)⟩
   have n1_ : Aside0 (((w11.setCell ⟨cK, 0, none⟩ (.int .i64 ((aA4 aC aT).f2.f0))).setCell ⟨cK, 1, none⟩ (.int .i64 ((aA4 aC aT).f2.f1))).heap[aY]? = some (.cells #[.slice (some fF) aC.length bH, .slice bS bA.length bT] 25 (0, 0))) := ⟨pF aA⟩
   have n2_ : Aside0 (((w11.setCell ⟨cK, 0, none⟩ (.int .i64 ((aA4 aC aT).f2.f0))).setCell ⟨cK, 1, none⟩ (.int .i64 ((aA4 aC aT).f2.f1))).heap[cK]? = some (.cells #[.int .i64 ((aA4 aC aT).f2.f0), .int .i64 ((aA4 aC aT).f2.f1)] 42 (0, 0))) := ⟨by refine pB ?_; refine blk_put (cs := #[.int .i64 ((aA4 aC aT).f2.f0), .int .i64 0]) ?_ 1 _ rfl; refine pB ?_; refine blk_put (cs := #[.int .i64 0, .int .i64 0]) ?_ 0 _ rfl; exact pB bW.out⟩
   have n3_ : Aside0 (Below w.heap.size w ((w11.setCell ⟨cK, 0, none⟩ (.int .i64 ((aA4 aC aT).f2.f0))).setCell ⟨cK, 1, none⟩ (.int .i64 ((aA4 aC aT).f2.f1)))) := ⟨pE HB⟩
   (try clear cJ)
   (try clear aA)
   (try clear bW)
   (try clear HB)
   generalize ((w11.setCell ⟨cK, 0, none⟩ (.int .i64 ((aA4 aC aT).f2.f0))).setCell ⟨cK, 1, none⟩ (.int .i64 ((aA4 aC aT).f2.f1))) = w14 at n0_ n1_ n2_ n3_ ⊢
   have cJ := n0_
   have aA := n1_
   have bW := n2_
   have HB := n3_
   clear n0_ n1_ n2_ n3_
   replace cJ := aM (Kd.R_drew cJ.out)
   replace aA := aM (blk_drew aA.out)
   replace bW := aM (blk_drew bW.out)
   replace HB := aM (below_drew1 HB.out)
   refine start_ (n := 17) (S := fun w' => w'.cell? ⟨cK, 0, none⟩ = some (.int .i64 ((aA4 aC aT).f2.f0)) ∧ w'.cell? ⟨cK, 1, none⟩ = some (.int .i64 ((aA4 aC aT).f2.f1))) (ds := []) #[false, false, false, false, false, false, false, false, false, false, false, false, false, false, false, false, false] (by kernel_rfl) rfl rfl ⟨(blk_cell bW.out 0).trans rfl, (blk_cell bW.out 1).trans rfl⟩ (fun aN => ?_); refine with_tabW aA6.tab6 aA6.bits6 (fun HT_ HW_ => ?_)
   generalize w14.drew = w15 at cJ aA bW HB aN ⊢
   refine pu 0 22 ?_
   refine pu 1 23 ?_
   refine pu 3 25 ?_
   refine pu 4 26 ?_
   refine pu 6 28 ?_
   refine pu 8 30 ?_
   refine tk 2 24 aN ?_
   refine tk 7 29 aN ?_
   refine tk 9 31 aN ?_
   refine pu 10 32 ?_
   refine on 5 (fun K hK => ?_)
   refine gO Tryz.func91 #[.slice A1 l1.length c1, .int .i64 aT] ?_
   with_reducible refine (aC8.calls _ _ l1 aT iH _ ?oU ?oV A8.out).mono ?_
   (case oU => exact pC (Kd.C_below HR1.out HB.out))
   (case oV => exact tX.out)
   rintro e w' ⟨rfl, ⟨nd, rfl⟩⟩
   refine ⟨_, rfl, ?_⟩
   refine hK.out _ _ ⟨(blk_cell bW.out 0).trans rfl, (blk_cell bW.out 1).trans rfl⟩ (fun aN => ?_)
   clear hK K
   refine norm_ (a' := ?_) ?_ ?_
   rotate_left
   ·show Act.put _ (some 27) _ = _
    simp only [Act.put, List.setIfInBounds_toArray, List.set_cons_zero, List.set_cons_succ, i64_w, i32_w]
    rfl
   refine pu 11 33 ?_
   refine pu 12 34 ?_
   refine pu 13 35 ?_
   refine on 14 (fun K hK => ?_)
   refine value_ (w1 := ?_) (v := ?_) (by rfl) rfl ?_ ?_
   rotate_left 2
   ·go_simp
    constructor
    ·rfl
    ·rfl
   refine hK.out _ _ ⟨(blk_cell (blk_alloc bW.out _) 0).trans rfl, (blk_cell (blk_alloc bW.out _) 1).trans rfl⟩ (fun aN => ?_)
   clear hK K
   refine norm_ (a' := ?_) ?_ ?_
   rotate_left
   ·show Act.put _ (some 36) _ = _
    simp only [Act.put, List.setIfInBounds_toArray, List.set_cons_zero, List.set_cons_succ, i64_w, i32_w]
    rfl
   refine on 15 (fun K hK => ?_)
   refine Kd.R_append_step (Kd.int .i64) (w0 := w) w.heap.size (by rfl) (.tmp 22) (.tmp 36) 23 3 (.int .i64 0) 8 rfl Tryz.underlying23 info3 rfl (by decide) (by omega) u5 cO (wrap64 (((aA4 aC aT).f2.f0) + (wrap64 (Int.tdiv (wrap64 (iH * (wrap64 (((aA4 aC aT).f2.f1) - ((aA4 aC aT).f2.f0))))) 255)))) [.int .i64 (wrap64 (((aA4 aC aT).f2.f0) + (wrap64 (Int.tdiv (wrap64 (iH * (wrap64 (((aA4 aC aT).f2.f1) - ((aA4 aC aT).f2.f0))))) 255))))] (fun _ => True) (fun _ => False) rfl rfl ?aP (fun _ hk => hk.elim) ?aF ?aO ?aB ?aS ?aL ?_
   (case aP => exact rfl)
   (case aB => exact (pE HB))
   (case aF => exact (fun _ _ => trivial))
   (case aO => exact (pR cJ.out))
   (case aS => exact (below_size (pE HB)))
   (case aL => have := mG.out; omega)
   intro uS w16 ho hb hg hat
   rw [← oT.out] at ho
   replace aA := aM (blk_grown (g := aY) (o := .cells #[.slice (some fF) aC.length bH, .slice bS bA.length bT] 25 (0, 0)) (pB aA.out) hg (Kd.R_ne cJ.out aA.out (by decide)))
   replace bW := aM (blk_grown (g := cK) (o := .cells #[.int .i64 ((aA4 aC aT).f2.f0), .int .i64 ((aA4 aC aT).f2.f1)] 42 (0, 0)) (pB bW.out) hg (Kd.R_ne cJ.out bW.out (by decide)))
   replace HB := aM (hb)
   have oW := aM (ho)
   clear cJ ho hb hg hat
   refine hK.out _ _ ⟨(blk_cell bW.out 0).trans rfl, (blk_cell bW.out 1).trans rfl⟩ (fun aN => ?_)
   clear hK K
   refine norm_ (a' := ?_) ?_ ?_
   rotate_left
   ·show Act.put _ (some 37) _ = _
    simp only [Act.put, List.setIfInBounds_toArray, List.set_cons_zero, List.set_cons_succ, i64_w, i32_w]
    rfl
   refine pu 16 5 ?_
   refine done_ (done_of HT_.out (by kernel_rfl)) ?_
   try go_wp2
   go_roundg k1
   case measure => have := cY.out; omega
   case rel => exact ⟨(oS), (wrap64 (aT + 1)), (by first | rfl | (simp; done) | (simp [*]; done)), H', ⟨by have := cY.out; omega⟩, ⟨pR oW.out⟩, ⟨pB aA.out⟩, ⟨pE HB⟩⟩
mutual
def aA3.l0 : Nat → List Int → Int → List Int → List Int → List Int → Int → Int → List (S67) → List Int → Option (List Int)
 | 0, _, _, _, _, _, _, _, _, _ => none
 | k + 1, x1, x2, x3, x9, x10, x11, x12, aQ, aZ => if x11 < (x1.length : Int) then (aA3.j1 k x1 x2 x3 x9 x10 x11 x12 (decide (x12 < 1000)) aQ aZ) else (aA3.j1 k x1 x2 x3 x9 x10 x11 x12 false aQ aZ)
def aA3.j1 : Nat → List Int → Int → List Int → List Int → List Int → Int → Int → Bool → List (S67) → List Int → Option (List Int)
 | 0, _, _, _, _, _, _, _, _, _, _ => none
 | k + 1, x1, x2, x3, x9, x10, x11, x12, x27, aQ, aZ => if x27 = true then (aA3.l1 k x1 x2 x3 x9 x10 x11 x12 0 aQ aZ) else (some x9)
def aA3.l1 : Nat → List Int → Int → List Int → List Int → List Int → Int → Int → Int → List (S67) → List Int → Option (List Int)
 | 0, _, _, _, _, _, _, _, _, _, _ => none
 | k + 1, x1, x2, x3, x9, x10, x11, x12, x13, aQ, aZ => if x13 < x2 then (if x11 < (x1.length : Int) then (if 0 ≤ x11 then (if 0 ≤ (rd x1 x11) then (if (rd x1 x11) < (aQ.length : Int) then (aA3.j3 k x1 x2 x3 x9 x10 x11 x12 x13 (decide (((aA4 aQ (rd x1 x11)).f1) ≤ x12)) aQ aZ) else (none)) else (none)) else (none)) else (aA3.j3 k x1 x2 x3 x9 x10 x11 x12 x13 false aQ aZ)) else (aA3.j3 k x1 x2 x3 x9 x10 x11 x12 x13 false aQ aZ)
def aA3.j3 : Nat → List Int → Int → List Int → List Int → List Int → Int → Int → Int → Bool → List (S67) → List Int → Option (List Int)
 | 0, _, _, _, _, _, _, _, _, _, _, _ => none
 | k + 1, x1, x2, x3, x9, x10, x11, x12, x13, x51, aQ, aZ => if x51 = true then (if 0 ≤ x13 then (if x13 < (x10.length : Int) then (if (rd x10 x13) ≤ x12 then (if 0 ≤ x11 then (if x11 < (x1.length : Int) then (if 0 ≤ (rd x1 x11) then (if (rd x1 x11) < (x3.length : Int) then (if (rd x1 x11) < (x9.length : Int) then (aA3.l1 k x1 x2 x3 (x9.set ((rd x1 x11) : Int).toNat x12) (x10.set (x13 : Int).toNat (wrap64 (x12 + (rd x3 (rd x1 x11))))) (wrap64 (x11 + 1)) x12 (wrap64 (x13 + 1)) aQ aZ) else (none)) else (none)) else (none)) else (none)) else (none)) else (aA3.l1 k x1 x2 x3 x9 x10 x11 x12 (wrap64 (x13 + 1)) aQ aZ)) else (none)) else (none)) else (aA3.l0 k x1 x2 x3 x9 x10 x11 (wrap64 (x12 + 1)) aQ aZ)
end
def aA3.f (k : Nat) (aC : List (S67)) (bA : List Int) (l1 : List Int) (a2 : Int) (l3 : List Int) : Option (List Int) := if 0 ≤ (aC.length : Int) then (if ((aC.length : Int) : Int).toNat ≤ 35184372088832 then (if 0 ≤ a2 then (if (a2 : Int).toNat ≤ 35184372088832 then (aA3.l0 k l1 a2 l3 (List.replicate ((aC.length : Int) : Int).toNat 0) (List.replicate (a2 : Int).toNat 0) 0 0 aC bA) else (none)) else (none)) else (none)) else (none)
theorem aA3.mono_l : ∀ k, (∀ y0 y1 y2 y3 y4 y5 y6 y7 y8, LeO (aA3.l0 k y0 y1 y2 y3 y4 y5 y6 y7 y8) (aA3.l0 (k + 1) y0 y1 y2 y3 y4 y5 y6 y7 y8)) ∧ (∀ y0 y1 y2 y3 y4 y5 y6 y7 y8 y9, LeO (aA3.j1 k y0 y1 y2 y3 y4 y5 y6 y7 y8 y9) (aA3.j1 (k + 1) y0 y1 y2 y3 y4 y5 y6 y7 y8 y9)) ∧ (∀ y0 y1 y2 y3 y4 y5 y6 y7 y8 y9, LeO (aA3.l1 k y0 y1 y2 y3 y4 y5 y6 y7 y8 y9) (aA3.l1 (k + 1) y0 y1 y2 y3 y4 y5 y6 y7 y8 y9)) ∧ (∀ y0 y1 y2 y3 y4 y5 y6 y7 y8 y9 rE, LeO (aA3.j3 k y0 y1 y2 y3 y4 y5 y6 y7 y8 y9 rE) (aA3.j3 (k + 1) y0 y1 y2 y3 y4 y5 y6 y7 y8 y9 rE))
 | 0 => ⟨fun _ _ _ _ _ _ _ _ _ r h => by simp [aA3.l0] at h, fun _ _ _ _ _ _ _ _ _ _ r h => by simp [aA3.j1] at h, fun _ _ _ _ _ _ _ _ _ _ r h => by simp [aA3.l1] at h, fun _ _ _ _ _ _ _ _ _ _ _ r h => by simp [aA3.j3] at h⟩
 | k + 1 => by
  obtain ⟨ih0, ih1, ih2, ih3⟩ := aA3.mono_l k
  refine ⟨?_, ?_, ?_, ?_⟩
  ·intro y0 y1 y2 y3 y4 y5 y6 y7 y8
   unfold aA3.l0
   repeat' first
   | (with_reducible exact ih0 _ _ _ _ _ _ _ _ _)
   | (with_reducible exact ih1 _ _ _ _ _ _ _ _ _ _)
   | (with_reducible exact ih2 _ _ _ _ _ _ _ _ _ _)
   | (with_reducible exact ih3 _ _ _ _ _ _ _ _ _ _ _)
   | (with_reducible exact LeO.refl _)
   | (with_reducible exact LeO.none _)
   | (with_reducible refine LeO.ite ?_ ?_)
   | (with_reducible refine LeO.bind ?_ (fun _ => ?_))
   | exact ih0 _ _ _ _ _ _ _ _ _
   | exact ih1 _ _ _ _ _ _ _ _ _ _
   | exact ih2 _ _ _ _ _ _ _ _ _ _
   | exact ih3 _ _ _ _ _ _ _ _ _ _ _
   | exact LeO.none _
   | refine LeO.ite ?_ ?_
   | refine LeO.bind ?_ (fun _ => ?_)
  ·intro y0 y1 y2 y3 y4 y5 y6 y7 y8 y9
   unfold aA3.j1
   repeat' first
   | (with_reducible exact ih0 _ _ _ _ _ _ _ _ _)
   | (with_reducible exact ih1 _ _ _ _ _ _ _ _ _ _)
   | (with_reducible exact ih2 _ _ _ _ _ _ _ _ _ _)
   | (with_reducible exact ih3 _ _ _ _ _ _ _ _ _ _ _)
   | (with_reducible exact LeO.refl _)
   | (with_reducible exact LeO.none _)
   | (with_reducible refine LeO.ite ?_ ?_)
   | (with_reducible refine LeO.bind ?_ (fun _ => ?_))
   | exact ih0 _ _ _ _ _ _ _ _ _
   | exact ih1 _ _ _ _ _ _ _ _ _ _
   | exact ih2 _ _ _ _ _ _ _ _ _ _
   | exact ih3 _ _ _ _ _ _ _ _ _ _ _
   | exact LeO.none _
   | refine LeO.ite ?_ ?_
   | refine LeO.bind ?_ (fun _ => ?_)
  ·intro y0 y1 y2 y3 y4 y5 y6 y7 y8 y9
   unfold aA3.l1
   repeat' first
   | (with_reducible exact ih0 _ _ _ _ _ _ _ _ _)
   | (with_reducible exact ih1 _ _ _ _ _ _ _ _ _ _)
   | (with_reducible exact ih2 _ _ _ _ _ _ _ _ _ _)
   | (with_reducible exact ih3 _ _ _ _ _ _ _ _ _ _ _)
   | (with_reducible exact LeO.refl _)
   | (with_reducible exact LeO.none _)
   | (with_reducible refine LeO.ite ?_ ?_)
   | (with_reducible refine LeO.bind ?_ (fun _ => ?_))
   | exact ih0 _ _ _ _ _ _ _ _ _
   | exact ih1 _ _ _ _ _ _ _ _ _ _
   | exact ih2 _ _ _ _ _ _ _ _ _ _
   | exact ih3 _ _ _ _ _ _ _ _ _ _ _
   | exact LeO.none _
   | refine LeO.ite ?_ ?_
   | refine LeO.bind ?_ (fun _ => ?_)
  ·intro y0 y1 y2 y3 y4 y5 y6 y7 y8 y9 rE
   unfold aA3.j3
   repeat' first
   | (with_reducible exact ih0 _ _ _ _ _ _ _ _ _)
   | (with_reducible exact ih1 _ _ _ _ _ _ _ _ _ _)
   | (with_reducible exact ih2 _ _ _ _ _ _ _ _ _ _)
   | (with_reducible exact ih3 _ _ _ _ _ _ _ _ _ _ _)
   | (with_reducible exact LeO.refl _)
   | (with_reducible exact LeO.none _)
   | (with_reducible refine LeO.ite ?_ ?_)
   | (with_reducible refine LeO.bind ?_ (fun _ => ?_))
   | exact ih0 _ _ _ _ _ _ _ _ _
   | exact ih1 _ _ _ _ _ _ _ _ _ _
   | exact ih2 _ _ _ _ _ _ _ _ _ _
   | exact ih3 _ _ _ _ _ _ _ _ _ _ _
   | exact LeO.none _
   | refine LeO.ite ?_ ?_
   | refine LeO.bind ?_ (fun _ => ?_)
theorem aA3.mono : ∀ a0 a1 a2 a3 a4 k, LeO (aA3.f k a0 a1 a2 a3 a4) (aA3.f (k + 1) a0 a1 a2 a3 a4) := by
 intro a0 a1 a2 a3 a4 k
 obtain ⟨ih0, ih1, ih2, ih3⟩ := aA3.mono_l k
 unfold aA3.f
 repeat' first
   | (with_reducible exact ih0 _ _ _ _ _ _ _ _ _)
   | (with_reducible exact ih1 _ _ _ _ _ _ _ _ _ _)
   | (with_reducible exact ih2 _ _ _ _ _ _ _ _ _ _)
   | (with_reducible exact ih3 _ _ _ _ _ _ _ _ _ _ _)
   | (with_reducible exact LeO.refl _)
   | (with_reducible exact LeO.none _)
   | (with_reducible refine LeO.ite ?_ ?_)
   | (with_reducible refine LeO.bind ?_ (fun _ => ?_))
   | exact ih0 _ _ _ _ _ _ _ _ _
   | exact ih1 _ _ _ _ _ _ _ _ _ _
   | exact ih2 _ _ _ _ _ _ _ _ _ _
   | exact ih3 _ _ _ _ _ _ _ _ _ _ _
   | exact LeO.none _
   | refine LeO.ite ?_ ?_
   | refine LeO.bind ?_ (fun _ => ?_)
def aA3.T1 : Bool × List (List Nat × List Nat) := (true, [([], []), ([0], [0]), ([1], [1]), ([2, 2], [2]), ([], []), ([4, 4], [4]), ([3, 0, 1, 2, 3], [3]), ([5, 6, 0, 1, 2, 3, 4, 5, 6], [5]), ([7, 0, 1, 2, 3, 4, 5, 6, 7], [])])
def aA3.B1 : List Nat := [0, 1, 3, 7, 0, 16, 15, 127, 255]
theorem aA3.tab1 : rtab .any (opsOf Tryz.f52 1) = aA3.T1 := by kernel_rfl
theorem aA3.bits1 : waitsOk aA3.T1.2 aA3.B1 = true := by kernel_rfl
def aA3.T6 : Bool × List (List Nat × List Nat) := (true, [([], []), ([], []), ([0, 1], [0, 1]), ([2], [2]), ([3], [3]), ([3], [3]), ([5, 3], [3, 5]), ([4, 6, 3], [3, 4, 6]), ([3, 7], [3, 7]), ([8, 3], [8]), ([9], [9]), ([10, 9], [9, 10]), ([9], [9]), ([9], [9]), ([12, 13, 9], [9, 12, 13]), ([14, 9], [9, 14]), ([11, 15, 9], [9, 11, 15]), ([16, 9], [9, 16]), ([17, 9], [9, 17]), ([9], [9]), ([18, 19, 9], [9, 18, 19]), ([9, 20], [9, 20])])
def aA3.B6 : List Nat := [0, 0, 3, 7, 15, 15, 47, 127, 255, 511, 1023, 2047, 1023, 1023, 13311, 29695, 65535, 131071, 262143, 1023, 1048575, 2097151]
theorem aA3.tab6 : rtab .any (opsOf Tryz.f52 6) = aA3.T6 := by kernel_rfl
theorem aA3.bits6 : waitsOk aA3.T6.2 aA3.B6 = true := by kernel_rfl
def aA3.T9 : Bool × List (List Nat × List Nat) := (true, [([], []), ([], []), ([], []), ([1, 2], [1, 2]), ([3], [3]), ([], []), ([], []), ([], []), ([], []), ([], []), ([], []), ([], []), ([10, 11], [10, 11]), ([12], [12]), ([9, 13], [9, 13]), ([14], [14]), ([8, 15], [8, 15]), ([0, 4, 0, 1, 2, 3, 4, 7, 13, 15], [0, 4]), ([17, 7, 0, 1, 2, 3, 4, 7, 13, 15], [7, 17]), ([5, 6, 0, 1, 2, 3, 4, 5, 6, 7, 8, 9, 10, 11, 12, 13, 14, 15, 16, 17, 18], [5, 6]), ([19, 16, 18, 0, 1, 2, 3, 4, 5, 6, 7, 8, 9, 10, 11, 12, 13, 14, 15, 16, 17, 18], [16, 19])])
def aA3.B9 : List Nat := [0, 0, 0, 6, 14, 0, 0, 0, 0, 0, 0, 0, 3072, 7168, 15872, 32256, 65280, 65183, 196255, 524287, 1048575]
theorem aA3.tab9 : rtab .any (opsOf Tryz.f52 9) = aA3.T9 := by kernel_rfl
theorem aA3.bits9 : waitsOk aA3.T9.2 aA3.B9 = true := by kernel_rfl
set_option maxHeartbeats 8000000 in
set_option maxRecDepth 100000 in
theorem aA3.calls (k : Nat) (bO : Option Addr) (bH : Nat) (aC : List (S67)) (bS : Option Addr) (bT : Nat) (bA : List Int) (A1 : Option Addr) (c1 : Nat) (l1 : List Int) (a2 : Int) (A3 : Option Addr) (c3 : Nat) (l3 : List Int) (r : List Int) (w : World) (hr0_0 : Kd.C k67 w bO aC.length aC) (cX : aC.length ≤ bH) (hr0_1 : Kd.C (Kd.int .i64) w bS bA.length bA) (dW : bA.length ≤ bT) (hr1 : Kd.C (Kd.int .i64) w A1 l1.length l1) (hc1 : l1.length ≤ c1) (hr3 : Kd.C (Kd.int .i64) w A3 l3.length l3) (hc3 : l3.length ≤ c3) (h : aA3.f k aC bA l1 a2 l3 = some r) :
  Calls Tryz.prog 52 #[.agg #[.slice bO aC.length bH, .slice bS bA.length bT], .slice A1 l1.length c1, .int .i64 a2, .slice A3 l3.length c3] w fun e w' => ∃ v0_ : Value, e = .returned (v0_) ∧ Kd.R (Kd.int .i64) 3 w' w.heap.size (fun _ => True) v0_ r ∧ Below w.heap.size w w' := by
 have hu25 := Tryz.underlying25
 have cZ := aM hr0_0
 have iM := aM cX
 clear hr0_0 cX
 have jJ := aM hr0_1
 have mA := aM dW
 clear hr0_1 dW
 have HR1 := aM hr1
 have tX := aM hc1
 clear hr1 hc1
 have HR3 := aM hr3
 have vF := aM hc3
 clear hr3 hc3
 have HB := aM (Below.refl w.heap.size w)
 have H : (if 0 ≤ (aC.length : Int) then (if ((aC.length : Int) : Int).toNat ≤ 35184372088832 then (if 0 ≤ a2 then (if (a2 : Int).toNat ≤ 35184372088832 then (aA3.l0 k l1 a2 l3 (List.replicate ((aC.length : Int) : Int).toNat 0) (List.replicate (a2 : Int).toNat 0) 0 0 aC bA) else (none)) else (none)) else (none)) else (none)) = some r := h
 clear h
 by_cases c5 : 0 ≤ (aC.length : Int)
 rotate_left
 ·rw [if_neg c5] at H
  exact absurd H (by simp)
 rw [if_pos c5] at H
 have jT := eq_true c5
 have lB : decide (0 ≤ (aC.length : Int)) = true := decide_eq_true c5
 clear c5
 by_cases c6 : ((aC.length : Int) : Int).toNat ≤ 35184372088832
 rotate_left
 ·rw [if_neg c6] at H
  exact absurd H (by simp)
 rw [if_pos c6] at H
 have gN := eq_true c6
 have lC : decide (((aC.length : Int) : Int).toNat ≤ 35184372088832) = true := decide_eq_true c6
 clear c6
 obtain ⟨gG, eV⟩ : ∃ y_ : List Int, y_ = (List.replicate ((aC.length : Int) : Int).toNat 0) := ⟨_, rfl⟩
 replace H : (if 0 ≤ a2 then (if (a2 : Int).toNat ≤ 35184372088832 then (aA3.l0 k l1 a2 l3 gG (List.replicate (a2 : Int).toNat 0) 0 0 aC bA) else (none)) else (none)) = some r := yy eV H
 have eW := aM eV
 clear eV
 by_cases c7 : 0 ≤ a2
 rotate_left
 ·rw [if_neg c7] at H
  exact absurd H (by simp)
 rw [if_pos c7] at H
 have gE := eq_true c7
 have lD : decide (0 ≤ a2) = true := decide_eq_true c7
 clear c7
 by_cases c8 : (a2 : Int).toNat ≤ 35184372088832
 rotate_left
 ·rw [if_neg c8] at H
  exact absurd H (by simp)
 rw [if_pos c8] at H
 have eZ := eq_true c8
 have lE : decide ((a2 : Int).toNat ≤ 35184372088832) = true := decide_eq_true c8
 clear c8
 obtain ⟨lF, jV⟩ : ∃ y_ : List Int, y_ = (List.replicate (a2 : Int).toNat 0) := ⟨_, rfl⟩
 replace H : (aA3.l0 k l1 a2 l3 gG lF 0 0 aC bA) = some r := yy jV H
 have iE := aM jV
 clear jV
 have H' := aM H
 clear H
 go_enter Tryz.func52, Tryz.ntmps52
 try go_wp2_with (first | ((with_reducible refine gate_dst (N := 4) rfl ?_); (try (refine gate_guard (by rfl) ?_; dsimp only)); refine bx 4 #[.slice bO aC.length bH, .slice bS bA.length bT] 25 ?_; intro aY hg w9 hbox hb; have aA := hbox; have iN := gs HB hg; have iO := gs HB hg; replace HB := bs HB hb; clear hb hbox hg))
 replace aA := aM (blk_drew aA.out)
 replace HB := aM (below_drew1 HB.out)
 refine start_ (n := 9) (S := fun w' => w'.cell? ⟨aY, 0, none⟩ = some (.slice bO aC.length bH) ∧ w'.cell? ⟨aY, 1, none⟩ = some (.slice bS bA.length bT)) (ds := []) #[false, false, false, false, false, false, false, false, false] (by kernel_rfl) rfl rfl ⟨(blk_cell aA.out 0).trans rfl, (blk_cell aA.out 1).trans rfl⟩ (fun aN => ?_); refine with_tabW aA3.tab1 aA3.bits1 (fun HT_ HW_ => ?_)
 generalize w9.drew = w10 at aA HB aN ⊢
 refine pu 0 14 ?_
 refine pu 4 18 ?_
 refine tk 1 15 aN ?_
 refine pu 2 16 ?_
 refine join_ (σ := Value × Value) 2 #[true, true, true, true, true, true, true, false, false] (fun s_ => [(17, s_.1), (19, s_.2), (9, s_.1)]) (fun s_ w' => (w'.cell? ⟨aY, 0, none⟩ = some (.slice bO aC.length bH) ∧ w'.cell? ⟨aY, 1, none⟩ = some (.slice bS bA.length bT)) ∧ (Kd.R (Kd.int .i64) 3 w' w.heap.size (fun k_ => some k_ ≠ (s_.2 : Value).ownBlock) s_.1 gG) ∧ (Kd.R (Kd.int .i64) 3 w' w.heap.size (fun k_ => some k_ ≠ (s_.1 : Value).ownBlock) s_.2 lF) ∧ (w'.heap[aY]? = some (.cells #[.slice bO aC.length bH, .slice bS bA.length bT] 25 (0, 0))) ∧ (Below w.heap.size w w')) ?_ ?_
 rotate_left
 ·intro hCont
  refine two_ (i := 3) (j := 5) (Ni := some 17) (Nj := some 19) #[true, true, true, true, true, false, false, false, false] #[true, true, true, false, true, true, false, false, false] rfl rfl rfl rfl (two_of HT_.out (by kernel_rfl)) (by decide) (by decide) (fun K hK => ?_) (fun K hK => ?_)
  ·skip
   refine Kd.R_make_step (Kd.int .i64) _ 3 (by rfl) (N := 17) rfl 23 _ _ rfl (aC.length : Int) rfl rfl Tryz.underlying23 (.int .i64 0) 8 info3 rfl (by decide) (by omega) 0 (ok := fun _ => True) (okp := fun _ => True) rfl (fun _ hk => hk) trivial (dT) (Nat.le_trans (Nat.mul_le_mul_right _ (dT : (aC.length : Int).toNat ≤ 35184372088832)) (by omega)) (Below.refl _ _) (Nat.le_refl _) ?_
   intro dE w11 eX hb hg_ hnew_
   clear hg_ hnew_
   (first | rw [← eW.out] at eX | (simp only [Int.reduceToNat] at eX; rw [← eW.out] at eX))
   have dB := rl eX HB
   replace aA := bb aA hb
   replace HB := bs HB hb
   clear hb eX
   refine hK.out _ _ ⟨(blk_cell aA.out 0).trans rfl, (blk_cell aA.out 1).trans rfl⟩ (fun aN => ?_)
   clear hK K
   refine norm_ (a' := ?_) ?_ ?_
   rotate_left
   ·show Act.put _ (some 17) _ = _
    simp only [Act.put, List.setIfInBounds_toArray, List.set_cons_zero, List.set_cons_succ, i64_w, i32_w]
    rfl
   refine pu 6 9 ?_
   refine on 5 (fun K hK => ?_)
   refine Kd.R_make_step (Kd.int .i64) _ 3 (by rfl) (N := 19) rfl 23 _ _ rfl a2 rfl rfl Tryz.underlying23 (.int .i64 0) 8 info3 rfl (by decide) (by omega) 0 (ok := fun _ => True) (okp := fun _ => True) rfl (fun _ hk => hk) trivial (dT) (Nat.le_trans (Nat.mul_le_mul_right _ (dT : a2.toNat ≤ 35184372088832)) (by omega)) (Below.refl _ _) (Nat.le_refl _) ?_
   intro dL w13 dV hb hg_ hnew_
   clear hg_ hnew_
   (first | rw [← iE.out] at dV | (simp only [Int.reduceToNat] at dV; rw [← iE.out] at dV))
   have dY := aM (Kd.R_lower (Kd.R_new' dV (Kd.R_lt (pR dB.out))) (below_size (pE HB)))
   replace dB := re dB dV hb
   replace aA := bb aA hb
   replace HB := bs HB hb
   clear hb dV
   refine hK.out _ _ ⟨(blk_cell aA.out 0).trans rfl, (blk_cell aA.out 1).trans rfl⟩ (fun aN => ?_)
   clear hK K
   refine norm_ (a' := ?_) ?_ ?_
   rotate_left
   ·show Act.put _ (some 19) _ = _
    simp only [Act.put, List.setIfInBounds_toArray, List.set_cons_zero, List.set_cons_succ, i64_w, i32_w]
    rfl
   exact norm_ (by simp only [putAll, Act.put, List.setIfInBounds_toArray, List.set_cons_zero, List.set_cons_succ]) (hCont (dE, dL) _ ⟨aN, (by refine pR ?_; exact Kd.R_mono dB.out (fun _ hk => hk.2)), (by refine pR ?_; exact Kd.R_mono dY.out (fun _ hk => hk.2)), (pB aA.out), (pE HB)⟩)
  ·skip
   refine Kd.R_make_step (Kd.int .i64) _ 3 (by rfl) (N := 19) rfl 23 _ _ rfl a2 rfl rfl Tryz.underlying23 (.int .i64 0) 8 info3 rfl (by decide) (by omega) 0 (ok := fun _ => True) (okp := fun _ => True) rfl (fun _ hk => hk) trivial (dT) (Nat.le_trans (Nat.mul_le_mul_right _ (dT : a2.toNat ≤ 35184372088832)) (by omega)) (Below.refl _ _) (Nat.le_refl _) ?_
   intro dL w11 eX hb hg_ hnew_
   clear hg_ hnew_
   (first | rw [← iE.out] at eX | (simp only [Int.reduceToNat] at eX; rw [← iE.out] at eX))
   have dY := rl eX HB
   replace aA := bb aA hb
   replace HB := bs HB hb
   clear hb eX
   refine hK.out _ _ ⟨(blk_cell aA.out 0).trans rfl, (blk_cell aA.out 1).trans rfl⟩ (fun aN => ?_)
   clear hK K
   refine norm_ (a' := ?_) ?_ ?_
   rotate_left
   ·show Act.put _ (some 19) _ = _
    simp only [Act.put, List.setIfInBounds_toArray, List.set_cons_zero, List.set_cons_succ, i64_w, i32_w]
    rfl
   refine on 3 (fun K hK => ?_)
   refine Kd.R_make_step (Kd.int .i64) _ 3 (by rfl) (N := 17) rfl 23 _ _ rfl (aC.length : Int) rfl rfl Tryz.underlying23 (.int .i64 0) 8 info3 rfl (by decide) (by omega) 0 (ok := fun _ => True) (okp := fun _ => True) rfl (fun _ hk => hk) trivial (dT) (Nat.le_trans (Nat.mul_le_mul_right _ (dT : (aC.length : Int).toNat ≤ 35184372088832)) (by omega)) (Below.refl _ _) (Nat.le_refl _) ?_
   intro dE w13 dV hb hg_ hnew_
   clear hg_ hnew_
   (first | rw [← eW.out] at dV | (simp only [Int.reduceToNat] at dV; rw [← eW.out] at dV))
   have dB := aM (Kd.R_lower (Kd.R_new' dV (Kd.R_lt (pR dY.out))) (below_size (pE HB)))
   replace dY := re dY dV hb
   replace aA := bb aA hb
   replace HB := bs HB hb
   clear hb dV
   refine hK.out _ _ ⟨(blk_cell aA.out 0).trans rfl, (blk_cell aA.out 1).trans rfl⟩ (fun aN => ?_)
   clear hK K
   refine norm_ (a' := ?_) ?_ ?_
   rotate_left
   ·show Act.put _ (some 17) _ = _
    simp only [Act.put, List.setIfInBounds_toArray, List.set_cons_zero, List.set_cons_succ, i64_w, i32_w]
    rfl
   refine pu 6 9 ?_
   exact norm_ (by simp only [putAll, Act.put, List.setIfInBounds_toArray, List.set_cons_zero, List.set_cons_succ]) (hCont (dE, dL) _ ⟨aN, (by refine pR ?_; exact Kd.R_mono dB.out (fun _ hk => hk.2)), (by refine pR ?_; exact Kd.R_mono dY.out (fun _ hk => hk.2)), (pB aA.out), (pE HB)⟩)
 rintro ⟨dE, dL⟩ w15 ⟨hS_, h0_, h1_, h2_, h3_⟩
 have n0_ : Aside0 (Kd.R (Kd.int .i64) 3 w15 w.heap.size (fun k_ => some k_ ≠ (dL : Value).ownBlock) dE gG) := ⟨h0_⟩
 have n1_ : Aside0 (Kd.R (Kd.int .i64) 3 w15 w.heap.size (fun k_ => some k_ ≠ (dE : Value).ownBlock) dL lF) := ⟨h1_⟩
 have n2_ : Aside0 (w15.heap[aY]? = some (.cells #[.slice bO aC.length bH, .slice bS bA.length bT] 25 (0, 0))) := ⟨h2_⟩
 have n3_ : Aside0 (Below w.heap.size w w15) := ⟨h3_⟩
 clear aA HB h0_ h1_ h2_ h3_
 have dB := n0_
 have dY := n1_
 have aA := n2_
 have HB := n3_
 clear n0_ n1_ n2_ n3_
 have aN : w15.cell? ⟨aY, 0, none⟩ = some (.slice bO aC.length bH) ∧ w15.cell? ⟨aY, 1, none⟩ = some (.slice bS bA.length bT) := hS_
 refine norm_ (a' := ?_) ?_ ?_
 rotate_left
 ·simp only [putAll, Act.put, List.setIfInBounds_toArray, List.set_cons_zero, List.set_cons_succ]
  rfl
 refine pu 7 10 ?_
 refine pu 8 11 ?_
 refine done_ (done_of HT_.out (by kernel_rfl)) ?_
 try go_wp2
 go_loopg [11, 12] k (fun kq nS uT w' => ∃ (iK : List Int) (fG : List Int) (dZ : Int) (bR : Int), nS = .int .i64 dZ ∧ uT = .int .i64 bR ∧ Aside0 (aA3.l0 kq l1 a2 l3 iK fG dZ bR aC bA = some r) ∧ Aside0 (kq ≤ k) ∧ Aside0 (Kd.R (Kd.int .i64) 3 w' w.heap.size (fun k_ => some k_ ≠ (dL : Value).ownBlock) dE iK) ∧ Aside0 (Kd.R (Kd.int .i64) 3 w' w.heap.size (fun k_ => some k_ ≠ (dE : Value).ownBlock) dL fG) ∧ Aside0 (w'.heap[aY]? = some (.cells #[(.slice bO aC.length bH), (.slice bS bA.length bT)] 25 (0, 0))) ∧ Aside0 (Below w.heap.size w w'))
 case atStart => exact ⟨(gG), (lF), (0), (0), (by first | rfl | (simp; done) | (simp [*]; done)), (by first | rfl | (simp; done) | (simp [*]; done)), H', ⟨Nat.le_refl _⟩, ⟨pR dB.out⟩, ⟨pR dY.out⟩, ⟨pB aA.out⟩, ⟨pE HB⟩⟩
 case round =>
  clear H'
  try clear c1
  try clear p2
  try clear c3
  try clear c5
  try clear jT
  try clear lB
  try clear c6
  try clear gN
  try clear lC
  try clear c7
  try clear gE
  try clear lD
  try clear c8
  try clear eZ
  try clear lE
  obtain ⟨iK, fG, dZ, bR, rfl, rfl, HA, cY, bZ, bM, aA, HB⟩ := hrel
  cases gk with
  | zero => exact absurd HA.out (by simp [aA3.l0])
  | succ k1 =>
   have H := HA.out
   clear HA
   simp only [aA3.l0] at H
   have gJ := aM H
   clear H
   go_upto_region 3 with (fail)
   go_cut [27] (fun uU wc => ∃ (kq : Nat) (fY : Bool), uU = .bool fY ∧ Aside0 (aA3.j1 kq l1 a2 l3 iK fG dZ bR fY aC bA = some r) ∧ Aside0 (kq ≤ k1) ∧ Aside0 (Kd.R (Kd.int .i64) 3 wc w.heap.size (fun k_ => some k_ ≠ (dL : Value).ownBlock) dE iK) ∧ Aside0 (Kd.R (Kd.int .i64) 3 wc w.heap.size (fun k_ => some k_ ≠ (dE : Value).ownBlock) dL fG) ∧ Aside0 (wc.heap[aY]? = some (.cells #[(.slice bO aC.length bH), (.slice bS bA.length bT)] 25 (0, 0))) ∧ Aside0 (Below w.heap.size w wc))
   case first =>
    have H := gJ.out
    clear gJ
    by_cases c17 : dZ < (l1.length : Int)
    rotate_left
    ·rw [if_neg c17] at H
     have cA : decide (dZ < (l1.length : Int)) = false := decide_eq_false c17
     clear c17
     (first | rw [cA] | (simp only [i64_w, i32_w]; rw [cA]) | skip)
     have H' := aM H
     clear H
     go_wp2
     go_meet
     case rel => exact ⟨_, (false), (by first | rfl | (simp; done) | (simp [*]; done)), H', ⟨by have := cY.out; first | omega | exact Nat.le_refl _⟩, ⟨pR bZ.out⟩, ⟨pR bM.out⟩, ⟨pB aA.out⟩, ⟨pE HB⟩⟩
    rw [if_pos c17] at H
    have cA : decide (dZ < (l1.length : Int)) = true := decide_eq_true c17
    clear c17
    (first | rw [cA] | (simp only [i64_w, i32_w]; rw [cA]) | skip)
    have H' := aM H
    clear H
    go_wp2
    go_meet
    case rel => exact ⟨_, (decide (bR < 1000)), (by first | rfl | (simp; done) | (simp [*]; done)), H', ⟨by have := cY.out; first | omega | exact Nat.le_refl _⟩, ⟨pR bZ.out⟩, ⟨pR bM.out⟩, ⟨pB aA.out⟩, ⟨pE HB⟩⟩
   case rest =>
    clear gJ
    try clear c1
    try clear p2
    try clear c3
    try clear c5
    try clear jT
    try clear lB
    try clear c6
    try clear gN
    try clear lC
    try clear c7
    try clear gE
    try clear lD
    try clear c8
    try clear eZ
    try clear lE
    try clear c17
    try clear cA
    try clear p2
    obtain ⟨kq, fY, rfl, HA, cV, bZ, bM, aA, HB⟩ := hcut
    cases kq with
    | zero => exact absurd HA.out (by simp [aA3.j1])
    | succ kj15 =>
     have H := HA.out
     clear HA
     simp only [aA3.j1] at H
     by_cases c18 : fY = true
     rotate_left
     ·replace c18 := Bool.eq_false_iff.mpr c18
      subst c18
      rw [if_neg (show ¬ (false = true) by decide)] at H
      obtain rfl := Option.some.inj H
      go_wp2
      go_ret
      exact ⟨_, eT, by (with_reducible repeat (first | apply Kd.R_alloc | apply Kd.R_drewN | apply Kd.R_drew)); exact Kd.R_mono bZ.out (fun _ hk => trivial), pE HB⟩
     subst c18
     rw [if_pos rfl] at H
     have H' := aM H
     clear H
     go_wp2
     go_loopg [11, 13] kj15 (fun kq nS uV w' => ∃ (eY : List Int) (cI : List Int) (aU : Int) (bN : Int), nS = .int .i64 aU ∧ uV = .int .i64 bN ∧ Aside0 (aA3.l1 kq l1 a2 l3 eY cI aU bR bN aC bA = some r) ∧ Aside0 (kq ≤ kj15) ∧ Aside0 (Kd.R (Kd.int .i64) 3 w' w.heap.size (fun k_ => some k_ ≠ (dL : Value).ownBlock) dE eY) ∧ Aside0 (Kd.R (Kd.int .i64) 3 w' w.heap.size (fun k_ => some k_ ≠ (dE : Value).ownBlock) dL cI) ∧ Aside0 (w'.heap[aY]? = some (.cells #[(.slice bO aC.length bH), (.slice bS bA.length bT)] 25 (0, 0))) ∧ Aside0 (Below w.heap.size w w'))
     case atStart => exact ⟨(iK), (fG), (dZ), (0), (by first | rfl | (simp; done) | (simp [*]; done)), (by first | rfl | (simp; done) | (simp [*]; done)), H', ⟨Nat.le_refl _⟩, ⟨pR bZ.out⟩, ⟨pR bM.out⟩, ⟨pB aA.out⟩, ⟨pE HB⟩⟩
     case round =>
      clear H'
      try clear c1
      try clear p2
      try clear c3
      try clear c5
      try clear jT
      try clear lB
      try clear c6
      try clear gN
      try clear lC
      try clear c7
      try clear gE
      try clear lD
      try clear c8
      try clear eZ
      try clear lE
      try clear c17
      try clear cA
      try clear c18
      try clear p2
      obtain ⟨eY, cI, aU, bN, rfl, rfl, HA, lG, bZ, bM, aA, HB⟩ := hrel
      cases gk with
      | zero => exact absurd HA.out (by simp [aA3.l1])
      | succ k3 =>
       have H := HA.out
       clear HA
       simp only [aA3.l1] at H
       have mX := aM H
       clear H
       go_upto_region 6 with (fail)
       go_cut [51] (fun uW wc => ∃ (kq : Nat) (fZ : Bool), uW = .bool fZ ∧ Aside0 (aA3.j3 kq l1 a2 l3 eY cI aU bR bN fZ aC bA = some r) ∧ Aside0 (kq ≤ k3) ∧ Aside0 (Kd.R (Kd.int .i64) 3 wc w.heap.size (fun k_ => some k_ ≠ (dL : Value).ownBlock) dE eY) ∧ Aside0 (Kd.R (Kd.int .i64) 3 wc w.heap.size (fun k_ => some k_ ≠ (dE : Value).ownBlock) dL cI) ∧ Aside0 (wc.heap[aY]? = some (.cells #[(.slice bO aC.length bH), (.slice bS bA.length bT)] 25 (0, 0))) ∧ Aside0 (Below w.heap.size w wc))
       case first =>
        have H := mX.out
        clear mX
        by_cases c20 : bN < a2
        rotate_left
        ·rw [if_neg c20] at H
         have fH : decide (bN < a2) = false := decide_eq_false c20
         clear c20
         (first | rw [fH] | (simp only [i64_w, i32_w]; rw [fH]) | skip)
         have H' := aM H
         clear H
         try go_wp2
         replace bZ := aM (Kd.R_drew bZ.out)
         replace bM := aM (Kd.R_drew bM.out)
         replace aA := aM (blk_drew aA.out)
         replace HB := aM (below_drew1 HB.out)
         refine start_ (n := 22) (S := fun w' => True) (ds := []) #[false, false, false, false, false, false, false, false, false, false, false, false, false, false, false, false, false, false, false, false, false, false] (by kernel_rfl) rfl rfl trivial (fun aN => ?_); refine with_tabW aA3.tab6 aA3.bits6 (fun HT_ HW_ => ?_)
         generalize wr.drew = w27 at bZ bM aA HB aN ⊢
         refine pu 0 30 ?_
         refine pu 1 31 ?_
         refine pu 2 32 ?_
         refine pu 3 33 ?_
         refine pd 4 34 ?_
         refine pd 5 35 ?_
         refine pd 6 36 ?_
         refine pd 7 37 ?_
         refine pu 8 38 ?_
         refine pu 9 39 ?_
         refine pd 10 40 ?_
         refine pd 11 41 ?_
         refine pd 12 42 ?_
         refine pd 13 43 ?_
         refine pd 14 44 ?_
         refine pd 15 45 ?_
         refine pd 16 46 ?_
         refine pd 17 47 ?_
         refine pd 18 48 ?_
         refine pd 19 49 ?_
         refine pd 20 50 ?_
         refine pu 21 51 ?_
         refine done_ (done_of HT_.out (by kernel_rfl)) ?_
         try go_wp2
         go_meet
         case rel => exact ⟨_, (false), (by first | rfl | (simp; done) | (simp [*]; done)), H', ⟨by have := cY.out; have := cV.out; have := lG.out; first | omega | exact Nat.le_refl _⟩, ⟨pR bZ.out⟩, ⟨pR bM.out⟩, ⟨pB aA.out⟩, ⟨pE HB⟩⟩
        rw [if_pos c20] at H
        have fH : decide (bN < a2) = true := decide_eq_true c20
        clear c20
        (first | rw [fH] | (simp only [i64_w, i32_w]; rw [fH]) | skip)
        by_cases c21 : aU < (l1.length : Int)
        rotate_left
        ·rw [if_neg c21] at H
         have mF : decide (aU < (l1.length : Int)) = false := decide_eq_false c21
         clear c21
         have H' := aM H
         clear H
         try go_wp2
         replace bZ := aM (Kd.R_drew bZ.out)
         replace bM := aM (Kd.R_drew bM.out)
         replace aA := aM (blk_drew aA.out)
         replace HB := aM (below_drew1 HB.out)
         refine start_ (n := 22) (S := fun w' => True) (ds := []) #[false, false, false, false, false, false, false, false, false, false, false, false, false, false, false, false, false, false, false, false, false, false] (by kernel_rfl) rfl rfl trivial (fun aN => ?_); refine with_tabW aA3.tab6 aA3.bits6 (fun HT_ HW_ => ?_)
         generalize wr.drew = w26 at bZ bM aA HB aN ⊢
         refine pu 0 30 ?_
         refine pu 1 31 ?_
         refine pu 2 32 ?_
         refine pu 3 33 ?_
         refine pu 4 34 ?_
         refine pu 5 35 ?_
         refine pu 6 36 ?_
         refine pu 7 37 ?_
         refine pu 8 38 ?_
         refine pu 9 39 ?_
         refine pd 10 40 ?_
         refine pd 11 41 ?_
         refine pd 12 42 ?_
         refine pd 13 43 ?_
         refine pd 14 44 ?_
         refine pd 15 45 ?_
         refine pd 16 46 ?_
         refine pd 17 47 ?_
         refine pd 18 48 ?_
         refine pd 19 49 ?_
         refine pd 20 50 ?_
         refine pu 21 51 ?_
         refine done_ (done_of HT_.out (by kernel_rfl)) ?_
         try go_wp2
         go_meet
         case rel => exact ⟨_, (false), (by first | rfl | (simp; done) | (simp [*]; done)), H', ⟨by have := cY.out; have := cV.out; have := lG.out; first | omega | exact Nat.le_refl _⟩, ⟨pR bZ.out⟩, ⟨pR bM.out⟩, ⟨pB aA.out⟩, ⟨pE HB⟩⟩
        rw [if_pos c21] at H
        have mF : decide (aU < (l1.length : Int)) = true := decide_eq_true c21
        clear c21
        by_cases c22 : 0 ≤ aU
        rotate_left
        ·rw [if_neg c22] at H
         exact absurd H (by simp)
        rw [if_pos c22] at H
        have oX : decide (0 ≤ aU) = true := decide_eq_true c22
        clear c22
        by_cases c23 : 0 ≤ (rd l1 aU)
        rotate_left
        ·rw [if_neg c23] at H
         exact absurd H (by simp)
        rw [if_pos c23] at H
        have oY : decide (0 ≤ (rd l1 aU)) = true := decide_eq_true c23
        clear c23
        by_cases c24 : (rd l1 aU) < (aC.length : Int)
        rotate_left
        ·rw [if_neg c24] at H
         exact absurd H (by simp)
        rw [if_pos c24] at H
        have oZ : decide ((rd l1 aU) < (aC.length : Int)) = true := decide_eq_true c24
        clear c24
        have H' := aM H
        clear H
        try go_wp2
        replace bZ := aM (Kd.R_drew bZ.out)
        replace bM := aM (Kd.R_drew bM.out)
        replace aA := aM (blk_drew aA.out)
        replace HB := aM (below_drew1 HB.out)
        have dG : 0 ≤ (aU : Int) := dT
        have dH : aU < (l1.length : Int) := dT
        obtain ⟨gV, iW, bQ⟩ := Kd.at_int HR1.out aU dG dH
        have lH := bQ
        cases iW
        replace bQ := cut_ HB bQ
        replace dG := eq_true dG
        replace dH := eq_true dH
        have fC : 0 ≤ ((rd l1 aU) : Int) := dT
        have fD : (rd l1 aU) < (aC.length : Int) := dT
        obtain ⟨dA, mK, bV, dM, dN, dO⟩ := aD4 cZ.out (rd l1 aU) fC fD
        have lI := dO
        have lJ := dN
        have lK := dM
        have lL := bV
        cases mK
        replace bV := cut_ HB bV
        replace dM := cut_ HB dM
        replace dN := cut_ HB dN
        replace dO := cut_ HB dO
        replace fC := eq_true fC
        replace fD := eq_true fD
        refine start_ (n := 22) (S := fun w' => w'.cell? ⟨aY, 0, none⟩ = some (.slice (some dA) aC.length bH) ∧ w'.cell? ⟨aY, 1, none⟩ = some (.slice bS bA.length bT) ∧ w'.cell? (gV.add (aU).toNat) = some (.int .i64 (rd l1 aU)) ∧ w'.cell? (dA.add (((rd l1 aU)).toNat * 4)) = some (.int .i64 ((aA4 aC (rd l1 aU)).f0)) ∧ w'.cell? ⟨(dA.add (((rd l1 aU)).toNat * 4)).block, (dA.add (((rd l1 aU)).toNat * 4)).off + 1, none⟩ = some (.int .i64 ((aA4 aC (rd l1 aU)).f1)) ∧ w'.cell? ⟨(dA.add (((rd l1 aU)).toNat * 4)).block, (dA.add (((rd l1 aU)).toNat * 4)).off + 2, none⟩ = some (.int .i64 ((aA4 aC (rd l1 aU)).f2.f0)) ∧ w'.cell? ⟨(dA.add (((rd l1 aU)).toNat * 4)).block, (dA.add (((rd l1 aU)).toNat * 4)).off + 3, none⟩ = some (.int .i64 ((aA4 aC (rd l1 aU)).f2.f1))) (ds := []) #[false, false, false, false, false, false, false, false, false, false, false, false, false, false, false, false, false, false, false, false, false, false] (by kernel_rfl) rfl rfl ⟨(blk_cell aA.out 0).trans rfl, (blk_cell aA.out 1).trans rfl, (cB HB lH), (cB HB lL), (cB HB lK), (cB HB lJ), (cB HB lI)⟩ (fun aN => ?_); refine with_tabW aA3.tab6 aA3.bits6 (fun HT_ HW_ => ?_)
        generalize wr.drew = w25 at bZ bM aA HB bQ bV dM dN dO aN ⊢
        refine pu 0 30 ?_
        refine pu 1 31 ?_
        refine pu 2 32 ?_
        refine pu 3 33 ?_
        refine pu 4 34 ?_
        refine pu 5 35 ?_
        refine pu 6 36 ?_
        refine pu 7 37 ?_
        refine pu 8 38 ?_
        refine pu 9 39 ?_
        refine pu 10 40 ?_
        refine pu 12 42 ?_
        refine pu 13 43 ?_
        refine pu 14 44 ?_
        refine pu 19 49 ?_
        refine tk 11 41 aN ?_
        refine tk 15 45 aN ?_
        refine pu 16 46 ?_
        refine pu 17 47 ?_
        refine tk 18 48 aN ?_
        refine pu 20 50 ?_
        refine pu 21 51 ?_
        refine done_ (done_of HT_.out (by kernel_rfl)) ?_
        try go_wp2
        go_meet
        case rel => exact ⟨_, (decide (((aA4 aC (rd l1 aU)).f1) ≤ bR)), (by first | rfl | (simp; done) | (simp [*]; done)), H', ⟨by have := cY.out; have := cV.out; have := lG.out; first | omega | exact Nat.le_refl _⟩, ⟨pR bZ.out⟩, ⟨pR bM.out⟩, ⟨pB aA.out⟩, ⟨pE HB⟩⟩
       case rest =>
        clear mX
        try clear c1
        try clear p1
        try clear q1
        try clear hx1
        try clear c2
        try clear p2
        try clear c3
        try clear c5
        try clear jT
        try clear lB
        try clear c6
        try clear gN
        try clear lC
        try clear c7
        try clear gE
        try clear lD
        try clear c8
        try clear eZ
        try clear lE
        try clear p10
        try clear q10
        try clear hx10
        try clear c17
        try clear cA
        try clear c18
        try clear c20
        try clear fH
        try clear c21
        try clear mF
        try clear c22
        try clear oX
        try clear c23
        try clear oY
        try clear c24
        try clear oZ
        try clear bQ
        try clear bV
        try clear dM
        try clear dN
        try clear dO
        try clear dG
        try clear fC
        try clear p2
        try clear dH
        try clear fD
        obtain ⟨kq, fZ, rfl, HA, iL, bZ, bM, aA, HB⟩ := hcut
        cases kq with
        | zero => exact absurd HA.out (by simp [aA3.j3])
        | succ kj18 =>
         have H := HA.out
         clear HA
         simp only [aA3.j3] at H
         by_cases c28 : fZ = true
         rotate_left
         ·replace c28 := Bool.eq_false_iff.mpr c28
          subst c28
          rw [if_neg (show ¬ (false = true) by decide)] at H
          have H' := aM H
          clear H
          go_wp2
          go_roundg kj18
          case measure => have := cY.out; have := cV.out; have := lG.out; have := iL.out; omega
          case rel => exact ⟨(eY), (cI), (aU), (wrap64 (bR + 1)), (by first | rfl | (simp; done) | (simp [*]; done)), (by first | rfl | (simp; done) | (simp [*]; done)), H', ⟨by have := cY.out; have := cV.out; have := lG.out; have := iL.out; omega⟩, ⟨pR bZ.out⟩, ⟨pR bM.out⟩, ⟨pB aA.out⟩, ⟨pE HB⟩⟩
         subst c28
         rw [if_pos rfl] at H
         by_cases c29 : 0 ≤ bN
         rotate_left
         ·rw [if_neg c29] at H
          exact absurd H (by simp)
         rw [if_pos c29] at H
         have iQ : decide (0 ≤ bN) = true := decide_eq_true c29
         clear c29
         by_cases c30 : bN < (cI.length : Int)
         rotate_left
         ·rw [if_neg c30] at H
          exact absurd H (by simp)
         rw [if_pos c30] at H
         have iR : decide (bN < (cI.length : Int)) = true := decide_eq_true c30
         clear c30
         by_cases c31 : (rd cI bN) ≤ bR
         rotate_left
         ·rw [if_neg c31] at H
          have pA : decide ((rd cI bN) ≤ bR) = false := decide_eq_false c31
          clear c31
          have H' := aM H
          clear H
          obtain ⟨uX, uY, rF⟩ := Kd.R_slice bM.out
          subst rF
          have gP : 0 ≤ (bN : Int) := dT
          have gQ : bN < (cI.length : Int) := dT
          obtain ⟨pD, mY, gA⟩ := Kd.at_int (Kd.R_reads' bM.out).2.2 bN gP gQ
          cases mY
          replace gP := eq_true gP
          replace gQ := eq_true gQ
          go_wp2
          go_roundg kj18
          case measure => have := cY.out; have := cV.out; have := lG.out; have := iL.out; omega
          case rel => exact ⟨(eY), (cI), (aU), (wrap64 (bN + 1)), (by first | rfl | (simp; done) | (simp [*]; done)), (by first | rfl | (simp; done) | (simp [*]; done)), H', ⟨by have := cY.out; have := cV.out; have := lG.out; have := iL.out; omega⟩, ⟨pR bZ.out⟩, ⟨pR bM.out⟩, ⟨pB aA.out⟩, ⟨pE HB⟩⟩
         rw [if_pos c31] at H
         have pA : decide ((rd cI bN) ≤ bR) = true := decide_eq_true c31
         clear c31
         by_cases c32 : 0 ≤ aU
         rotate_left
         ·rw [if_neg c32] at H
          exact absurd H (by simp)
         rw [if_pos c32] at H
         have iS : decide (0 ≤ aU) = true := decide_eq_true c32
         clear c32
         by_cases c33 : aU < (l1.length : Int)
         rotate_left
         ·rw [if_neg c33] at H
          exact absurd H (by simp)
         rw [if_pos c33] at H
         have iT : decide (aU < (l1.length : Int)) = true := decide_eq_true c33
         clear c33
         by_cases c34 : 0 ≤ (rd l1 aU)
         rotate_left
         ·rw [if_neg c34] at H
          exact absurd H (by simp)
         rw [if_pos c34] at H
         have uC : decide (0 ≤ (rd l1 aU)) = true := decide_eq_true c34
         clear c34
         by_cases c35 : (rd l1 aU) < (l3.length : Int)
         rotate_left
         ·rw [if_neg c35] at H
          exact absurd H (by simp)
         rw [if_pos c35] at H
         have uD : decide ((rd l1 aU) < (l3.length : Int)) = true := decide_eq_true c35
         clear c35
         by_cases c36 : (rd l1 aU) < (eY.length : Int)
         rotate_left
         ·rw [if_neg c36] at H
          exact absurd H (by simp)
         rw [if_pos c36] at H
         have uE : decide ((rd l1 aU) < (eY.length : Int)) = true := decide_eq_true c36
         clear c36
         obtain ⟨mZ, jW⟩ : ∃ y_ : List Int, y_ = (eY.set ((rd l1 aU) : Int).toNat bR) := ⟨_, rfl⟩
         replace H : (aA3.l1 kj18 l1 a2 l3 mZ (cI.set (bN : Int).toNat (wrap64 (bR + (rd l3 (rd l1 aU))))) (wrap64 (aU + 1)) bR (wrap64 (bN + 1)) aC bA) = some r := yy jW H
         have pG := aM jW
         clear jW
         obtain ⟨pH, jX⟩ : ∃ y_ : List Int, y_ = (cI.set (bN : Int).toNat (wrap64 (bR + (rd l3 (rd l1 aU))))) := ⟨_, rfl⟩
         replace H : (aA3.l1 kj18 l1 a2 l3 mZ pH (wrap64 (aU + 1)) bR (wrap64 (bN + 1)) aC bA) = some r := yy jX H
         have pI := aM jX
         clear jX
         have H' := aM H
         clear H
         obtain ⟨uZ, vA, rG⟩ := Kd.R_slice bM.out
         subst rG
         have gP : 0 ≤ (bN : Int) := dT
         have gQ : bN < (cI.length : Int) := dT
         obtain ⟨pD, mY, gA⟩ := Kd.at_int (Kd.R_reads' bM.out).2.2 bN gP gQ
         cases mY
         replace gP := eq_true gP
         replace gQ := eq_true gQ
         try go_wp2
         replace bZ := aM (Kd.R_drew bZ.out)
         replace bM := aM (Kd.R_drew bM.out)
         replace aA := aM (blk_drew aA.out)
         replace HB := aM (below_drew1 HB.out)
         have nA : 0 ≤ (aU : Int) := dT
         have nB : aU < (l1.length : Int) := dT
         obtain ⟨jY, rH, eN⟩ := Kd.at_int HR1.out aU nA nB
         have lM := eN
         cases rH
         replace eN := cut_ HB eN
         replace nA := eq_true nA
         replace nB := eq_true nB
         have eP : 0 ≤ (aU : Int) := dT
         have eQ : aU < (l1.length : Int) := dT
         obtain ⟨eR, jE, cF⟩ := Kd.at_int HR1.out aU eP eQ
         have lN := cF
         obtain rfl : jY = eR := (by injection jE)
         replace cF := cut_ HB cF
         replace eP := eq_true eP
         replace eQ := eq_true eQ
         have nC : 0 ≤ ((rd l1 aU) : Int) := dT
         have nD : (rd l1 aU) < (l3.length : Int) := dT
         obtain ⟨pJ, rI, eO⟩ := Kd.at_int HR3.out (rd l1 aU) nC nD
         have lO := eO
         cases rI
         replace eO := cut_ HB eO
         replace nC := eq_true nC
         replace nD := eq_true nD
         have p37 : 0 ≤ ((rd l1 aU) : Int) := dT
         have q37 : ((rd l1 aU) : Int) < ((eY.length : Int) : Int) := dT
         obtain ⟨lP, vB, pK, pL, gl37, cl37, HG37⟩ := Kd.R_form bZ.out (by omega)
         (first | cases pK | (injection pK with ea_ en_ ec_; (first | subst ea_ | (injection ea_ with ea_; subst ea_)); subst ec_; clear en_))
         have vC := aM pL
         have rJ := aM HG37
         clear pL gl37 HG37
         obtain ⟨nE, nG⟩ := Kd.R_celln 0 bZ.out ((rd l1 aU) : Int) p37 q37
         replace p37 := eq_true p37
         replace q37 := eq_true q37
         have HP41 := Kd.R_putn bZ.out ((rd l1 aU) : Int) bR
         rw [← pG.out] at HP41
         have HQ41 := aM HP41
         clear HP41
         have p38 : 0 ≤ (bN : Int) := dT
         have q38 : (bN : Int) < ((cI.length : Int) : Int) := dT
         obtain ⟨pM, vD, pO, pP, gl38, cl38, HG38⟩ := Kd.R_form bM.out (by omega)
         (first | cases pO | (injection pO with ea_ en_ ec_; (first | subst ea_ | (injection ea_ with ea_; subst ea_)); subst ec_; clear en_))
         have vE := aM pP
         have rK := aM HG38
         clear pP gl38 HG38
         (first | simp only [add_plain] at gA | skip)
         obtain ⟨nH, nI⟩ := Kd.R_celln 0 (Kd.R_far (p := ⟨lP, ((rd l1 aU) : Int).toNat, none⟩) (Kd.R_mono bM.out (fun k_ hk => (⟨hk, fun e_ => hk (by rw [e_]; rfl)⟩ : _ ∧ k_ ≠ lP))) (fun _ hk => hk.2) (.int .i64 bR)) (bN : Int) p38 q38
         replace p38 := eq_true p38
         replace q38 := eq_true q38
         have HP42 := Kd.R_putn (Kd.R_far (p := ⟨lP, ((rd l1 aU) : Int).toNat, none⟩) (Kd.R_mono bM.out (fun k_ hk => (⟨hk, fun e_ => hk (by rw [e_]; rfl)⟩ : _ ∧ k_ ≠ lP))) (fun _ hk => hk.2) (.int .i64 bR)) (bN : Int) (wrap64 (bR + (rd l3 (rd l1 aU))))
         rw [← pI.out] at HP42
         have HQ42 := aM HP42
         clear HP42
         refine start_ (n := 21) (S := fun w' => w'.cell? (jY.add (aU).toNat) = some (.int .i64 (rd l1 aU)) ∧ w'.cell? (jY.add (aU).toNat) = some (.int .i64 (rd l1 aU)) ∧ w'.cell? (pJ.add ((rd l1 aU)).toNat) = some (.int .i64 (rd l3 (rd l1 aU)))) (ds := [18, 20]) #[false, false, false, false, false, false, false, false, false, false, false, false, false, false, false, false, false, false, false, false, false] (by kernel_rfl) rfl rfl ⟨(cB HB lM), (cB HB lN), (cB HB lO)⟩ (fun aN => ?_); refine with_tabW aA3.tab9 aA3.bits9 (fun HT_ HW_ => ?_)
         generalize wc.drew = w40 at bZ bM aA HB rJ rK HQ41 HQ42 nG nI gA eN cF eO nE nH aN ⊢
         refine pu 0 60 ?_
         refine pu 1 61 ?_
         refine pu 2 62 ?_
         refine pu 3 63 ?_
         refine pu 5 65 ?_
         refine pu 6 66 ?_
         refine pu 7 67 ?_
         refine pu 8 68 ?_
         refine pu 9 69 ?_
         refine pu 10 70 ?_
         refine pu 11 71 ?_
         refine pu 12 72 ?_
         refine tk 4 64 aN ?_
         refine tk 13 73 aN ?_
         refine pu 14 74 ?_
         refine tk 15 75 aN ?_
         refine pu 16 76 ?_
         refine pu 17 77 ?_
         refine last_ (i := 18) (N := none) #[true, true, true, true, true, true, true, true, true, true, true, true, true, true, true, true, true, true, true, false, false] rfl rfl (one_of HT_.out (by kernel_rfl)) (by decide) (fun K hK => ?_)
         refine skip_ (w1 := ?_) (by rfl) rfl ?_ ?_
         rotate_left
         ·go_simp
          rfl
         refine hK.out _ _ ?_
         clear hK K
         refine pu 19 78 ?_
         refine last_ (i := 20) (N := none) #[true, true, true, true, true, true, true, true, true, true, true, true, true, true, true, true, true, true, true, true, true] rfl rfl (one_of HT_.out (by kernel_rfl)) (by decide) (fun K hK => ?_)
         refine skip_ (w1 := ?_) (by rfl) rfl ?_ ?_
         rotate_left
         ·go_simp
          rfl
         refine hK.out _ _ ?_
         clear hK K
         refine done_ (done_of HT_.out (by kernel_rfl)) ?_
         try go_wp2
         go_roundg kj18
         case measure => have := cY.out; have := cV.out; have := lG.out; have := iL.out; omega
         case rel => exact ⟨(mZ), (pH), (wrap64 (aU + 1)), (wrap64 (bN + 1)), (by first | rfl | (simp; done) | (simp [*]; done)), (by first | rfl | (simp; done) | (simp [*]; done)), H', ⟨by have := cY.out; have := cV.out; have := lG.out; have := iL.out; omega⟩, ⟨by (with_reducible repeat (first | apply Kd.R_alloc | apply Kd.R_drewN | apply Kd.R_drew)); exact Kd.R_mono (Kd.R_far (p := ⟨pM, (bN : Int).toNat, none⟩) (Kd.R_mono HQ41.out (fun k_ hk => (⟨hk, fun e_ => hk (by rw [e_]; rfl)⟩ : _ ∧ k_ ≠ pM))) (fun _ hk => hk.2) (.int .i64 (wrap64 (bR + (rd l3 (rd l1 aU)))))) (fun _ hk => hk.1)⟩, ⟨by (with_reducible repeat (first | apply Kd.R_alloc | apply Kd.R_drewN | apply Kd.R_drew)); exact Kd.R_mono HQ42.out (fun _ hk => hk.1)⟩, ⟨by refine pB ?_; refine blk_far ?_ (by have h_ := Kd.R_ne bM.out aA.out (by decide); intro e_; exact h_ (by rw [e_]; rfl)) _; refine pB ?_; refine blk_far ?_ (by have h_ := Kd.R_ne bZ.out aA.out (by decide); intro e_; exact h_ (by rw [e_]; rfl)) _; exact pB aA.out⟩, ⟨pE HB⟩⟩
end Go.Proofs.YtlmglnobdcgbeaaGreat.P
