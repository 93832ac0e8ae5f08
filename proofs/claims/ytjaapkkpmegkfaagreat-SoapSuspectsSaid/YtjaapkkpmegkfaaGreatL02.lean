/- Part 2 of what the law's proof needs beyond its base: words, walks of functions and plain facts. -/
import Derived.Test.YtjaapkkpmegkfaaGreatL01
set_option linter.unusedVariables false
set_option linter.unusedSimpArgs false
namespace Go.Proofs.YtjaapkkpmegkfaaGreat.P
open Go.RowKit Go.Proofs.YtjaapkkpmegkfaaGreatW.PrintWords Go.Proofs.YtjaapkkpmegkfaaGreatW.PrintLast Go.Proofs.YtjaapkkpmegkfaaGreatW.PrintMore
attribute [local go_sem] JG JH JY JX Jv Ju JJ JK
def Qav.l0 : Nat → List S75 → List S75 → Int → Option ((List S75))
 | 0, _, _, _ => none
 | k + 1, x0, x3, x4 => if x4 < (x0.length : Int) then (if 0 ≤ x4 then ((Qaw.f ((Ql x0 x4).f0)).bind fun t105 => ((Qaw.f ((Ql x0 x4).f1)).bind fun t109 => (if x3.length < 2513169434916 then (Qav.l0 k x0 (x3 ++ [(⟨t105, t109, (Ql x0 x4).f2⟩ : S75)]) (wrap64 (x4 + 1))) else (none)))) else (none)) else (some x3)
def Qav.f (k : Nat) (l0 : List S75) : Option ((List S75)) := Qav.l0 k l0 (([] : List S75)) 0
def Qav.T5 : Bool × List (List Nat × List Nat) := (true, [([], []), ([], []), ([], []), ([1, 2], [1, 2]), ([3], [3]), ([4], [4]), ([5], [5]), ([], []), ([], []), ([7, 8], [7, 8]), ([9], [9]), ([10], [10]), ([11, 6], [11]), ([], []), ([], []), ([13, 14], [13, 14]), ([15], [15]), ([16], [16]), ([6, 12, 17], [6, 12, 17]), ([18], [18]), ([0, 19, 12], [0, 19]), ([20, 20, 0, 1, 2, 3, 4, 5, 6, 7, 8, 9, 10, 11, 12, 13, 14, 15, 16, 17, 18, 19, 20], [0, 20])])
def Qav.B5 : List Nat := [0, 0, 0, 6, 14, 30, 62, 0, 0, 384, 896, 1920, 4094, 0, 0, 24576, 57344, 122880, 262142, 524286, 1048575, 2097151]
theorem Qav.tab5 : rtab .any (ZG Tryz.f43 5) = Qav.T5 := by kernel_rfl
theorem Qav.bits5 : J0 Qav.T5.2 Qav.B5 = true := by kernel_rfl
set_option maxHeartbeats 8000000 in
set_option maxRecDepth 100000 in
theorem Qav.calls (k : Nat) (A0 : Option Addr) (c0 : Nat) (l0 r : List S75) (w : World) (hr0 : Kd.C k75 w A0 l0.length l0) (hc0 : l0.length ≤ c0) (h : Qav.f k l0 = some r) :
  Calls Tryz.prog 43 #[.slice A0 l0.length c0] w fun e w' => ∃ v0_ : Value, e = .returned (v0_) ∧ Kd.S k75 75 w' w.heap.size (fun _ => True) v0_ r ∧ Below w.heap.size w w' := by
 have hu75 := Tryz.underlying75
 have HR0 := Qa.mk hr0
 have HC0 := Qa.mk hc0
 clear hr0 hc0
 have HB := Qa.mk (Below.refl w.heap.size w)
 have H : (Qav.l0 k l0 (([] : List S75)) 0) = some r := h
 clear h
 obtain ⟨y101, hy101⟩ : ∃ y_ : List S75, y_ = (([] : List S75)) := ⟨_, rfl⟩
 replace H : (Qav.l0 k l0 y101 0) = some r := yy hy101 H
 have Ny101 := Qa.mk hy101
 clear hy101
 have H' := Qa.mk H
 clear H
 go_enter Tryz.func43, Tryz.ntmps43
 go_wp2_with (first | ((with_reducible refine gd 5 ?_); refine Kd.S_lit k75 _ 75 ?hg (N := 5) ?hd (xs := ([] : List S75)) (inner := []) (ok := fun _ => True) (okp := fun _ => True) ?hr ?hp (fun _ hk => hk) trivial (Below.refl _ _) (Nat.le_refl _) (by simp) ?_; (case hd => rfl); (case hg => rfl); (case hr => first | (go_simp; done) | (go_simp; rfl)); (case hp => exact (Reps.none _ _)); intro v102 w2 ho3 hb hg_ hnew_; clear hg_ hnew_; (first | rw [← Ny101.out] at ho3 | (simp only [Int.reduceToNat] at ho3; rw [← Ny101.out] at ho3)); have HO103 := Qa.mk (Kd.S_lower ho3 (Qr (pE HB))); replace HB := bs HB hb; clear hb ho3))
 go_loopg [3, 4] k (fun kq v3 v4 w' => ∃ (x3_1 : List S75) (x4_1 : Int), v4 = .int .i64 x4_1 ∧ Qa (Qav.l0 kq l0 x3_1 x4_1 = some r) ∧ Qa (kq ≤ k) ∧ Qa (Kd.S k75 75 w' w.heap.size (fun _ => True) v3 x3_1) ∧ Qa (Below w.heap.size w w'))
 case atStart => exact ⟨(y101), (0), eS, H', ⟨Nat.le_refl _⟩, ⟨by (with_reducible repeat (first | apply Kd.S_alloc | apply Kd.S_drewN | apply Kd.S_drew)); exact HO103.out⟩, ⟨pE HB⟩⟩
 case round =>
  clear H'
  try clear p2
  obtain ⟨x3_1, x4_1, rfl, HA, HK1, HO_3, HB⟩ := hrel
  cases gk with
  | zero => exact absurd HA.out (by simp [Qav.l0])
  | succ k1 =>
   have H := HA.out
   clear HA
   simp only [Qav.l0] at H
   by_cases c4 : x4_1 < (l0.length : Int)
   ·rw [if_pos c4] at H
    have c4b0 : decide (x4_1 < (l0.length : Int)) = true := decide_eq_true c4
    clear c4
    by_cases c5 : 0 ≤ x4_1
    ·rw [if_pos c5] at H
     have c5b0 : decide (0 ≤ x4_1) = true := decide_eq_true c5
     clear c5
     obtain ⟨t105, A6, H⟩ := bi H
     obtain ⟨t109, A7, H⟩ := bi H
     by_cases c8 : x3_1.length < 2513169434916
     ·rw [if_pos c8] at H
      have LMc8 := Qa.mk c8
      clear c8
      obtain ⟨y113, hy113⟩ : ∃ y_ : List S75, y_ = (x3_1 ++ [(⟨t105, t109, (Ql l0 x4_1).f2⟩ : S75)]) := ⟨_, rfl⟩
      replace H : (Qav.l0 k1 l0 y113 (wrap64 (x4_1 + 1))) = some r := yy hy113 H
      have Ny113 := Qa.mk hy113
      clear hy113
      have H' := Qa.mk H
      clear H
      try go_wp2
      replace HO_3 := Qa.mk (Kd.S_drew HO_3.out)
      replace HB := Qa.mk (QM HB.out)
      have p104 : 0 ≤ (x4_1 : Int) := dT
      have q104 : x4_1 < (l0.length : Int) := dT
      obtain ⟨ad104, A104_0, c104_0, A104_1, c104_1, e104, hx104_0, hx104_1, hx104_2, hl104_0, hi104_0, hl104_1, hi104_1⟩ := Xl HR0.out x4_1 p104 q104
      have hw104_2 := hx104_2
      have hw104_1 := hx104_1
      have hw104_0 := hx104_0
      cases e104
      replace hx104_0 := cut_ HB hx104_0
      replace hx104_1 := cut_ HB hx104_1
      replace hx104_2 := cut_ HB hx104_2
      have HR104_0 := Qa.mk hi104_0
      have HC104_0 := Qa.mk hl104_0
      clear hi104_0 hl104_0
      have HR104_1 := Qa.mk hi104_1
      have HC104_1 := Qa.mk hl104_1
      clear hi104_1 hl104_1
      replace p104 := eq_true p104
      replace q104 := eq_true q104
      have p108 : 0 ≤ (x4_1 : Int) := dT
      have q108 : x4_1 < (l0.length : Int) := dT
      obtain ⟨ad108, A108_0, c108_0, A108_1, c108_1, e108, hx108_0, hx108_1, hx108_2, hl108_0, hi108_0, hl108_1, hi108_1⟩ := Xl HR0.out x4_1 p108 q108
      have hw108_2 := hx108_2
      have hw108_1 := hx108_1
      have hw108_0 := hx108_0
      obtain rfl : ad104 = ad108 := (by injection e108)
      replace hx108_0 := cut_ HB hx108_0
      replace hx108_1 := cut_ HB hx108_1
      replace hx108_2 := cut_ HB hx108_2
      have HR108_0 := Qa.mk hi108_0
      have HC108_0 := Qa.mk hl108_0
      clear hi108_0 hl108_0
      have HR108_1 := Qa.mk hi108_1
      have HC108_1 := Qa.mk hl108_1
      clear hi108_1 hl108_1
      replace p108 := eq_true p108
      replace q108 := eq_true q108
      have ea_ := Option.some.inj (hx104_0.symm.trans hx108_0)
      injection ea_ with ea_ en_ ec_
      subst ea_
      subst ec_
      clear en_
      have ea_ := Option.some.inj (hx104_1.symm.trans hx108_1)
      injection ea_ with ea_ en_ ec_
      subst ea_
      subst ec_
      clear en_
      have p112 : 0 ≤ (x4_1 : Int) := dT
      have q112 : x4_1 < (l0.length : Int) := dT
      obtain ⟨ad112, A112_0, c112_0, A112_1, c112_1, e112, hx112_0, hx112_1, hx112_2, hl112_0, hi112_0, hl112_1, hi112_1⟩ := Xl HR0.out x4_1 p112 q112
      have hw112_2 := hx112_2
      have hw112_1 := hx112_1
      have hw112_0 := hx112_0
      obtain rfl : ad104 = ad112 := (by injection e112)
      replace hx112_0 := cut_ HB hx112_0
      replace hx112_1 := cut_ HB hx112_1
      replace hx112_2 := cut_ HB hx112_2
      have HR112_0 := Qa.mk hi112_0
      have HC112_0 := Qa.mk hl112_0
      clear hi112_0 hl112_0
      have HR112_1 := Qa.mk hi112_1
      have HC112_1 := Qa.mk hl112_1
      clear hi112_1 hl112_1
      replace p112 := eq_true p112
      replace q112 := eq_true q112
      have ea_ := Option.some.inj (hx104_0.symm.trans hx112_0)
      injection ea_ with ea_ en_ ec_
      subst ea_
      subst ec_
      clear en_
      have ea_ := Option.some.inj (hx104_1.symm.trans hx112_1)
      injection ea_ with ea_ en_ ec_
      subst ea_
      subst ec_
      clear en_
      refine JS (n := 22) (S := fun w' => w'.cell? (ad104.add ((x4_1).toNat * 3)) = some (.slice A104_0 ((Ql l0 x4_1).f0).length c104_0) ∧ w'.cell? ⟨(ad104.add ((x4_1).toNat * 3)).block, (ad104.add ((x4_1).toNat * 3)).off + 1, none⟩ = some (.slice A104_1 ((Ql l0 x4_1).f1).length c104_1) ∧ w'.cell? ⟨(ad104.add ((x4_1).toNat * 3)).block, (ad104.add ((x4_1).toNat * 3)).off + 2, none⟩ = some (.int .i64 ((Ql l0 x4_1).f2)) ∧ w'.cell? (ad104.add ((x4_1).toNat * 3)) = some (.slice A104_0 ((Ql l0 x4_1).f0).length c104_0) ∧ w'.cell? ⟨(ad104.add ((x4_1).toNat * 3)).block, (ad104.add ((x4_1).toNat * 3)).off + 1, none⟩ = some (.slice A104_1 ((Ql l0 x4_1).f1).length c104_1) ∧ w'.cell? ⟨(ad104.add ((x4_1).toNat * 3)).block, (ad104.add ((x4_1).toNat * 3)).off + 2, none⟩ = some (.int .i64 ((Ql l0 x4_1).f2)) ∧ w'.cell? (ad104.add ((x4_1).toNat * 3)) = some (.slice A104_0 ((Ql l0 x4_1).f0).length c104_0) ∧ w'.cell? ⟨(ad104.add ((x4_1).toNat * 3)).block, (ad104.add ((x4_1).toNat * 3)).off + 1, none⟩ = some (.slice A104_1 ((Ql l0 x4_1).f1).length c104_1) ∧ w'.cell? ⟨(ad104.add ((x4_1).toNat * 3)).block, (ad104.add ((x4_1).toNat * 3)).off + 2, none⟩ = some (.int .i64 ((Ql l0 x4_1).f2))) (ds := []) #[false, false, false, false, false, false, false, false, false, false, false, false, false, false, false, false, false, false, false, false, false, false] (by kernel_rfl) rfl rfl ⟨((HB.out.cell (World.block_lt_of_cell? w _ hw104_0)).trans hw104_0), ((HB.out.cell (World.block_lt_of_cell? w _ hw104_1)).trans hw104_1), ((HB.out.cell (World.block_lt_of_cell? w _ hw104_2)).trans hw104_2), ((HB.out.cell (World.block_lt_of_cell? w _ hw108_0)).trans hw108_0), ((HB.out.cell (World.block_lt_of_cell? w _ hw108_1)).trans hw108_1), ((HB.out.cell (World.block_lt_of_cell? w _ hw108_2)).trans hw108_2), ((HB.out.cell (World.block_lt_of_cell? w _ hw112_0)).trans hw112_0), ((HB.out.cell (World.block_lt_of_cell? w _ hw112_1)).trans hw112_1), ((HB.out.cell (World.block_lt_of_cell? w _ hw112_2)).trans hw112_2)⟩ (fun hHeld => ?_); refine Jk Qav.tab5 Qav.bits5 (fun HT_ HW_ => ?_)
      generalize wr.drew = w9 at HO_3 HB HR104_0 HR104_1 HR108_0 HR108_1 HR112_0 HR112_1 hx104_0 hx104_1 hx104_2 hx108_0 hx108_1 hx108_2 hx112_0 hx112_1 hx112_2 hHeld ⊢
      refine pu 0 12 ?_
      refine pu 1 13 ?_
      refine pu 2 14 ?_
      refine pu 3 15 ?_
      refine pu 4 16 ?_
      refine pu 7 19 ?_
      refine pu 8 20 ?_
      refine pu 9 21 ?_
      refine pu 10 22 ?_
      refine pu 13 25 ?_
      refine pu 14 26 ?_
      refine pu 15 27 ?_
      refine pu 16 28 ?_
      refine tk 5 17 hHeld ?_
      refine tk 11 23 hHeld ?_
      refine tk 17 29 hHeld ?_
      refine on 6 (fun K hK => ?_)
      refine gO Tryz.func17 #[.slice A104_0 ((Ql l0 x4_1).f0).length c104_0] ?_
      with_reducible refine (Qaw.calls _ _ ((Ql l0 x4_1).f0) t105 _ ?side1 ?side2 A6.out).mono ?_
      (case side1 => exact pC (Kd.C_below HR104_0.out HB.out))
      (case side2 => exact HC104_0.out)
      rintro e w10 ⟨v106, rfl, ho0, hb⟩
      refine ⟨_, rfl, ?_⟩
      replace HO_3 := Qa.mk (Kd.S_elder' (pS HO_3.out) (Kd.R_base ho0) hb)
      have HO107 := rl ho0 HB
      replace HB := bs HB hb
      (try clear hb)
      (try clear hb2)
      (try clear hk)
      (try clear hi)
      (try clear ho0)
      refine hK.out _ _ ⟨((HB.out.cell (World.block_lt_of_cell? w _ hw104_0)).trans hw104_0), ((HB.out.cell (World.block_lt_of_cell? w _ hw104_1)).trans hw104_1), ((HB.out.cell (World.block_lt_of_cell? w _ hw104_2)).trans hw104_2), ((HB.out.cell (World.block_lt_of_cell? w _ hw108_0)).trans hw108_0), ((HB.out.cell (World.block_lt_of_cell? w _ hw108_1)).trans hw108_1), ((HB.out.cell (World.block_lt_of_cell? w _ hw108_2)).trans hw108_2), ((HB.out.cell (World.block_lt_of_cell? w _ hw112_0)).trans hw112_0), ((HB.out.cell (World.block_lt_of_cell? w _ hw112_1)).trans hw112_1), ((HB.out.cell (World.block_lt_of_cell? w _ hw112_2)).trans hw112_2)⟩ (fun hHeld => ?_)
      clear hK K
      refine QY (a' := ?_) ?_ ?_
      rotate_left
      ·show Act.put _ (some 18) _ = _
       simp only [Act.put, List.setIfInBounds_toArray, List.set_cons_zero, List.set_cons_succ, QR, QU]
       rfl
      refine on 12 (fun K hK => ?_)
      refine gO Tryz.func17 #[.slice A104_1 ((Ql l0 x4_1).f1).length c104_1] ?_
      with_reducible refine (Qaw.calls _ _ ((Ql l0 x4_1).f1) t109 _ ?side1 ?side2 A7.out).mono ?_
      (case side1 => exact pC (Kd.C_below HR108_1.out HB.out))
      (case side2 => exact HC108_1.out)
      rintro e w11 ⟨v110, rfl, ho0, hb⟩
      refine ⟨_, rfl, ?_⟩
      replace HO_3 := Qa.mk (Kd.S_elder' (pS HO_3.out) (Kd.R_base ho0) hb)
      have HO111 := Qa.mk (Kd.R_lower (Kd.R_new' ho0 (Kd.R_lt (pR HO107.out))) (Qr (pE HB)))
      replace HO107 := re HO107 ho0 hb
      replace HB := bs HB hb
      (try clear hb)
      (try clear hb2)
      (try clear hk)
      (try clear hi)
      (try clear ho0)
      obtain ⟨Ao12, co12, eo12⟩ := Kd.R_slice HO111.out
      (first | subst eo12 | (injection eo12 with f1_ f2_ f3_; have f4_ := f1_.symm; have f5_ := f3_.symm; clear f1_ f2_ f3_; subst f4_; subst f5_))
      obtain ⟨Ao13, co13, eo13⟩ := Kd.R_slice HO107.out
      (first | subst eo13 | (injection eo13 with f1_ f2_ f3_; have f4_ := f1_.symm; have f5_ := f3_.symm; clear f1_ f2_ f3_; subst f4_; subst f5_))
      refine hK.out _ _ ⟨((HB.out.cell (World.block_lt_of_cell? w _ hw104_0)).trans hw104_0), ((HB.out.cell (World.block_lt_of_cell? w _ hw104_1)).trans hw104_1), ((HB.out.cell (World.block_lt_of_cell? w _ hw104_2)).trans hw104_2), ((HB.out.cell (World.block_lt_of_cell? w _ hw108_0)).trans hw108_0), ((HB.out.cell (World.block_lt_of_cell? w _ hw108_1)).trans hw108_1), ((HB.out.cell (World.block_lt_of_cell? w _ hw108_2)).trans hw108_2), ((HB.out.cell (World.block_lt_of_cell? w _ hw112_0)).trans hw112_0), ((HB.out.cell (World.block_lt_of_cell? w _ hw112_1)).trans hw112_1), ((HB.out.cell (World.block_lt_of_cell? w _ hw112_2)).trans hw112_2)⟩ (fun hHeld => ?_)
      clear hK K
      refine QY (a' := ?_) ?_ ?_
      rotate_left
      ·show Act.put _ (some 24) _ = _
       simp only [Act.put, List.setIfInBounds_toArray, List.set_cons_zero, List.set_cons_succ, QR, QU]
       rfl
      refine pu 18 30 ?_
      refine on 19 (fun K hK => ?_)
      refine value_ (w1 := ?_) (v := ?_) (by rfl) rfl ?_ ?_
      rotate_left 2
      ·go_simp
       constructor
       ·rfl
       ·rfl
      refine hK.out _ _ ⟨(World.cell?_alloc_lt _ _ _ (World.block_lt_of_cell? _ _ (((HB.out.cell (World.block_lt_of_cell? w _ hw104_0)).trans hw104_0)))).trans (((HB.out.cell (World.block_lt_of_cell? w _ hw104_0)).trans hw104_0)), (World.cell?_alloc_lt _ _ _ (World.block_lt_of_cell? _ _ (((HB.out.cell (World.block_lt_of_cell? w _ hw104_1)).trans hw104_1)))).trans (((HB.out.cell (World.block_lt_of_cell? w _ hw104_1)).trans hw104_1)), (World.cell?_alloc_lt _ _ _ (World.block_lt_of_cell? _ _ (((HB.out.cell (World.block_lt_of_cell? w _ hw104_2)).trans hw104_2)))).trans (((HB.out.cell (World.block_lt_of_cell? w _ hw104_2)).trans hw104_2)), (World.cell?_alloc_lt _ _ _ (World.block_lt_of_cell? _ _ (((HB.out.cell (World.block_lt_of_cell? w _ hw108_0)).trans hw108_0)))).trans (((HB.out.cell (World.block_lt_of_cell? w _ hw108_0)).trans hw108_0)), (World.cell?_alloc_lt _ _ _ (World.block_lt_of_cell? _ _ (((HB.out.cell (World.block_lt_of_cell? w _ hw108_1)).trans hw108_1)))).trans (((HB.out.cell (World.block_lt_of_cell? w _ hw108_1)).trans hw108_1)), (World.cell?_alloc_lt _ _ _ (World.block_lt_of_cell? _ _ (((HB.out.cell (World.block_lt_of_cell? w _ hw108_2)).trans hw108_2)))).trans (((HB.out.cell (World.block_lt_of_cell? w _ hw108_2)).trans hw108_2)), (World.cell?_alloc_lt _ _ _ (World.block_lt_of_cell? _ _ (((HB.out.cell (World.block_lt_of_cell? w _ hw112_0)).trans hw112_0)))).trans (((HB.out.cell (World.block_lt_of_cell? w _ hw112_0)).trans hw112_0)), (World.cell?_alloc_lt _ _ _ (World.block_lt_of_cell? _ _ (((HB.out.cell (World.block_lt_of_cell? w _ hw112_1)).trans hw112_1)))).trans (((HB.out.cell (World.block_lt_of_cell? w _ hw112_1)).trans hw112_1)), (World.cell?_alloc_lt _ _ _ (World.block_lt_of_cell? _ _ (((HB.out.cell (World.block_lt_of_cell? w _ hw112_2)).trans hw112_2)))).trans (((HB.out.cell (World.block_lt_of_cell? w _ hw112_2)).trans hw112_2))⟩ (fun hHeld => ?_)
      clear hK K
      refine QY (a' := ?_) ?_ ?_
      rotate_left
      ·show Act.put _ (some 31) _ = _
       simp only [Act.put, List.setIfInBounds_toArray, List.set_cons_zero, List.set_cons_succ, QR, QU]
       rfl
      refine on 20 (fun K hK => ?_)
      refine Kd.S_append_step k75 (w0 := w) w.heap.size (by rfl) (.tmp 12) (.tmp 31) 72 75 (.agg #[(.slice none 0 0), (.slice none 0 0), (.int .i64 0)]) 56 rfl Tryz.underlying72 info75 rfl (by decide) (by omega) u3 x3_1 (⟨t105, t109, (Ql l0 x4_1).f2⟩ : S75) [.slice Ao13 t105.length co13, .slice Ao12 t109.length co12, .int .i64 ((Ql l0 x4_1).f2)] (fun _ => True) (fun k_ => some k_ = (.slice Ao13 t105.length co13 : Value).ownBlock ∨ some k_ = (.slice Ao12 t109.length co12 : Value).ownBlock) rfl rfl ?aP (fun k_ hk_ => hk_.elim (fun h_ => ((Kd.R_mono (ok' := fun k_ => ((fun _ => True)) k_ ∧ some k_ ≠ (u3 : Value).ownBlock) (Kd.R_apart' (HO107.out) (Kd.S_typed HO_3.out) (by decide)) (fun k_ hk => ⟨trivial, hk.2⟩))).1 k_ h_.symm) (fun h_ => ((Kd.R_mono (ok' := fun k_ => ((fun _ => True)) k_ ∧ some k_ ≠ (u3 : Value).ownBlock) (Kd.R_apart' (HO111.out) (Kd.S_typed HO_3.out) (by decide)) (fun k_ hk => ⟨trivial, hk.2⟩))).1 k_ h_.symm)) ?aF ?aO ?aB ?aS ?aL ?_
      (case aP => exact k75_mkM _ _ _ (⟨t105, t109, (Ql l0 x4_1).f2⟩ : S75) (Kd.R_mono (Kd.R_tight rfl (Kd.R_mono (ok' := fun k_ => ((fun _ => True)) k_ ∧ some k_ ≠ (u3 : Value).ownBlock) (Kd.R_apart' (HO107.out) (Kd.S_typed HO_3.out) (by decide)) (fun k_ hk => ⟨trivial, hk.2⟩))) (fun _ h_ => Or.inl h_)) (Kd.R_mono (Kd.R_tight rfl (Kd.R_mono (ok' := fun k_ => ((fun _ => True)) k_ ∧ some k_ ≠ (u3 : Value).ownBlock) (Kd.R_apart' (HO111.out) (Kd.S_typed HO_3.out) (by decide)) (fun k_ hk => ⟨trivial, hk.2⟩))) (fun _ h_ => Or.inr (h_))))
      (case aB => exact (pE HB))
      (case aF => exact (fun _ _ => trivial))
      (case aO => exact (by refine pS ?_; exact Kd.S_mono HO_3.out (fun k_ hk => ⟨trivial, fun e_ => e_.elim (fun h_ => hk.1.2 h_) (fun h_ => hk.2 h_)⟩)))
      (case aS => exact (Qr (pE HB)))
      (case aL => have := LMc8.out; omega)
      intro v114 w14 ho hb hg hat
      rw [← Ny113.out] at ho
      replace HB := Qa.mk (hb)
      have HO115 := Qa.mk (ho)
      clear HO_3 HO107 HO111 ho hb hg hat
      refine hK.out _ _ ⟨((HB.out.cell (World.block_lt_of_cell? w _ hw104_0)).trans hw104_0), ((HB.out.cell (World.block_lt_of_cell? w _ hw104_1)).trans hw104_1), ((HB.out.cell (World.block_lt_of_cell? w _ hw104_2)).trans hw104_2), ((HB.out.cell (World.block_lt_of_cell? w _ hw108_0)).trans hw108_0), ((HB.out.cell (World.block_lt_of_cell? w _ hw108_1)).trans hw108_1), ((HB.out.cell (World.block_lt_of_cell? w _ hw108_2)).trans hw108_2), ((HB.out.cell (World.block_lt_of_cell? w _ hw112_0)).trans hw112_0), ((HB.out.cell (World.block_lt_of_cell? w _ hw112_1)).trans hw112_1), ((HB.out.cell (World.block_lt_of_cell? w _ hw112_2)).trans hw112_2)⟩ (fun hHeld => ?_)
      clear hK K
      refine QY (a' := ?_) ?_ ?_
      rotate_left
      ·show Act.put _ (some 32) _ = _
       simp only [Act.put, List.setIfInBounds_toArray, List.set_cons_zero, List.set_cons_succ, QR, QU]
       rfl
      refine pu 21 3 ?_
      refine JD (JM HT_.out (by kernel_rfl)) ?_
      try go_wp2
      go_roundg k1
      case measure => have := HK1.out; omega
      case rel => exact ⟨(y113), (wrap64 (x4_1 + 1)), eS, H', ⟨by have := HK1.out; omega⟩, ⟨by (with_reducible repeat (first | apply Kd.S_alloc | apply Kd.S_drewN | apply Kd.S_drew)); exact HO115.out⟩, ⟨pE HB⟩⟩
     ·rw [if_neg c8] at H
      exact absurd H (by simp)
    ·rw [if_neg c5] at H
     exact absurd H (by simp)
   ·rw [if_neg c4] at H
    have c4b0 : decide (x4_1 < (l0.length : Int)) = false := decide_eq_false c4
    clear c4
    obtain rfl := Option.some.inj H
    go_wp2
    go_ret
    exact ⟨_, eT, by (with_reducible repeat (first | apply Kd.S_alloc | apply Kd.S_drewN | apply Kd.S_drew)); exact HO_3.out, pE HB⟩
def Qat.l0 : Nat → List Int → Int → Int → Option Bool
 | 0, _, _, _ => none
 | k + 1, x0, x1, x5 => if x5 < (x0.length : Int) then (if 0 ≤ x5 then (if (rd x0 x5) = x1 then (some true) else (Qat.l0 k x0 x1 (wrap64 (x5 + 1)))) else (none)) else (some false)
def Qat.f (k : Nat) (l0 : List Int) (a1 : Int) : Option Bool := Qat.l0 k l0 a1 0
set_option maxHeartbeats 8000000 in
set_option maxRecDepth 100000 in
theorem Qat.calls (k : Nat) (A0 : Option Addr) (c0 : Nat) (l0 : List Int) (a1 : Int) (r : Bool) (w : World) (hr0 : Kd.C (Kd.int .i64) w A0 l0.length l0) (hc0 : l0.length ≤ c0) (h : Qat.f k l0 a1 = some r) :
  Calls Tryz.prog 98 #[.slice A0 l0.length c0, .int .i64 a1] w fun e w' => e = .returned (.bool r) ∧ JB w w' := by
 have HR0 := Qa.mk hr0; have HC0 := Qa.mk hc0; clear hr0 hc0; have H : (Qat.l0 k l0 a1 0) = some r := h; clear h; have H' := Qa.mk H; clear H; go_enter Tryz.func98, Tryz.ntmps98; go_wp2
 go_loopg [5] k (fun kq v5 w' => ∃ (x5_1 : Int), v5 = .int .i64 x5_1 ∧ Qa (Qat.l0 kq l0 a1 x5_1 = some r) ∧ Qa (kq ≤ k) ∧ JB w w')
 case atStart => exact ⟨(0), eS, H', ⟨Nat.le_refl _⟩, dS⟩
 case round =>
  clear H'; try clear p2
  obtain ⟨x5_1, rfl, HA, HK1, ⟨m1, rfl⟩⟩ := hrel
  cases gk with
  | zero => exact absurd HA.out (by simp [Qat.l0])
  | succ k1 =>
   have H := HA.out; clear HA; simp only [Qat.l0] at H; by_cases c3 : x5_1 < (l0.length : Int)
   ·rw [if_pos c3] at H
    have c3b0 : decide (x5_1 < (l0.length : Int)) = true := decide_eq_true c3; clear c3; by_cases c4 : 0 ≤ x5_1
    ·rw [if_pos c4] at H
     have c4b0 : decide (0 ≤ x5_1) = true := decide_eq_true c4; clear c4; by_cases c5 : (rd l0 x5_1) = a1
     ·rw [if_pos c5] at H
      have c5b0 : ((rd l0 x5_1) == a1) = true := beq_iff_eq.mpr c5; have c5b1 : ((rd l0 x5_1) != a1) = false := bne_eq_false_iff_eq.mpr c5; clear c5; obtain rfl := Option.some.inj H; have p101 : 0 ≤ (x5_1 : Int) := dT; have q101 : x5_1 < (l0.length : Int) := dT; obtain ⟨ad101, e101, hx101_0⟩ := Kd.at_int HR0.out x5_1 p101 q101
      cases e101
      replace p101 := eq_true p101; replace q101 := eq_true q101; go_wp2; go_ret; exact ⟨eS, dS⟩
     ·rw [if_neg c5] at H
      have c5b0 : ((rd l0 x5_1) == a1) = false := beq_eq_false_iff_ne.mpr c5; have c5b1 : ((rd l0 x5_1) != a1) = true := bne_iff_ne.mpr c5; have H' := Qa.mk H; clear H; have p101 : 0 ≤ (x5_1 : Int) := dT; have q101 : x5_1 < (l0.length : Int) := dT; obtain ⟨ad101, e101, hx101_0⟩ := Kd.at_int HR0.out x5_1 p101 q101
      cases e101
      replace p101 := eq_true p101; replace q101 := eq_true q101; go_wp2
      go_roundg k1
      case measure => have := HK1.out; omega
      case rel => exact ⟨(wrap64 (x5_1 + 1)), eS, H', ⟨by have := HK1.out; omega⟩, dS⟩
    ·rw [if_neg c4] at H
     exact absurd H (by simp)
   ·rw [if_neg c3] at H
    have c3b0 : decide (x5_1 < (l0.length : Int)) = false := decide_eq_false c3; clear c3; obtain rfl := Option.some.inj H; go_wp2; go_ret; exact ⟨eS, dS⟩
mutual
def Qar.l0 : Nat → Int → List S75 → Int → List Int → Int → Option (List Int)
 | 0, _, _, _, _, _ => none
 | k + 1, x0, x1, x2, x7, x8 => if x8 < x0 then (Qar.l1 k x0 x1 x2 x7 x8 0 0) else (some x7)
def Qar.l1 : Nat → Int → List S75 → Int → List Int → Int → Int → Int → Option (List Int)
 | 0, _, _, _, _, _, _, _ => none
 | k + 1, x0, x1, x2, x7, x8, x9, x10 => if x10 < (x1.length : Int) then (if 0 ≤ x10 then ((Qat.f k ((Ql x1 x10).f0) x8).bind fun t108 => (if t108 = true then (Qar.j2 k x0 x1 x2 x7 x8 x9 x10 1) else (Qar.j2 k x0 x1 x2 x7 x8 x9 x10 0))) else (none)) else (if x9 ≤ x2 then (if x7.length < 17592186044416 then (Qar.l0 k x0 x1 x2 (x7 ++ [x8]) (wrap64 (x8 + 1))) else (none)) else (Qar.l0 k x0 x1 x2 x7 (wrap64 (x8 + 1))))
def Qar.j2 : Nat → Int → List S75 → Int → List Int → Int → Int → Int → Int → Option (List Int)
 | 0, _, _, _, _, _, _, _, _ => none
 | k + 1, x0, x1, x2, x7, x8, x9, x10, x11 => if 0 ≤ x10 then (if x10 < (x1.length : Int) then ((Qat.f k ((Ql x1 x10).f1) x8).bind fun t110 => (if t110 = true then (if ((Ql x1 x10).f2) = 2 then (Qar.l1 k x0 x1 x2 x7 x8 x9 (wrap64 (x10 + 1))) else (Qar.l1 k x0 x1 x2 x7 x8 (wrap64 (x9 + 1)) (wrap64 (x10 + 1)))) else (if ((Ql x1 x10).f2) = x11 then (Qar.l1 k x0 x1 x2 x7 x8 x9 (wrap64 (x10 + 1))) else (Qar.l1 k x0 x1 x2 x7 x8 (wrap64 (x9 + 1)) (wrap64 (x10 + 1)))))) else (none)) else (none)
end
def Qar.f (k : Nat) (a0 : Int) (l1 : List S75) (a2 : Int) : Option (List Int) := Qar.l0 k a0 l1 a2 (([] : List Int)) 0
set_option maxHeartbeats 8000000 in
set_option maxRecDepth 100000 in
theorem Qar.calls (k : Nat) (a0 : Int) (A1 : Option Addr) (c1 : Nat) (l1 : List S75) (a2 : Int) (r : List Int) (w : World) (hr1 : Kd.C k75 w A1 l1.length l1) (hc1 : l1.length ≤ c1) (h : Qar.f k a0 l1 a2 = some r) :
  Calls Tryz.prog 47 #[.int .i64 a0, .slice A1 l1.length c1, .int .i64 a2] w fun e w' => ∃ v0_ : Value, e = .returned (v0_) ∧ Kd.R (Kd.int .i64) 3 w' w.heap.size (fun _ => True) v0_ r ∧ Below w.heap.size w w' := by
 have HR1 := Qa.mk hr1; have HC1 := Qa.mk hc1; clear hr1 hc1; have HB := Qa.mk (Below.refl w.heap.size w); have H : (Qar.l0 k a0 l1 a2 (([] : List Int)) 0) = some r := h; clear h; obtain ⟨y101, hy101⟩ : ∃ y_ : List Int, y_ = (([] : List Int)) := ⟨_, rfl⟩
 replace H : (Qar.l0 k a0 l1 a2 y101 0) = some r := yy hy101 H; have Ny101 := Qa.mk hy101; clear hy101; have H' := Qa.mk H; clear H; go_enter Tryz.func47, Tryz.ntmps47; go_wp2_with (first | ((with_reducible refine gd 12 ?_); refine rL (Kd.int .i64) 3 12 ([] : List Int) [] (Reps.none _ _) ?_; intro v102 w4 ho5 hb; replace ho5 := yR Ny101 ho5; have HO103 := rl ho5 HB; replace HB := bs HB hb; clear hb ho5))
 go_loopg [7, 8] k (fun kq v7 v8 w' => ∃ (x7_1 : List Int) (x8_1 : Int), v8 = .int .i64 x8_1 ∧ Qa (Qar.l0 kq a0 l1 a2 x7_1 x8_1 = some r) ∧ Qa (kq ≤ k) ∧ Qa (Kd.R (Kd.int .i64) 3 w' w.heap.size (fun _ => True) v7 x7_1) ∧ Qa (Below w.heap.size w w'))
 case atStart => exact ⟨(y101), (0), eS, H', ⟨Nat.le_refl _⟩, ⟨by (with_reducible repeat (first | apply Kd.R_alloc | apply Kd.R_drewN | apply Kd.R_drew)); exact HO103.out⟩, ⟨pE HB⟩⟩
 case round =>
  clear H'; try clear c1
  obtain ⟨x7_1, x8_1, rfl, HA, HK1, HO_7, HB⟩ := hrel
  cases gk with
  | zero => exact absurd HA.out (by simp [Qar.l0])
  | succ k1 =>
   have H := HA.out; clear HA; simp only [Qar.l0] at H; by_cases c6 : x8_1 < a0
   ·rw [if_pos c6] at H
    have c6b0 : decide (x8_1 < a0) = true := decide_eq_true c6; clear c6; have H' := Qa.mk H; clear H; go_wp2
    go_loopg [9, 10] k1 (fun kq v9 v10 w' => ∃ (x9_2 : Int) (x10_2 : Int), v9 = .int .i64 x9_2 ∧ v10 = .int .i64 x10_2 ∧ Qa (Qar.l1 kq a0 l1 a2 x7_1 x8_1 x9_2 x10_2 = some r) ∧ Qa (kq ≤ k1) ∧ Qa (Kd.R (Kd.int .i64) 3 w' w.heap.size (fun _ => True) u7 x7_1) ∧ Qa (Below w.heap.size w w'))
    case atStart => exact ⟨(0), (0), eS, eS, H', ⟨Nat.le_refl _⟩, ⟨by (with_reducible repeat (first | apply Kd.R_alloc | apply Kd.R_drewN | apply Kd.R_drew)); exact HO_7.out⟩, ⟨pE HB⟩⟩
    case round =>
     clear H'; try clear c6b0
     obtain ⟨x9_2, x10_2, rfl, rfl, HA, HK2, HO_7, HB⟩ := hrel
     cases gk with
     | zero => exact absurd HA.out (by simp [Qar.l1])
     | succ k2 =>
      have H := HA.out; clear HA; simp only [Qar.l1] at H; by_cases c7 : x10_2 < (l1.length : Int)
      ·rw [if_pos c7] at H
       have c7b0 : decide (x10_2 < (l1.length : Int)) = true := decide_eq_true c7; clear c7; by_cases c8 : 0 ≤ x10_2
       ·rw [if_pos c8] at H
        have c8b0 : decide (0 ≤ x10_2) = true := decide_eq_true c8; clear c8; obtain ⟨t108, A9, H⟩ := bi H; have HC10 := Qa.mk H; clear H; have p107 : 0 ≤ (x10_2 : Int) := dT; have q107 : x10_2 < (l1.length : Int) := dT; obtain ⟨ad107, A107_0, c107_0, A107_1, c107_1, e107, hx107_0, hx107_1, hx107_2, hl107_0, hi107_0, hl107_1, hi107_1⟩ := Xl HR1.out x10_2 p107 q107
        cases e107
        replace hx107_0 := cut_ HB hx107_0; replace hx107_1 := cut_ HB hx107_1; replace hx107_2 := cut_ HB hx107_2; have HR107_0 := Qa.mk hi107_0; have HC107_0 := Qa.mk hl107_0; clear hi107_0 hl107_0; have HR107_1 := Qa.mk hi107_1; have HC107_1 := Qa.mk hl107_1; clear hi107_1 hl107_1; replace p107 := eq_true p107; replace q107 := eq_true q107
        go_upto_if 30 with (first | ((with_reducible refine gc 98 rfl ?_); refine gL 30 Tryz.func98 #[.slice A107_0 ((Ql l1 x10_2).f0).length c107_0, .int .i64 x8_1] ?_; (with_reducible refine (Qat.calls k2 _ _ ((Ql l1 x10_2).f0) x8_1 t108 _ ?side1 ?side2 A9.out).mono ?_); (case side1 => exact pC (Kd.C_below HR107_0.out HB.out)); (case side2 => exact HC107_0.out); rintro e w' ⟨rfl, ⟨nd, rfl⟩⟩; refine ⟨_, rfl, ?_⟩))
        (try simp only [Act.put, List.setIfInBounds_toArray, List.set_cons_zero, List.set_cons_succ])
        go_cut [11] (fun v11 wc => ∃ (kq : Nat) (x11_9 : Int), v11 = .int .i64 x11_9 ∧ Qa (Qar.j2 kq a0 l1 a2 x7_1 x8_1 x9_2 x10_2 x11_9 = some r) ∧ Qa (kq ≤ k2) ∧ Qa (Kd.R (Kd.int .i64) 3 wc w.heap.size (fun _ => True) u7 x7_1) ∧ Qa (Below w.heap.size w wc))
        case first =>
         have H := HC10.out; clear HC10; by_cases c11 : t108 = true
         ·subst c11
          rw [if_pos rfl] at H; have H' := Qa.mk H; clear H; go_wp2
          go_meet
          case rel => exact ⟨_, (1), eS, H', ⟨by have := HK1.out; have := HK2.out; first | omega | exact Nat.le_refl _⟩, ⟨by (with_reducible repeat (first | apply Kd.R_alloc | apply Kd.R_drewN | apply Kd.R_drew)); exact HO_7.out⟩, ⟨pE HB⟩⟩
         ·replace c11 := Bool.eq_false_iff.mpr c11
          subst c11; rw [if_neg (show ¬ (false = true) by decide)] at H; have H' := Qa.mk H; clear H; go_wp2
          go_meet
          case rel => exact ⟨_, (0), eS, H', ⟨by have := HK1.out; have := HK2.out; first | omega | exact Nat.le_refl _⟩, ⟨by (with_reducible repeat (first | apply Kd.R_alloc | apply Kd.R_drewN | apply Kd.R_drew)); exact HO_7.out⟩, ⟨pE HB⟩⟩
        case rest =>
         clear HC10
         (try clear c7b0); (try clear c8b0); (try clear hx107_0); (try clear hx107_1); (try clear hx107_2); (try clear p107); (try clear q107)
         obtain ⟨kq, x11_9, rfl, HA, HJ9, HO_7, HB⟩ := hcut
         cases kq with
         | zero => exact absurd HA.out (by simp [Qar.j2])
         | succ kj9 =>
          have H := HA.out; clear HA; simp only [Qar.j2] at H; by_cases c12 : 0 ≤ x10_2
          ·rw [if_pos c12] at H
           have c12b0 : decide (0 ≤ x10_2) = true := decide_eq_true c12; clear c12; by_cases c13 : x10_2 < (l1.length : Int)
           ·rw [if_pos c13] at H
            have c13b0 : decide (x10_2 < (l1.length : Int)) = true := decide_eq_true c13; clear c13; obtain ⟨t110, A14, H⟩ := bi H; by_cases c15 : t110 = true
            ·subst c15
             rw [if_pos rfl] at H; by_cases c16 : ((Ql l1 x10_2).f2) = 2
             ·rw [if_pos c16] at H
              have c16b0 : (((Ql l1 x10_2).f2) == 2) = true := beq_iff_eq.mpr c16; have c16b1 : (((Ql l1 x10_2).f2) != 2) = false := bne_eq_false_iff_eq.mpr c16; clear c16; have H' := Qa.mk H; clear H; have p109 : 0 ≤ (x10_2 : Int) := dT; have q109 : x10_2 < (l1.length : Int) := dT; obtain ⟨ad109, A109_0, c109_0, A109_1, c109_1, e109, hx109_0, hx109_1, hx109_2, hl109_0, hi109_0, hl109_1, hi109_1⟩ := Xl HR1.out x10_2 p109 q109; obtain rfl : ad107 = ad109 := (by injection e109); replace hx109_0 := cut_ HB hx109_0; replace hx109_1 := cut_ HB hx109_1; replace hx109_2 := cut_ HB hx109_2; have HR109_0 := Qa.mk hi109_0; have HC109_0 := Qa.mk hl109_0; clear hi109_0 hl109_0; have HR109_1 := Qa.mk hi109_1; have HC109_1 := Qa.mk hl109_1; clear hi109_1 hl109_1; replace p109 := eq_true p109; replace q109 := eq_true q109; go_wp2_with (first | ((with_reducible refine gc 98 rfl ?_); refine gL 37 Tryz.func98 #[.slice A109_1 ((Ql l1 x10_2).f1).length c109_1, .int .i64 x8_1] ?_; (with_reducible refine (Qat.calls kj9 _ _ ((Ql l1 x10_2).f1) x8_1 true _ ?side1 ?side2 A14.out).mono ?_); (case side1 => exact pC (Kd.C_below HR109_1.out HB.out)); (case side2 => exact HC109_1.out); rintro e w' ⟨rfl, ⟨nd, rfl⟩⟩; refine ⟨_, rfl, ?_⟩; have p111 : 0 ≤ (x10_2 : Int) := dT; have q111 : x10_2 < (l1.length : Int) := dT; obtain ⟨ad111, A111_0, c111_0, A111_1, c111_1, e111, hx111_0, hx111_1, hx111_2, hl111_0, hi111_0, hl111_1, hi111_1⟩ := Xl HR1.out x10_2 p111 q111; obtain rfl : ad107 = ad111 := (by injection e111); replace hx111_0 := cut_ HB hx111_0; replace hx111_1 := cut_ HB hx111_1; replace hx111_2 := cut_ HB hx111_2; have HR111_0 := Qa.mk hi111_0; have HC111_0 := Qa.mk hl111_0; clear hi111_0 hl111_0; have HR111_1 := Qa.mk hi111_1; have HC111_1 := Qa.mk hl111_1; clear hi111_1 hl111_1; replace p111 := eq_true p111; replace q111 := eq_true q111; have ea_ := Option.some.inj (hx109_0.symm.trans hx111_0); injection ea_ with ea_ en_ ec_; subst ea_; subst ec_; clear en_; have ea_ := Option.some.inj (hx109_1.symm.trans hx111_1); injection ea_ with ea_ en_ ec_; subst ea_; subst ec_; clear en_))
              go_roundg kj9
              case measure => have := HK1.out; have := HK2.out; have := HJ9.out; omega
              case rel => exact ⟨(x9_2), (wrap64 (x10_2 + 1)), eS, eS, H', ⟨by have := HK1.out; have := HK2.out; have := HJ9.out; omega⟩, ⟨by (with_reducible repeat (first | apply Kd.R_alloc | apply Kd.R_drewN | apply Kd.R_drew)); exact HO_7.out⟩, ⟨pE HB⟩⟩
             ·rw [if_neg c16] at H
              have c16b0 : (((Ql l1 x10_2).f2) == 2) = false := beq_eq_false_iff_ne.mpr c16; have c16b1 : (((Ql l1 x10_2).f2) != 2) = true := bne_iff_ne.mpr c16; have H' := Qa.mk H; clear H; have p109 : 0 ≤ (x10_2 : Int) := dT; have q109 : x10_2 < (l1.length : Int) := dT; obtain ⟨ad109, A109_0, c109_0, A109_1, c109_1, e109, hx109_0, hx109_1, hx109_2, hl109_0, hi109_0, hl109_1, hi109_1⟩ := Xl HR1.out x10_2 p109 q109; obtain rfl : ad107 = ad109 := (by injection e109); replace hx109_0 := cut_ HB hx109_0; replace hx109_1 := cut_ HB hx109_1; replace hx109_2 := cut_ HB hx109_2; have HR109_0 := Qa.mk hi109_0; have HC109_0 := Qa.mk hl109_0; clear hi109_0 hl109_0; have HR109_1 := Qa.mk hi109_1; have HC109_1 := Qa.mk hl109_1; clear hi109_1 hl109_1; replace p109 := eq_true p109; replace q109 := eq_true q109; go_wp2_with (first | ((with_reducible refine gc 98 rfl ?_); refine gL 37 Tryz.func98 #[.slice A109_1 ((Ql l1 x10_2).f1).length c109_1, .int .i64 x8_1] ?_; (with_reducible refine (Qat.calls kj9 _ _ ((Ql l1 x10_2).f1) x8_1 true _ ?side1 ?side2 A14.out).mono ?_); (case side1 => exact pC (Kd.C_below HR109_1.out HB.out)); (case side2 => exact HC109_1.out); rintro e w' ⟨rfl, ⟨nd, rfl⟩⟩; refine ⟨_, rfl, ?_⟩; have p111 : 0 ≤ (x10_2 : Int) := dT; have q111 : x10_2 < (l1.length : Int) := dT; obtain ⟨ad111, A111_0, c111_0, A111_1, c111_1, e111, hx111_0, hx111_1, hx111_2, hl111_0, hi111_0, hl111_1, hi111_1⟩ := Xl HR1.out x10_2 p111 q111; obtain rfl : ad107 = ad111 := (by injection e111); replace hx111_0 := cut_ HB hx111_0; replace hx111_1 := cut_ HB hx111_1; replace hx111_2 := cut_ HB hx111_2; have HR111_0 := Qa.mk hi111_0; have HC111_0 := Qa.mk hl111_0; clear hi111_0 hl111_0; have HR111_1 := Qa.mk hi111_1; have HC111_1 := Qa.mk hl111_1; clear hi111_1 hl111_1; replace p111 := eq_true p111; replace q111 := eq_true q111; have ea_ := Option.some.inj (hx109_0.symm.trans hx111_0); injection ea_ with ea_ en_ ec_; subst ea_; subst ec_; clear en_; have ea_ := Option.some.inj (hx109_1.symm.trans hx111_1); injection ea_ with ea_ en_ ec_; subst ea_; subst ec_; clear en_))
              go_roundg kj9
              case measure => have := HK1.out; have := HK2.out; have := HJ9.out; omega
              case rel => exact ⟨(wrap64 (x9_2 + 1)), (wrap64 (x10_2 + 1)), eS, eS, H', ⟨by have := HK1.out; have := HK2.out; have := HJ9.out; omega⟩, ⟨by (with_reducible repeat (first | apply Kd.R_alloc | apply Kd.R_drewN | apply Kd.R_drew)); exact HO_7.out⟩, ⟨pE HB⟩⟩
            ·replace c15 := Bool.eq_false_iff.mpr c15
             subst c15; rw [if_neg (show ¬ (false = true) by decide)] at H; by_cases c17 : ((Ql l1 x10_2).f2) = x11_9
             ·rw [if_pos c17] at H
              have c17b0 : (((Ql l1 x10_2).f2) == x11_9) = true := beq_iff_eq.mpr c17; have c17b1 : (((Ql l1 x10_2).f2) != x11_9) = false := bne_eq_false_iff_eq.mpr c17; clear c17; have H' := Qa.mk H; clear H; have p109 : 0 ≤ (x10_2 : Int) := dT; have q109 : x10_2 < (l1.length : Int) := dT; obtain ⟨ad109, A109_0, c109_0, A109_1, c109_1, e109, hx109_0, hx109_1, hx109_2, hl109_0, hi109_0, hl109_1, hi109_1⟩ := Xl HR1.out x10_2 p109 q109; obtain rfl : ad107 = ad109 := (by injection e109); replace hx109_0 := cut_ HB hx109_0; replace hx109_1 := cut_ HB hx109_1; replace hx109_2 := cut_ HB hx109_2; have HR109_0 := Qa.mk hi109_0; have HC109_0 := Qa.mk hl109_0; clear hi109_0 hl109_0; have HR109_1 := Qa.mk hi109_1; have HC109_1 := Qa.mk hl109_1; clear hi109_1 hl109_1; replace p109 := eq_true p109; replace q109 := eq_true q109; go_wp2_with (first | ((with_reducible refine gc 98 rfl ?_); refine gL 37 Tryz.func98 #[.slice A109_1 ((Ql l1 x10_2).f1).length c109_1, .int .i64 x8_1] ?_; (with_reducible refine (Qat.calls kj9 _ _ ((Ql l1 x10_2).f1) x8_1 false _ ?side1 ?side2 A14.out).mono ?_); (case side1 => exact pC (Kd.C_below HR109_1.out HB.out)); (case side2 => exact HC109_1.out); rintro e w' ⟨rfl, ⟨nd, rfl⟩⟩; refine ⟨_, rfl, ?_⟩; have p112 : 0 ≤ (x10_2 : Int) := dT; have q112 : x10_2 < (l1.length : Int) := dT; obtain ⟨ad112, A112_0, c112_0, A112_1, c112_1, e112, hx112_0, hx112_1, hx112_2, hl112_0, hi112_0, hl112_1, hi112_1⟩ := Xl HR1.out x10_2 p112 q112; obtain rfl : ad107 = ad112 := (by injection e112); replace hx112_0 := cut_ HB hx112_0; replace hx112_1 := cut_ HB hx112_1; replace hx112_2 := cut_ HB hx112_2; have HR112_0 := Qa.mk hi112_0; have HC112_0 := Qa.mk hl112_0; clear hi112_0 hl112_0; have HR112_1 := Qa.mk hi112_1; have HC112_1 := Qa.mk hl112_1; clear hi112_1 hl112_1; replace p112 := eq_true p112; replace q112 := eq_true q112; have ea_ := Option.some.inj (hx109_0.symm.trans hx112_0); injection ea_ with ea_ en_ ec_; subst ea_; subst ec_; clear en_; have ea_ := Option.some.inj (hx109_1.symm.trans hx112_1); injection ea_ with ea_ en_ ec_; subst ea_; subst ec_; clear en_))
              go_roundg kj9
              case measure => have := HK1.out; have := HK2.out; have := HJ9.out; omega
              case rel => exact ⟨(x9_2), (wrap64 (x10_2 + 1)), eS, eS, H', ⟨by have := HK1.out; have := HK2.out; have := HJ9.out; omega⟩, ⟨by (with_reducible repeat (first | apply Kd.R_alloc | apply Kd.R_drewN | apply Kd.R_drew)); exact HO_7.out⟩, ⟨pE HB⟩⟩
             ·rw [if_neg c17] at H
              have c17b0 : (((Ql l1 x10_2).f2) == x11_9) = false := beq_eq_false_iff_ne.mpr c17; have c17b1 : (((Ql l1 x10_2).f2) != x11_9) = true := bne_iff_ne.mpr c17; have H' := Qa.mk H; clear H; have p109 : 0 ≤ (x10_2 : Int) := dT; have q109 : x10_2 < (l1.length : Int) := dT; obtain ⟨ad109, A109_0, c109_0, A109_1, c109_1, e109, hx109_0, hx109_1, hx109_2, hl109_0, hi109_0, hl109_1, hi109_1⟩ := Xl HR1.out x10_2 p109 q109; obtain rfl : ad107 = ad109 := (by injection e109); replace hx109_0 := cut_ HB hx109_0; replace hx109_1 := cut_ HB hx109_1; replace hx109_2 := cut_ HB hx109_2; have HR109_0 := Qa.mk hi109_0; have HC109_0 := Qa.mk hl109_0; clear hi109_0 hl109_0; have HR109_1 := Qa.mk hi109_1; have HC109_1 := Qa.mk hl109_1; clear hi109_1 hl109_1; replace p109 := eq_true p109; replace q109 := eq_true q109; go_wp2_with (first | ((with_reducible refine gc 98 rfl ?_); refine gL 37 Tryz.func98 #[.slice A109_1 ((Ql l1 x10_2).f1).length c109_1, .int .i64 x8_1] ?_; (with_reducible refine (Qat.calls kj9 _ _ ((Ql l1 x10_2).f1) x8_1 false _ ?side1 ?side2 A14.out).mono ?_); (case side1 => exact pC (Kd.C_below HR109_1.out HB.out)); (case side2 => exact HC109_1.out); rintro e w' ⟨rfl, ⟨nd, rfl⟩⟩; refine ⟨_, rfl, ?_⟩; have p112 : 0 ≤ (x10_2 : Int) := dT; have q112 : x10_2 < (l1.length : Int) := dT; obtain ⟨ad112, A112_0, c112_0, A112_1, c112_1, e112, hx112_0, hx112_1, hx112_2, hl112_0, hi112_0, hl112_1, hi112_1⟩ := Xl HR1.out x10_2 p112 q112; obtain rfl : ad107 = ad112 := (by injection e112); replace hx112_0 := cut_ HB hx112_0; replace hx112_1 := cut_ HB hx112_1; replace hx112_2 := cut_ HB hx112_2; have HR112_0 := Qa.mk hi112_0; have HC112_0 := Qa.mk hl112_0; clear hi112_0 hl112_0; have HR112_1 := Qa.mk hi112_1; have HC112_1 := Qa.mk hl112_1; clear hi112_1 hl112_1; replace p112 := eq_true p112; replace q112 := eq_true q112; have ea_ := Option.some.inj (hx109_0.symm.trans hx112_0); injection ea_ with ea_ en_ ec_; subst ea_; subst ec_; clear en_; have ea_ := Option.some.inj (hx109_1.symm.trans hx112_1); injection ea_ with ea_ en_ ec_; subst ea_; subst ec_; clear en_))
              go_roundg kj9
              case measure => have := HK1.out; have := HK2.out; have := HJ9.out; omega
              case rel => exact ⟨(wrap64 (x9_2 + 1)), (wrap64 (x10_2 + 1)), eS, eS, H', ⟨by have := HK1.out; have := HK2.out; have := HJ9.out; omega⟩, ⟨by (with_reducible repeat (first | apply Kd.R_alloc | apply Kd.R_drewN | apply Kd.R_drew)); exact HO_7.out⟩, ⟨pE HB⟩⟩
           ·rw [if_neg c13] at H
            exact absurd H (by simp)
          ·rw [if_neg c12] at H
           exact absurd H (by simp)
       ·rw [if_neg c8] at H
        exact absurd H (by simp)
      ·rw [if_neg c7] at H
       have c7b0 : decide (x10_2 < (l1.length : Int)) = false := decide_eq_false c7; clear c7; by_cases c18 : x9_2 ≤ a2
       ·rw [if_pos c18] at H
        have c18b0 : decide (x9_2 ≤ a2) = true := decide_eq_true c18; clear c18; by_cases c19 : x7_1.length < 17592186044416
        ·rw [if_pos c19] at H
         have LMc19 := Qa.mk c19; clear c19; obtain ⟨y104, hy104⟩ : ∃ y_ : List Int, y_ = (x7_1 ++ [x8_1]) := ⟨_, rfl⟩
         replace H : (Qar.l0 k2 a0 l1 a2 y104 (wrap64 (x8_1 + 1))) = some r := yy hy104 H; have Ny104 := Qa.mk hy104; clear hy104; have H' := Qa.mk H; clear H; go_wp2_with (first | ((with_reducible refine JA (b := .append) (xs := #[.tmp 50, .tmp 52]) rfl ?_); at_builtin; refine Kd.R_append (Kd.int .i64) (w0 := w) w.heap.size rfl (.tmp 50) (.tmp 52) 27 3 (.int .i64 0) 8 rfl Tryz.underlying27 J5 rfl (by decide) (by omega) u7 x7_1 x8_1 [.int .i64 x8_1] (fun _ => True) (fun _ => False) rfl rfl ?aP (fun _ hk => hk.elim) ?aF ?aO ?aB ?aS ?aL ?_; (case aP => exact rfl); (case aB => exact (pE HB)); (case aF => exact (fun _ _ => trivial)); (case aO => exact (pR HO_7.out)); (case aS => exact (Qr (pE HB))); (case aL => have := LMc19.out; omega); intro v105 w20 ho hb hg hat; rw [← Ny104.out] at ho; replace HB := Qa.mk (hb); have HO106 := Qa.mk (ho); clear HO_7; clear ho hb hg hat))
         go_roundg k2
         case measure => have := HK1.out; have := HK2.out; omega
         case rel => exact ⟨(y104), (wrap64 (x8_1 + 1)), eS, H', ⟨by have := HK1.out; have := HK2.out; omega⟩, ⟨by (with_reducible repeat (first | apply Kd.R_alloc | apply Kd.R_drewN | apply Kd.R_drew)); exact HO106.out⟩, ⟨pE HB⟩⟩
        ·rw [if_neg c19] at H
         exact absurd H (by simp)
       ·rw [if_neg c18] at H
        have c18b0 : decide (x9_2 ≤ a2) = false := decide_eq_false c18; clear c18; have H' := Qa.mk H; clear H; go_wp2
        go_roundg k2
        case measure => have := HK1.out; have := HK2.out; omega
        case rel => exact ⟨(x7_1), (wrap64 (x8_1 + 1)), eS, H', ⟨by have := HK1.out; have := HK2.out; omega⟩, ⟨by (with_reducible repeat (first | apply Kd.R_alloc | apply Kd.R_drewN | apply Kd.R_drew)); exact HO_7.out⟩, ⟨pE HB⟩⟩
   ·rw [if_neg c6] at H
    have c6b0 : decide (x8_1 < a0) = false := decide_eq_false c6; clear c6; obtain rfl := Option.some.inj H; go_wp2; go_ret; exact ⟨_, eT, by (with_reducible repeat (first | apply Kd.R_alloc | apply Kd.R_drewN | apply Kd.R_drew)); exact HO_7.out, pE HB⟩
end Go.Proofs.YtjaapkkpmegkfaaGreat.P
